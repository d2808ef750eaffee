/- code: walk: all to which one comes. -/
import Derived.Test.YtibghcmkmbamjaaGObj
import Derived.Laws.Cover3
namespace Go.Proofs.Ytibghcmkmbamjaa
open Go.RowKit
set_option linter.unusedVariables false
set_option linter.unusedSimpArgs false
set_option linter.unusedSectionVars false
theorem eql56 (A : Option Addr) (n c : Nat) (w : World) : (binOp .eql 56 (.slice A n c) (.slice none 0 0)).run Try.prog w = .ok (.bool A.isNone) w := by
  have h := run_equal_slice_nil (P := Try.prog) w 56 3 A n c Try.underlying56
  simp [binOp, h]
theorem zrows (l : List Int) : (∀ r ∈ l.map encZi, r.length = 1) ∧ ∀ r ∈ l.map encZi, ∀ u ∈ r, u.oneCell' = true := by
  constructor
  · intro r hr
    obtain ⟨q, _, rfl⟩ := List.mem_map.1 hr
    rfl
  · intro r hr u hu
    obtain ⟨q, _, rfl⟩ := List.mem_map.1 hr
    simp [encZi] at hu
    rcases hu with rfl
    rfl
section
variable {w0 w : World} {K : List (Nat × Obj)} {T : Res} [Good T]
set_option maxRecDepth 100000 in
set_option maxHeartbeats 4000000 in
theorem clone104 (H : SepK w0 w K T) {v : Value} {l : List Int} (hp : PartAt w v 1 (l.map encZi)) (hl : l.length ≤ 1000000) :
    Calls Try.prog 104 #[v] w fun e w' => ∃ v', e = .returned v' ∧ SepK w0 w' K (star (rowR 3 1 v' (l.map encZi)) T) := by
  obtain ⟨A, c, rfl, hr, hc⟩ := hp
  rw [List.length_map]
  cases A with
  | none =>
    have hl0 : l = [] := by
      cases l with
      | nil => rfl
      | cons x l =>
        obtain ⟨b, off, e, _⟩ := hr 0 (encZi x) rfl
        cases e
    subst hl0
    rw [hc rfl]
    have heq := eql56 none 0 0
    go_enter Try.func104, Try.ntmps104
    go_wp2_with fail
    go_ret
    exact ⟨.slice none 0 0, rfl, H.row0 3 1⟩
  | some ad =>
    obtain ⟨i0, hi0, hz0, hz1, hz2⟩ := info_parts info3
    have H1 := H.row1 3 1 #[] rfl
    have hpt : PartAt (w.alloc (.cells #[] 3)) (.slice (some ad) l.length c) 1 (l.map encZi) := ⟨_, c, by rw [List.length_map], hr.keep ((Upd.refl [] w).alloc _), hc⟩
    clear hr
    have heq := eql56 (some ad) l.length c
    go_enter Try.func104, Try.ntmps104
    go_wp2_with (at_builtin; refine wl_part rfl (.tmp 5) (.tmp 6) 56 rfl 3 i0 (.int .i64 0) 1 8 Try.underlying56 hi0 hz0 hz1 hz2 rfl (by decide) _ _ rfl H1 _ (l.map encZi) rfl hpt (zrows l).1 (zrows l).2 (by unfold maxLen; simp; omega) (by simp; omega) ?_; intro v1 w4 h6)
    rw [List.nil_append] at h6
    obtain ⟨A6, c6, rfl, -⟩ := h6.row
    go_wp2_with fail
    go_ret
    exact ⟨_, rfl, h6⟩
/-- Rows stay while a map turns. -/
theorem RowsAt.keepM {w w' : World} {A : Option Addr} {l : List Int} {b : Nat} {e : Array MapEntry} {ck : Nat} (h : RowsAt w A 1 (l.map encZi)) (hb : w.heap[b]? = some (.map e ck)) (u : Upd [b] w w') : RowsAt w' A 1 (l.map encZi) := fun i r hi => by
  obtain ⟨b', off, e1, hc⟩ := h i r hi
  refine ⟨b', off, e1, fun j v hj => ?_⟩
  have h1 := hc j v hj
  have hne : b' ≠ b := fun e2 => by
    subst e2
    unfold World.cell? at h1
    simp [hb] at h1
  exact u.cell h1 (by simpa using hne)
/-- What a function value that steps answers, whatever was laid since. -/
def Steps (w : World) (g : Nat) (bd cp : Array Value) (D : Int → Prop) (steps : Int → List Int) : Prop :=
  ∀ (x : Int) (W : World), D x → Upd [] w W → Calls Try.prog g (bd.push (.int .i64 x) ++ cp) W fun e W' => ∃ B k, e = .returned (.slice B (steps x).length k) ∧ RowsAt W' B 1 ((steps x).map encZi) ∧ (B = none → k = 0) ∧ Upd [] W W'
theorem star_tail {R : Res} [Good T] {N : Nat → Prop} (h : star R T w N) : T w N := by
  obtain ⟨A, B, h1, h2, h3, h4, h5⟩ := h
  exact Good.mono h2 fun b _ hb => h4 b hb
theorem SepK.newRow {w w' : World} {R : Res} [Good R] (h : SepK w w' [] (star R emp)) : R w' (fun b => w.heap.size ≤ b) := by
  obtain ⟨u, A, B, h1, ⟨A', B', h2, h3, h4, h5, h6⟩, h7, h8, h9⟩ := h
  exact Good.mono h2 fun b _ hb => h8 b (h4 b hb)
theorem slice_m (b9 o9 n c m : Nat) (h0 : m ≤ n) (h1 : n ≤ c) (w' : World) : (Instr.slice 56 (.slice (some ⟨b9, o9, none⟩) n c) (some (.int .i64 (m : Int))) none none).run Try.prog w' = .ok (.slice (if c = m then (some ⟨b9, o9, none⟩ : Option Addr) else (some (⟨b9, o9, none⟩ : Addr)).map fun x => x.add (m * 1)) (n - m) (c - m)) w' := by
  have e7 : (m : Int) ≤ (n : Int) := by omega
  have e8 : (0 : Int) ≤ (m : Int) := by omega
  have e9 : (n : Int) ≤ (c : Int) := by omega
  by_cases hck : c = m
  · subst hck
    go_simp
  · have : ¬ m = c := fun e => hck e.symm
    go_simp
theorem slice1 (b9 o9 n c : Nat) (h0 : 0 < n) (h1 : n ≤ c) (w' : World) : (Instr.slice 56 (.slice (some ⟨b9, o9, none⟩) n c) (some (.int .i64 1)) none none).run Try.prog w' = .ok (.slice (if c = 1 then (some ⟨b9, o9, none⟩ : Option Addr) else (some (⟨b9, o9, none⟩ : Addr)).map fun x => x.add (1 * 1)) (n - 1) (c - 1)) w' := slice_m b9 o9 n c 1 h0 h1 w'
set_option maxRecDepth 100000 in
set_option maxHeartbeats 8000000 in
theorem walk73 (H : SepK w0 w K T) {A : Option Addr} {c : Nat} {first : List Int} (hr : RowsAt w A 1 (first.map encZi)) (hlc : first.length ≤ c) (hc : A = none → c = 0) (g : Nat) (bd cp : Array Value) (eg : ∀ args w, (callFunc g args).run Try.prog w = .ok (.enter g args) w) (D : Int → Prop) (steps : Int → List Int) (hst : Steps w0 g bd cp D steps) (hD1 : ∀ x ∈ first, D x) (hD2 : ∀ x, D x → ∀ y ∈ steps x, D y) (hD3 : ∀ x, D x → okI x) (F : Nat) (seen : List Int) (hF : walkP steps F first [] = some seen) (hF1 : F ≤ 100000) (hb1 : first.length ≤ 2000) (hb2 : ∀ x, (steps x).length ≤ 2000) :
    Calls Try.prog 73 #[.slice A first.length c, .func (.func g) bd cp] w fun e w' => ∃ b sl, e = .returned (.map (some b)) ∧ SepK w0 w' K (star (mapR (Value.int .i64) Value.bool okI b sl) T) ∧ ∀ x, (aget sl x).getD false = decide (x ∈ seen) := by
  have hmm := @run_makeMap Try.prog
  have H1 := H.map0 (Value.int .i64) Value.bool okI
  have hr1 := hr.keep ((Upd.refl [] w).alloc (.map #[] 0))
  clear hr
  go_enter Try.func73, Try.ntmps73
  go_wp2_with fail
  generalize w.heap.size = b at H1 ⊢
  generalize w.alloc (.map #[] 0) = w1 at H1 hr1 ⊢
  go_loopg [6] F (fun kq v6 w' => ∃ (A : Option Addr) (c : Nat) (todo sn : List Int) (sl : List (Int × Bool)), v6 = .slice A todo.length c ∧ RowsAt w' A 1 (todo.map encZi) ∧ todo.length ≤ c ∧ (A = none → c = 0) ∧ SepK w0 w' K (star (mapR (Value.int .i64) Value.bool okI b sl) T) ∧ (∀ x, (aget sl x).getD false = decide (x ∈ sn)) ∧ walkP steps kq todo sn = some seen ∧ (∀ x ∈ todo, D x) ∧ todo.length + kq * 2000 ≤ 2000 + F * 2000)
  case atStart => exact ⟨A, c, first, [], [], rfl, hr1, hlc, hc, H1, fun x => by simp [aget], hF, hD1, by omega⟩
  case round =>
    clear H1 hr1 hc hlc hD1 hF H
    obtain ⟨A, c, todo, sn, sl, rfl, hr, hlc, hc, hS, hsn, hw, hD, hlen⟩ := hrel
    cases todo with
    | nil =>
      have hse : sn = seen := by cases gk <;> simpa [walkP] using hw
      go_wp2_with fail
      go_ret
      exact ⟨b, sl, rfl, hS, fun x => by rw [← hse]; exact hsn x⟩
    | cons a rest =>
      cases gk with
      | zero => simp [walkP] at hw
      | succ f =>
        rw [walkP] at hw
        obtain ⟨b9, o9, rfl, k0⟩ := cellZ hr (i := 0) (x := a) rfl
        have hDa := hD a (by simp)
        have hoka := hD3 a hDa
        have pd := part_drop (m := 1) hr (by simp) (by simpa using hlc) hc
        obtain ⟨Ad, hAd⟩ : ∃ Ad, Ad = (if c = 1 then (some ⟨b9, o9, none⟩ : Option Addr) else (some (⟨b9, o9, none⟩ : Addr)).map fun x => x.add (1 * 1)) := ⟨_, rfl⟩
        rw [← hAd] at pd
        have hpart : RowsAt wr Ad 1 (rest.map encZi) ∧ (Ad = none → c - 1 = 0) := by
          obtain ⟨A', c', e, h1, h2⟩ := pd
          cases e
          exact ⟨h1, h2⟩
        obtain ⟨n, hn⟩ : ∃ n, n = (a :: rest).length := ⟨_, rfl⟩
        have hn1 : n - 1 = rest.length := by rw [hn]; simp
        have hn0 : 0 < n := by rw [hn]; simp
        rw [← hn] at hlc hlen ⊢
        have hsl : ∀ w', (Instr.slice 56 (.slice (some ⟨b9, o9, none⟩) n c) (some (.int .i64 1)) none none).run Try.prog w' = .ok (.slice Ad (n - 1) (c - 1)) w' := fun w' => by
          rw [hAd]
          exact slice1 b9 o9 n c hn0 hlc w'
        simp only [Nat.add_zero] at k0
        have r1 := look83 hS.map a hoka
        rw [hsn a] at r1
        have hD' : ∀ x ∈ rest, D x := fun x hx => hD x (by simp [hx])
        have z0 : decide ((0 : Int) < (n : Int)) = true := decide_eq_true (by omega)
        have z1 : (0 : Int) < (n : Int) := by omega
        rw [hn1] at hsl
        clear hAd pd hr hn
        by_cases hin : a ∈ sn
        · rw [if_pos hin] at hw
          rw [decide_eq_true hin] at r1
          go_wp2_with fail
          go_roundg f
          case measure => omega
          case rel => exact ⟨Ad, c - 1, rest, sn, sl, rfl, hpart.1, by omega, hpart.2, hS, hsn, hw, hD', by omega⟩
        · rw [if_neg hin] at hw
          rw [decide_eq_false hin] at r1
          obtain ⟨es, ck, g1, -⟩ := hS.map
          go_wp2_with (at_mapUpdate; refine wl_mapUpdate rfl (.tmp 22) (.tmp 23) _ rfl ki Try.underlying83 rfl hS.map a true rfl rfl hoka ?_; intro w2 m2 u2 _)
          have hS2 : SepK w0 w2 K (star (mapR (Value.int .i64) Value.bool okI b (aput sl a true)) T) := hS.step (fun N hR hN => ⟨⟨m2, hR.2⟩, .of1 u2 hR.2⟩)
          have hr2 := hpart.1.keepM g1 u2
          clear hS m2 u2 g1 r1 hsl k0
          refine (hst a w2 hDa hS2.u).mono ?_
          rintro e w3 ⟨B, k, rfl, hB, hBk, u3⟩
          have hS3 := hS2.upd u3
          have hr3 := hr2.keep u3
          have hls := hb2 a
          go_wp2_with fail
          refine (clone104 (SepK.start w3) (l := steps a) ⟨B, k, by rw [List.length_map], hB, hBk⟩ (by omega)).mono ?_
          rintro e w4 ⟨v4, rfl, hC⟩
          have hS4 := hS3.more hC.u hC.newRow (fun _ h => h)
          have hr4 := hr3.keep hC.u
          obtain ⟨i0, hi0, hz0, hz1, hz2⟩ := info_parts info3
          have hrest : rest.length ≤ 300000000 := by omega
          have hpt : PartAt w4 (.slice Ad rest.length (c - 1)) 1 (rest.map encZi) := ⟨Ad, c - 1, by rw [List.length_map], hr4, hpart.2⟩
          clear hC hS3 hr3 hr2 hS2 hB hBk u3
          go_wp2_with (at_builtin; refine wl_part rfl (.tmp 27) (.tmp 28) 56 rfl 3 i0 (.int .i64 0) 1 8 Try.underlying56 hi0 hz0 hz1 hz2 rfl (by decide) _ _ rfl hS4 _ (rest.map encZi) rfl hpt (zrows rest).1 (zrows rest).2 (by unfold maxLen; simp; omega) (by simp; omega) ?_; intro v5 w5 h6)
          rw [← List.map_append] at h6
          obtain ⟨A5, c5, rfl, hr5, hl5, hm5, hc5⟩ := h6.parts
          rw [List.length_map] at hl5 h6
          go_wp2_with fail
          go_roundg f
          case measure => omega
          case rel =>
            refine ⟨A5, c5, steps a ++ rest, sn ++ [a], aput sl a true, by rw [List.length_map], hr5, hl5, hc5, h6.imp fun _ g => star_tail g, fun x => ?_, hw, fun x hx => ?_, ?_⟩
            · rw [aget_aput]
              by_cases e : a = x
              · subst e; simp
              · rw [if_neg e, hsn x]
                simp [show ¬ x = a from fun h => e h.symm]
            · rcases List.mem_append.1 hx with hx | hx
              · exact hD2 a hDa x hx
              · exact hD' x hx
            · rw [List.length_append]
              omega
end
end Go.Proofs.Ytibghcmkmbamjaa
