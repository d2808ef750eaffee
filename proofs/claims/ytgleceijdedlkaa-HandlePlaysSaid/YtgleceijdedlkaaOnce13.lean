/- HandleOnce: the walk. -/
import Derived.Test.YtgleceijdedlkaaAll
import Derived.Test.YtgleceijdedlkaaWorks13
import Derived.Test.YtgleceijdedlkaaApart12
import Derived.Deep.RegionHeld3
import Derived.Deep.QuietTactic
import Derived.BigQuiet
import Derived.IntWalk
namespace Go.Proofs.Ytgleceijdedlkaa
open Go.RowKit
set_option linter.unusedVariables false
set_option linter.unusedSimpArgs false
def lv (V : Lives) (q : Int × Int) : Bool := decide (aget V q.1 = some q)
/-- What the steps have made of a table, and of what was written down. -/
structure On (n : Nat) (L : Lasts) (V : Lives) (seen : List ((Int × Int) × Int)) (al : List (Int × Int)) : Prop where
  ok : ∀ q ∈ al, okH q
  nd : al.Nodup
  seen_in : ∀ q ∈ al, (aget seen q).getD 0 = if lv V q = true then 1 else 2
  seen_out : ∀ q, q ∉ al → (aget seen q).getD 0 = 0
  live : ∀ s h, aget V s = some h → h.1 = s ∧ h ∈ al
  last : ∀ q ∈ al, 1 ≤ q.2 ∧ ∃ g, aget L q.1 = some g ∧ q.2 ≤ g
  bd : ∀ s g, aget L s = some g → 0 ≤ g ∧ g ≤ n
  len : al.length ≤ n
  vlen : V.length ≤ n
section
variable {n : Nat} {L : Lasts} {V : Lives} {seen : List ((Int × Int) × Int)} {al : List (Int × Int)}
theorem On.start : On 0 [] [] [] [] := ⟨by simp, by simp, by simp, fun q _ => rfl, fun s h e => (by cases e), by simp, fun s g e => (by cases e), by simp, by simp⟩
theorem On.more (h : On n L V seen al) : On (n + 1) L V seen al :=
  { h with bd := fun s g e => by have := h.bd s g e; omega, len := by have := h.len; omega, vlen := by have := h.vlen; omega }
theorem On.gen (h : On n L V seen al) (hn : n ≤ 1000) (s : Int) : genOf L s = (aget L s).getD 0 + 1 ∧ 0 ≤ (aget L s).getD 0 ∧ (aget L s).getD 0 ≤ n := by
  have hb : 0 ≤ (aget L s).getD 0 ∧ (aget L s).getD 0 ≤ n := by
    cases hq : aget L s with
    | none => simp
    | some g => have := h.bd s g hq; simpa using this
  refine ⟨?_, hb⟩
  unfold genOf
  rw [IntKind.wrap_u64]
  omega
theorem On.fresh (h : On n L V seen al) (hn : n ≤ 1000) (s : Int) : (s, genOf L s) ∉ al := fun hm => by
  obtain ⟨h1, g, h2, h3⟩ := h.last _ hm
  have := (h.gen hn s).1
  simp only at h2 h3
  rw [h2] at this
  simp only [Option.getD_some] at this
  omega
theorem lv_put (V : Lives) (s : Int) (q p : Int × Int) (hq : q.1 = s) (hV : aget V s = none) : lv (aput V s q) p = if p = q then true else lv V p := by
  unfold lv
  rw [aget_aput]
  by_cases e : s = p.1
  · rw [if_pos e]
    by_cases e2 : p = q
    · simp [e2]
    · simp [e2, Ne.symm e2, ← e, hV]
  · rw [if_neg e]
    by_cases e2 : p = q
    · subst e2; exact absurd hq.symm e
    · simp [e2]
theorem lv_del (V : Lives) (q p : Int × Int) (hq : lv V q = true) : lv (adel V q.1) p = if p = q then false else lv V p := by
  unfold lv at hq ⊢
  have hq' := of_decide_eq_true hq
  rw [aget_adel]
  by_cases e : q.1 = p.1
  · rw [if_pos e, ← e, hq']
    by_cases e2 : p = q
    · simp [e2]
    · simp [e2, Ne.symm e2]
  · rw [if_neg e]
    by_cases e2 : p = q
    · subst e2; exact absurd rfl e
    · simp [e2]
theorem On.made (h : On n L V seen al) (hn : n ≤ 1000) (s : Int) (hs : okI s) (hV : aget V s = none) : On (n + 1) (aput L s (genOf L s)) (aput V s (s, genOf L s)) (aput seen (s, genOf L s) 1) (al ++ [(s, genOf L s)]) := by
  have hf := h.fresh hn s
  obtain ⟨g1, g2, g3⟩ := h.gen hn s
  refine ⟨fun q hq => ?_, ?_, fun q hq => ?_, fun q hq => ?_, fun s' q hq => ?_, fun q hq => ?_, fun s' g hq => ?_, by simp [h.len], by have := length_aput V s (s, genOf L s); have := h.vlen; omega⟩
  · rcases List.mem_append.1 hq with hq | hq
    · exact h.ok q hq
    · obtain rfl := List.mem_singleton.1 hq
      exact ⟨hs, wf_u64 _⟩
  · exact List.nodup_append.2 ⟨h.nd, by simp, fun a ha b hb e => by simp at hb; subst e hb; exact hf ha⟩
  · rw [lv_put V s _ q rfl hV, aget_aput]
    rcases List.mem_append.1 hq with hq | hq
    · have hne : q ≠ (s, genOf L s) := fun e => hf (e ▸ hq)
      rw [if_neg (Ne.symm hne), if_neg hne]
      exact h.seen_in q hq
    · obtain rfl := List.mem_singleton.1 hq
      simp
  · simp only [List.mem_append, List.mem_singleton, not_or] at hq
    rw [aget_aput, if_neg (Ne.symm hq.2)]
    exact h.seen_out q hq.1
  · rw [aget_aput] at hq
    split at hq
    · rename_i e
      cases hq
      exact ⟨e, by simp⟩
    · have := h.live s' q hq
      exact ⟨this.1, List.mem_append_left _ this.2⟩
  · rcases List.mem_append.1 hq with hq | hq
    · obtain ⟨a, g, b, c⟩ := h.last q hq
      refine ⟨a, ?_⟩
      rw [aget_aput]
      split
      · rename_i e
        refine ⟨_, rfl, ?_⟩
        rw [g1, e, b]
        simp only [Option.getD_some]
        omega
      · exact ⟨g, b, c⟩
    · obtain rfl := List.mem_singleton.1 hq
      refine ⟨by simp only; omega, _, aget_aput_self _ _ _, Int.le_refl _⟩
  · rw [aget_aput] at hq
    split at hq
    · cases hq
      omega
    · have := h.bd s' g hq
      omega
theorem On.drop (h : On n L V seen al) (q : Int × Int) (hm : q ∈ al) : On n L (drV V q.1 q.2) (aput seen q 2) al := by
  have hd : ∀ p, p ≠ q → lv (drV V q.1 q.2) p = lv V p := fun p hp => by
    unfold drV
    split
    · rename_i e
      rw [lv_del V q p (decide_eq_true e), if_neg hp]
    · rfl
  have hq : lv (drV V q.1 q.2) q = false := by
    unfold drV
    split
    · rename_i e
      rw [lv_del V q q (decide_eq_true e), if_pos rfl]
    · rename_i e
      exact decide_eq_false e
  refine ⟨h.ok, h.nd, fun p hp => ?_, fun p hp => ?_, fun s p hp => ?_, h.last, h.bd, h.len, ?_⟩
  · rw [aget_aput]
    by_cases e : q = p
    · subst e; simp [hq]
    · rw [if_neg e, hd p (Ne.symm e)]
      exact h.seen_in p hp
  · rw [aget_aput, if_neg (fun e : q = p => hp (e ▸ hm))]
    exact h.seen_out p hp
  · unfold drV at hp
    split at hp
    · rw [aget_adel] at hp
      split at hp
      · cases hp
      · exact h.live s p hp
    · exact h.live s p hp
  · unfold drV
    split
    · have := length_adel V q.1
      have := h.vlen
      omega
    · exact h.vlen
theorem On.count (h : On n L V seen al) (hnd : (V.map (·.1)).Nodup) : (al.filter (lv V)).length = V.length := by
  have hkey : ∀ p ∈ V, p.2.1 = p.1 ∧ p.2 ∈ al := fun p hp => h.live p.1 p.2 (aget_of_mem hnd hp)
  have e1 : V.map (·.2.1) = V.map (·.1) := List.map_congr_left fun p hp => (hkey p hp).1
  have hnd2 : (V.map (·.2)).Nodup := by
    have : ((V.map (·.2)).map (·.1)).Nodup := by rw [List.map_map]; exact e1 ▸ hnd
    exact (List.pairwise_map.1 this).imp fun hne e => hne (congrArg _ e)
  have hp : (al.filter (lv V)).Perm (V.map (·.2)) := (List.perm_ext_iff_of_nodup (h.nd.filter _) hnd2).2 fun q => by
    rw [List.mem_filter, List.mem_map]
    constructor
    · intro ⟨h1, h2⟩
      exact ⟨(q.1, q), aget_mem (of_decide_eq_true h2), rfl⟩
    · rintro ⟨p, hp, rfl⟩
      have := hkey p hp
      refine ⟨this.2, ?_⟩
      unfold lv
      rw [this.1]
      exact decide_eq_true (aget_of_mem hnd hp)
  rw [hp.length_eq, List.length_map]
end
theorem liveOf_len (V : Lives) : ((liveOf V).map encH).length = V.length := by simp [liveOf, keysOf_len]
section
variable {w0 w : World} {K : List (Nat × Obj)} {T : Res} {t : Nat} {L : Lasts} {V : Lives}
theorem SepK.liveNd (h : SepK w0 w K (star (tabR t L V) T)) : (V.map (·.1)).Nodup := by
  obtain ⟨N, bl, bv, h1, -⟩ := h.get
  exact h1.live.nodup ki
end
theorem mk_yes (L : Lasts) (V : Lives) (s : Int) (h0 : 0 ≤ s) (hv : aget V s = none) : mkH L V s = (s, genOf L s) ∧ mkE V s = 0 ∧ mkL L V s = aput L s (genOf L s) ∧ mkV L V s = aput V s (s, genOf L s) := by
  have hk : mkOk V s = true := by simp [mkOk, h0, hv]
  unfold mkH mkE mkL mkV
  rw [hk, hv]
  simp
  omega
theorem mk_no (L : Lasts) (V : Lives) (s : Int) (h0 : 0 ≤ s) (hv : aget V s ≠ none) : mkH L V s = (0, 0) ∧ mkE V s = 7 ∧ mkL L V s = L ∧ mkV L V s = V := by
  obtain ⟨q, hq⟩ := Option.ne_none_iff_exists'.1 hv
  have hk : mkOk V s = false := by simp [mkOk, hq]
  unfold mkH mkE mkL mkV
  rw [hk, hq]
  simp
  omega
theorem cell_lt {w : World} {g o : Nat} {v : Value} (h : w.cell? ⟨g, o, none⟩ = some v) : g < w.heap.size := by
  unfold World.cell? at h
  split at h
  · exact (Array.getElem?_eq_some_iff.1 ‹_›).1
  · cases h
theorem rowat {w0 w : World} {K : List (Nat × Obj)} {R T U : Res} {bo oo n c : Nat} {al : List (Int × Int)} (h : SepK w0 w K (star R (star T (star (rowR 30 2 (.slice (some ⟨bo, oo, none⟩) n c) (al.map encH)) U)))) {m : Nat} {p : Int × Int} (hp : al[m]? = some p) :
    w.cell? ⟨bo, oo + m * 2, none⟩ = some (.int .i64 p.1) ∧ w.cell? ⟨bo, oo + m * 2 + 1, none⟩ = some (.int .u64 p.2) := by
  obtain ⟨A, c', e, hr⟩ := h.pull2.row
  cases e
  obtain ⟨b', o', e, hc⟩ := hr m (encH p) (by rw [List.getElem?_map, hp]; rfl)
  cases e
  exact ⟨hc 0 _ rfl, hc 1 _ rfl⟩
set_option maxRecDepth 100000 in
set_option maxHeartbeats 8000000 in
theorem once_walk (A : Option Addr) (c : Nat) (l : List UInt8) (A2 : Option Addr) (c2 : Nat) (l2 : List UInt8) (w : World) (hl : BytesRd w A l) (hl2 : BytesRd w A2 l2) :
    Calls Try.prog 9 #[.slice A l.length c, .slice A2 l2.length c2] w fun e w' => e = .returned (.bool true) ∧ Upd [] w w' := by
  by_cases c1 : (200 : Int) < l.length
  · have z1 : decide ((200 : Int) < l.length) = true := decide_eq_true c1
    go_enter Try.func9, Try.ntmps9
    go_wp2_with (go_at_call 17; (with_reducible refine (works13 _).mono ?_); rintro e w1 ⟨rfl, u1⟩)
    go_ret
    exact ⟨rfl, u1⟩
  have z1 : decide ((200 : Int) < l.length) = false := decide_eq_false c1
  by_cases c3 : (200 : Int) < l2.length
  · have z2 : decide ((200 : Int) < l2.length) = true := decide_eq_true c3
    go_enter Try.func9, Try.ntmps9
    go_wp2_with (go_at_call 17; (with_reducible refine (works13 _).mono ?_); rintro e w1 ⟨rfl, u1⟩)
    go_ret
    exact ⟨rfl, u1⟩
  have z2 : decide ((200 : Int) < l2.length) = false := decide_eq_false c3
  obtain ⟨M, hM1, hM2, hM3⟩ : ∃ M, l.length ≤ M ∧ l2.length ≤ M ∧ M ≤ 200 := ⟨max l.length l2.length, by omega, by omega, by omega⟩
  go_enter Try.func9, Try.ntmps9
  go_wp2_with fail
  refine (tNew (SepK.start w)).mono ?_
  rintro e w1 ⟨t, rfl, h1⟩
  have h2 := ((h1.map0 eh (Value.int .i64) okH).swap.row0 30 2).push2
  have hmm := @run_makeMap Try.prog
  go_wp2_with fail
  generalize hbc : w1.heap.size = bc at h2 ⊢
  generalize hw2 : w1.alloc (.map #[] 0) = w2 at h2 ⊢
  clear hbc hw2 h1
  go_loopg [7, 8] (M + 1) (fun kq v7 v8 w' => ∃ (i : Nat) (L : Lasts) (V : Lives) (seen : List ((Int × Int) × Int)) (al : List (Int × Int)), v8 = .int .i64 (i : Int) ∧ kq + i = M + 1 ∧ i ≤ M ∧ SepK w w' [] (star (tabR t L V) (star (mapR eh (Value.int .i64) okH bc seen) (star (rowR 30 2 v7 (al.map encH)) emp))) ∧ On i L V seen al)
  case atStart => exact ⟨0, [], [], [], [], rfl, rfl, by omega, h2, On.start⟩
  case round =>
    clear h2
    obtain ⟨i, L, V, seen, al, rfl, hk, hiM, hS, hO⟩ := hrel
    obtain rfl : gk = M + 1 - i := by omega
    by_cases hi : i < l.length ∨ i < l2.length
    · have hin : ¬ i < l.length → i < l2.length := fun h => by omega
      have hz : i < l.length ∨ (¬ i < l.length ∧ i < l2.length) := by omega
      clear hi hin
      obtain ⟨A7, c7, rfl, hrow⟩ := hS.pull2.row
      rw [List.length_map] at hS ⊢
      clear hrow
      rcases hz with hz | ⟨hz, hz2⟩
      · skip
        obtain ⟨x, hx⟩ : ∃ x, l[i]? = some x := ⟨l[i], List.getElem?_eq_getElem hz⟩
        obtain ⟨g, off, rfl, hc⟩ := (hl.keep hS.u) i x hx
        obtain ⟨b0, b1⟩ := byteBd x
        have hxI : okI (x.toNat : Int) := WalkArith.wf_i64 (by omega)
        go_wp2_with fail
        refine (tMake hS (x.toNat : Int) hxI).mono ?_
        rintro e wa ⟨rfl, ha⟩
        have hlen := hO.len
        clear hc hS
        go_upto_if 52 with fail
        go_cut [7, 10] (fun v7 v10 w' => ∃ (L : Lasts) (V : Lives) (seen : List ((Int × Int) × Int)) (al : List (Int × Int)), SepK w w' [] (star (tabR t L V) (star (mapR eh (Value.int .i64) okH bc seen) (star (rowR 30 2 v7 (al.map encH)) emp))) ∧ On (i + 1) L V seen al)
        case first =>
          by_cases hv : aget V (x.toNat : Int) = none
          · obtain ⟨e1, e2, e3, e4⟩ := mk_yes L V (x.toNat : Int) b0 hv
            rw [e1, e2]
            rw [e3, e4] at ha
            have hO' := hO.made (by omega) (x.toNat : Int) hxI hv
            have hsn := hO.seen_out _ (hO.fresh (by omega) (x.toNat : Int))
            have hgI : okH ((x.toNat : Int), genOf L (x.toNat : Int)) := hO'.ok _ (by simp)
            obtain ⟨gg, hgg⟩ : ∃ gg, gg = genOf L (x.toNat : Int) := ⟨_, rfl⟩
            rw [← hgg] at hO' hsn hgI ha ⊢
            clear hgg e1 e2 e3 e4 hv
            obtain ⟨g', off', e8, hc⟩ := (hl.keep ha.u) i x hx
            cases e8
            have lg : g < wa.heap.size := cell_lt hc
            have h5 := ha.alloc (.cells #[.int .i64 (x.toNat : Int), .int .u64 gg] 30)
            have r1 := look53 h5.swap.map ((x.toNat : Int), gg) hgI
            rw [hsn] at r1
            obtain ⟨i0, hi0, hz0, hz1, hz2⟩ := info_parts info30
            go_wp2_with fail
            have h5d := h5.upd (Upd.refl [] _).drew
            have r1d := look53 h5d.swap.map ((x.toNat : Int), gg) hgI
            rw [hsn] at r1d
            have fd := h5d.blk List.mem_cons_self
            have k0 := cell_of fd 0
            have k1 := cell_of fd 1
            simp only [List.getElem?_toArray, List.getElem?_cons_zero, List.getElem?_cons_succ] at k0 k1
            have k2 : ((wa.alloc (.cells #[.int .i64 (x.toNat : Int), .int .u64 gg] 30)).drew).cell? ⟨g, off + i, none⟩ = some (.int .u8 (x.toNat : Int)) := (((Upd.refl [] wa).alloc _).drew).cell hc (by simp)
            have yw : IntKind.i64.wrap (x.toNat : Int) = (x.toNat : Int) := IntWalk.i64_in _ (by omega)
            have y5 : ((x.toNat : Int) != (x.toNat : Int)) = false := by simp
            clear r1
            go_region_held3 (fun w' => w'.cell? ⟨wa.heap.size, 0, none⟩ = some (.int .i64 (x.toNat : Int)) ∧ w'.cell? ⟨wa.heap.size, 1, none⟩ = some (.int .u64 gg) ∧ w'.cell? ⟨g, off + i, none⟩ = some (.int .u8 (x.toNat : Int))) (exact ⟨k0, k1, k2⟩) (first | fail)
            clear yw
            clear r1d lg hc k0 k1 k2 fd
            have f0 := h5d.blk List.mem_cons_self
            have q0 := cell_of f0 0
            have q1 := cell_of f0 1
            simp only [List.getElem?_toArray, List.getElem?_cons_zero, List.getElem?_cons_succ] at q0 q1
            go_wp2_with (first
              | (at_mapUpdate; refine wl_put rfl (.tmp 67) (.tmp 68) _ rfl kh Try.underlying53 rfl h5d.swap ((x.toNat : Int), gg) 1 rfl rfl hgI ?_; intro w4 h6; clear q0 q1 f0; have f0 := h6.blk (b := wa.heap.size) List.mem_cons_self; have q0 := cell_of f0 0; have q1 := cell_of f0 1; simp only [List.getElem?_toArray, List.getElem?_cons_zero, List.getElem?_cons_succ] at q0 q1; have h7 := (h6.swap.pull2).alloc (.cells #[.int .i64 (x.toNat : Int), .int .u64 gg] 30))
              | (at_builtin; refine wl_append rfl _ _ 54 rfl 30 i0 (.agg #[.int .i64 0, .int .u64 0]) 2 16 Try.underlying54 hi0 hz0 hz1 hz2 rfl (by decide) _ _ rfl h7 ⟨w4.heap.size, 0, none⟩ 1 [.int .i64 (x.toNat : Int), .int .u64 gg] rfl rfl (cell_two_new _ _ _ _) (fun x hx => by simp at hx; rcases hx with rfl | rfl <;> rfl) (by unfold maxLen; simp; omega) (by simp; omega) ?_; intro v' w5 h8))
            go_meet
            case rel =>
              refine ⟨_, _, _, al ++ [((x.toNat : Int), gg)], ?_, hO'⟩
              rw [List.map_append]
              exact h8.push2.drop [] (by simp)
          · obtain ⟨e1, e2, e3, e4⟩ := mk_no L V (x.toNat : Int) b0 hv
            rw [e1, e2]
            rw [e3, e4] at ha
            clear e1 e2 e3 e4 hv
            go_wp2_with fail
            go_meet
            case rel => exact ⟨_, _, _, _, ha.upd ((Upd.refl [] _).alloc _), hO.more⟩
        case rest =>
          clear ha hO hlen
          obtain ⟨L, V, seen, al, hS, hO⟩ := hcut
          obtain ⟨A7, c7, rfl, hrow⟩ := hS.pull2.row
          rw [List.length_map] at hS ⊢
          clear hrow
          by_cases hd : i < l2.length ∧ 0 < al.length
          · obtain ⟨hd1, hd2⟩ := hd
            have z80 : decide ((0 : Int) < (al.length : Int)) = true := decide_eq_true (by omega)
            obtain ⟨x2, hx2⟩ : ∃ x, l2[i]? = some x := ⟨l2[i], List.getElem?_eq_getElem hd1⟩
            obtain ⟨g2, off2, rfl, hc2⟩ := (hl2.keep hS.u) i x2 hx2
            obtain ⟨b2, b3⟩ := byteBd x2
            obtain ⟨m, hm⟩ : ∃ m, m = x2.toNat % al.length := ⟨_, rfl⟩
            have hmi : (x2.toNat : Int) % (al.length : Int) = (m : Int) := by rw [hm]; omega
            have hml : m < al.length := by rw [hm]; exact Nat.mod_lt _ (by omega)
            clear hm
            obtain ⟨q, hq⟩ : ∃ q, al[m]? = some q := ⟨al[m], List.getElem?_eq_getElem hml⟩
            have hqm := List.mem_of_getElem? hq
            have hqo := hO.ok q hqm
            have hsn := hO.seen_in q hqm
            obtain ⟨A9, c9, e9, hr9⟩ := hS.pull2.row
            rw [List.length_map] at e9
            cases e9
            obtain ⟨bo, oo, rfl, -⟩ := hr9 m (encH q) (by rw [List.getElem?_map, hq]; rfl)
            clear hr9
            obtain ⟨m0, m1⟩ := rowat hS hq
            have yb : (0 : Int) ≤ (m : Int) := by omega
            have yc : (m : Int) < (al.length : Int) := by omega
            go_upto_region 18 with fail
            clear hc2 hx2 m0 m1
            go_cut [101] (fun v101 w' => v101 = .bool false ∧ SepK w w' [(wc.heap.size, .cells #[.int .i64 q.1, .int .u64 q.2] 30)] (star (tabR t L (drV V q.1 q.2)) (star (mapR eh (Value.int .i64) okH bc seen) (star (rowR 30 2 (.slice (some ⟨bo, oo, none⟩) al.length c7) (al.map encH)) emp))))
            case first =>
              have hSa := (hS.alloc (.cells #[.int .i64 q.1, .int .u64 q.2] 30)).upd (Upd.refl [] _).drew
              have r1 := look53 hSa.swap.map q hqo
              rw [hsn] at r1
              have hdr : drE V q.1 q.2 = if lv V q = true then 0 else 130 := by unfold drE lv; simp
              cases hb : lv V q
              all_goals
                rw [hb] at r1 hdr hsn
                simp only [Bool.false_eq_true, if_false, if_true] at r1 hdr hsn
                clear hb
                have hh := hSa
                have fq := hh.blk List.mem_cons_self
                have k0 := cell_of fq 0
                have k1 := cell_of fq 1
                simp only [List.getElem?_toArray, List.getElem?_cons_zero, List.getElem?_cons_succ] at k0 k1
                go_region_held3 (fun w' => w'.cell? ⟨wc.heap.size, 0, none⟩ = some (.int .i64 q.1) ∧ w'.cell? ⟨wc.heap.size, 1, none⟩ = some (.int .u64 q.2)) (exact ⟨k0, k1⟩)
                  (first
                    | (go_at_call 20; refine (tDrop hh q.1 q.2 hqo.1).mono ?_; rw [hdr]; rintro e wa ⟨rfl, ha⟩; replace hh := ha; clear r1 k0 k1 fq; have r1 := look53 ha.swap.map q hqo; rw [hsn] at r1; have fq := ha.blk List.mem_cons_self; have k0 := cell_of fq 0; have k1 := cell_of fq 1; simp only [List.getElem?_toArray, List.getElem?_cons_zero, List.getElem?_cons_succ] at k0 k1))
                all_goals
                  go_wp2_with fail
                  go_meet
                  case rel => exact ⟨rfl, hh⟩
            case rest =>
              have hO2 := hO.drop q hqm
              obtain ⟨rfl, hh⟩ := hcut
              have fq := hh.blk List.mem_cons_self
              have k0 := cell_of fq 0
              have k1 := cell_of fq 1
              simp only [List.getElem?_toArray, List.getElem?_cons_zero, List.getElem?_cons_succ] at k0 k1
              clear hS hO hsn
              go_wp2_with (at_mapUpdate; refine wl_put rfl (.tmp 102) (.tmp 103) _ rfl kh Try.underlying53 rfl hh.swap q 2 rfl rfl hqo ?_; intro we hSe)
              clear k0 k1 fq hh
              have hS := hSe.swap.drop [] (by simp)
              have hO := hO2
              clear hSe hO2 hqo hqm hq yb yc
              generalize drV V q.1 q.2 = V2 at hS hO
              generalize aput seen q 2 = seen2 at hS hO
              obtain ⟨nv, hnv⟩ : ∃ nv : Nat → Nat, nv = fun k => ((al.take k).filter (lv V2)).length := ⟨_, rfl⟩
              have hnv0 : nv 0 = 0 := by rw [hnv]; rfl
              have hnvl : ∀ k, nv k ≤ al.length := fun k => by rw [hnv]; exact Nat.le_trans (List.length_filter_le _ _) (by simp; omega)
              go_wp2_with fail
              go_loopg [12, 13] al.length (fun kq v12 v13 w' => ∃ k : Nat, v13 = .int .i64 (k : Int) ∧ v12 = .int .i64 (nv k : Int) ∧ kq + k = al.length ∧ SepK w w' [] (star (tabR t L V2) (star (mapR eh (Value.int .i64) okH bc seen2) (star (rowR 30 2 (.slice (some ⟨bo, oo, none⟩) al.length c7) (al.map encH)) emp))))
              case atStart => exact ⟨0, rfl, by rw [hnv0]; rfl, rfl, hS.drop [] (by simp)⟩
              case round =>
                clear hS
                obtain ⟨k, rfl, rfl, hk2, hS⟩ := hrel
                have hal := hO.len
                have hnk := hnvl k
                clear hnv0 hnvl
                by_cases hkl : k < al.length
                · have y1 : decide ((k : Int) < (al.length : Int)) = true := decide_eq_true (by omega)
                  have yb : (0 : Int) ≤ (k : Int) := by omega
                  have yc : (k : Int) < (al.length : Int) := by omega
                  obtain ⟨q, hq⟩ : ∃ q, al[k]? = some q := ⟨al[k], List.getElem?_eq_getElem hkl⟩
                  have hqm := List.mem_of_getElem? hq
                  have hqo := hO.ok q hqm
                  have hsn := hO.seen_in q hqm
                  have hst : nv (k + 1) = nv k + (if lv V2 q = true then 1 else 0) := by
                    rw [hnv]
                    simp only [List.take_add_one, hq, List.filter_append, List.length_append]
                    by_cases hb : lv V2 q = true
                    · simp [hb]
                    · simp [hb]
                  clear hnv
                  obtain ⟨A9, c9, e9, hr9⟩ := hS.pull2.row
                  rw [List.length_map] at e9
                  cases e9
                  obtain ⟨bo2, oo2, e8, -⟩ := hr9 k (encH q) (by rw [List.getElem?_map, hq]; rfl)
                  cases e8
                  clear hr9
                  go_upto_region 25 with fail
                  have hSd := hS.upd (Upd.refl [] _).drew
                  obtain ⟨m0, m1⟩ := rowat hSd hq
                  have r1 := look53 hSd.swap.map q hqo
                  rw [hsn] at r1
                  cases hb : lv V2 q
                  all_goals
                    rw [hb] at r1 hst
                    simp only [Bool.false_eq_true, if_false, if_true, Nat.add_zero] at r1 hst
                    have hsn2 := hsn
                    rw [hb] at hsn2
                    simp only [Bool.false_eq_true, if_false, if_true] at hsn2
                    have hb2 : decide (aget V2 q.1 = some q) = _ := hb
                    have hst2 : Unit → nv (k + 1) = _ := fun _ => hst
                    clear hst hsn
                    have hh := hSd
                    go_region_held3 (fun w' => w'.cell? ⟨bo, oo + k * 2, none⟩ = some (.int .i64 q.1) ∧ w'.cell? ⟨bo, oo + k * 2 + 1, none⟩ = some (.int .u64 q.2)) (exact ⟨m0, m1⟩)
                      (first
                        | (go_at_call 47; refine (tLives hh q.1 q.2 hqo.1).mono ?_; rw [hb2]; rintro e wa ⟨rfl, ha⟩; replace hh := ha; clear m0 m1; obtain ⟨m0, m1⟩ := rowat ha hq; have r2 := look53 ha.swap.map q hqo; rw [hsn2] at r2))
                    all_goals
                      clear r1 m0 m1
                      try clear r2
                      obtain ⟨m0, m1⟩ := rowat hh hq
                      have r1 := look53 hh.swap.map q hqo
                      rw [hsn2] at r1
                      clear hsn2 hb2 hb
                      go_wp2_with fail
                      go_roundg (gk - 1)
                      case measure => omega
                      case rel => exact ⟨k + 1, by go_num, by rw [hst2 ()]; try go_num, by omega, hh⟩
                · have y1 : decide ((k : Int) < (al.length : Int)) = false := decide_eq_false (by omega)
                  have hnn : nv k = V2.length := by
                    rw [hnv]
                    simp only
                    rw [List.take_of_length_le (by omega)]
                    exact hO.count hS.liveNd
                  have hvl := hO.vlen
                  rw [hnn]
                  clear hnv hnn hnk
                  go_wp2_with fail
                  refine (tAll hS (by omega)).mono ?_
                  rintro e wz ⟨v, rfl, hZ⟩
                  obtain ⟨Az, cz, rfl, -⟩ := hZ.row
                  rw [liveOf_len]
                  go_wp2_with fail
                  go_roundg (M + 1 - i - 1)
                  case measure => omega
                  case rel => exact ⟨i + 1, L, V2, seen2, al, by go_num, by omega, by omega, hZ.imp fun _ g => star_tail g, hO⟩
          · have z81 : (i < l2.length ∧ ¬ 0 < al.length) ∨ ¬ i < l2.length := by omega
            clear hd
            rcases z81 with ⟨z81, z82⟩ | z81
            all_goals try (exact absurd hz2 z81)
            all_goals
              obtain ⟨nv, hnv⟩ : ∃ nv : Nat → Nat, nv = fun k => ((al.take k).filter (lv V)).length := ⟨_, rfl⟩
              have hnv0 : nv 0 = 0 := by rw [hnv]; rfl
              have hnvl : ∀ k, nv k ≤ al.length := fun k => by rw [hnv]; exact Nat.le_trans (List.length_filter_le _ _) (by simp; omega)
              go_wp2_with fail
              clear z81
              try clear z82
              go_loopg [12, 13] al.length (fun kq v12 v13 w' => ∃ k : Nat, v13 = .int .i64 (k : Int) ∧ v12 = .int .i64 (nv k : Int) ∧ kq + k = al.length ∧ SepK w w' [] (star (tabR t L V) (star (mapR eh (Value.int .i64) okH bc seen) (star (rowR 30 2 (.slice A7 al.length c7) (al.map encH)) emp))))
              case atStart => exact ⟨0, rfl, by rw [hnv0]; rfl, rfl, hS.drop [] (by simp)⟩
              case round =>
                clear hS
                obtain ⟨k, rfl, rfl, hk2, hS⟩ := hrel
                have hal := hO.len
                have hnk := hnvl k
                clear hnv0 hnvl
                by_cases hkl : k < al.length
                · have y1 : decide ((k : Int) < (al.length : Int)) = true := decide_eq_true (by omega)
                  have yb : (0 : Int) ≤ (k : Int) := by omega
                  have yc : (k : Int) < (al.length : Int) := by omega
                  obtain ⟨q, hq⟩ : ∃ q, al[k]? = some q := ⟨al[k], List.getElem?_eq_getElem hkl⟩
                  have hqm := List.mem_of_getElem? hq
                  have hqo := hO.ok q hqm
                  have hsn := hO.seen_in q hqm
                  have hst : nv (k + 1) = nv k + (if lv V q = true then 1 else 0) := by
                    rw [hnv]
                    simp only [List.take_add_one, hq, List.filter_append, List.length_append]
                    by_cases hb : lv V q = true
                    · simp [hb]
                    · simp [hb]
                  clear hnv
                  obtain ⟨A9, c9, e9, hr9⟩ := hS.pull2.row
                  rw [List.length_map] at e9
                  cases e9
                  obtain ⟨bo, oo, rfl, -⟩ := hr9 k (encH q) (by rw [List.getElem?_map, hq]; rfl)
                  clear hr9
                  go_upto_region 25 with fail
                  have hSd := hS.upd (Upd.refl [] _).drew
                  obtain ⟨m0, m1⟩ := rowat hSd hq
                  have r1 := look53 hSd.swap.map q hqo
                  rw [hsn] at r1
                  cases hb : lv V q
                  all_goals
                    rw [hb] at r1 hst
                    simp only [Bool.false_eq_true, if_false, if_true, Nat.add_zero] at r1 hst
                    have hsn2 := hsn
                    rw [hb] at hsn2
                    simp only [Bool.false_eq_true, if_false, if_true] at hsn2
                    have hb2 : decide (aget V q.1 = some q) = _ := hb
                    have hst2 : Unit → nv (k + 1) = _ := fun _ => hst
                    clear hst hsn
                    have hh := hSd
                    go_region_held3 (fun w' => w'.cell? ⟨bo, oo + k * 2, none⟩ = some (.int .i64 q.1) ∧ w'.cell? ⟨bo, oo + k * 2 + 1, none⟩ = some (.int .u64 q.2)) (exact ⟨m0, m1⟩)
                      (first
                        | (go_at_call 47; refine (tLives hh q.1 q.2 hqo.1).mono ?_; rw [hb2]; rintro e wa ⟨rfl, ha⟩; replace hh := ha; clear m0 m1; obtain ⟨m0, m1⟩ := rowat ha hq; have r2 := look53 ha.swap.map q hqo; rw [hsn2] at r2))
                    all_goals
                      clear r1 m0 m1
                      try clear r2
                      obtain ⟨m0, m1⟩ := rowat hh hq
                      have r1 := look53 hh.swap.map q hqo
                      rw [hsn2] at r1
                      clear hsn2 hb2 hb
                      go_wp2_with fail
                      go_roundg (gk - 1)
                      case measure => omega
                      case rel => exact ⟨k + 1, by go_num, by rw [hst2 ()]; try go_num, by omega, hh⟩
                · have y1 : decide ((k : Int) < (al.length : Int)) = false := decide_eq_false (by omega)
                  have hnn : nv k = V.length := by
                    rw [hnv]
                    simp only
                    rw [List.take_of_length_le (by omega)]
                    exact hO.count hS.liveNd
                  have hvl := hO.vlen
                  rw [hnn]
                  clear hnv hnn hnk
                  go_wp2_with fail
                  refine (tAll hS (by omega)).mono ?_
                  rintro e wz ⟨v, rfl, hZ⟩
                  obtain ⟨Az, cz, rfl, -⟩ := hZ.row
                  rw [liveOf_len]
                  go_wp2_with fail
                  go_roundg (M + 1 - i - 1)
                  case measure => omega
                  case rel => exact ⟨i + 1, L, V, seen, al, by go_num, by omega, by omega, hZ.imp fun _ g => star_tail g, hO⟩
      · skip
        replace hO := hO.more
        by_cases hd : i < l2.length ∧ 0 < al.length
        · obtain ⟨hd1, hd2⟩ := hd
          have z80 : decide ((0 : Int) < (al.length : Int)) = true := decide_eq_true (by omega)
          obtain ⟨x2, hx2⟩ : ∃ x, l2[i]? = some x := ⟨l2[i], List.getElem?_eq_getElem hd1⟩
          obtain ⟨g2, off2, rfl, hc2⟩ := (hl2.keep hS.u) i x2 hx2
          obtain ⟨b2, b3⟩ := byteBd x2
          obtain ⟨m, hm⟩ : ∃ m, m = x2.toNat % al.length := ⟨_, rfl⟩
          have hmi : (x2.toNat : Int) % (al.length : Int) = (m : Int) := by rw [hm]; omega
          have hml : m < al.length := by rw [hm]; exact Nat.mod_lt _ (by omega)
          clear hm
          obtain ⟨q, hq⟩ : ∃ q, al[m]? = some q := ⟨al[m], List.getElem?_eq_getElem hml⟩
          have hqm := List.mem_of_getElem? hq
          have hqo := hO.ok q hqm
          have hsn := hO.seen_in q hqm
          obtain ⟨A9, c9, e9, hr9⟩ := hS.pull2.row
          rw [List.length_map] at e9
          cases e9
          obtain ⟨bo, oo, rfl, -⟩ := hr9 m (encH q) (by rw [List.getElem?_map, hq]; rfl)
          clear hr9
          obtain ⟨m0, m1⟩ := rowat hS hq
          have yb : (0 : Int) ≤ (m : Int) := by omega
          have yc : (m : Int) < (al.length : Int) := by omega
          go_upto_region 18 with fail
          clear hc2 hx2 m0 m1
          go_cut [101] (fun v101 w' => v101 = .bool false ∧ SepK w w' [(wr.heap.size, .cells #[.int .i64 q.1, .int .u64 q.2] 30)] (star (tabR t L (drV V q.1 q.2)) (star (mapR eh (Value.int .i64) okH bc seen) (star (rowR 30 2 (.slice (some ⟨bo, oo, none⟩) al.length c7) (al.map encH)) emp))))
          case first =>
            have hSa := (hS.alloc (.cells #[.int .i64 q.1, .int .u64 q.2] 30)).upd (Upd.refl [] _).drew
            have r1 := look53 hSa.swap.map q hqo
            rw [hsn] at r1
            have hdr : drE V q.1 q.2 = if lv V q = true then 0 else 130 := by unfold drE lv; simp
            cases hb : lv V q
            all_goals
              rw [hb] at r1 hdr hsn
              simp only [Bool.false_eq_true, if_false, if_true] at r1 hdr hsn
              clear hb
              have hh := hSa
              have fq := hh.blk List.mem_cons_self
              have k0 := cell_of fq 0
              have k1 := cell_of fq 1
              simp only [List.getElem?_toArray, List.getElem?_cons_zero, List.getElem?_cons_succ] at k0 k1
              go_region_held3 (fun w' => w'.cell? ⟨wr.heap.size, 0, none⟩ = some (.int .i64 q.1) ∧ w'.cell? ⟨wr.heap.size, 1, none⟩ = some (.int .u64 q.2)) (exact ⟨k0, k1⟩)
                (first
                  | (go_at_call 20; refine (tDrop hh q.1 q.2 hqo.1).mono ?_; rw [hdr]; rintro e wa ⟨rfl, ha⟩; replace hh := ha; clear r1 k0 k1 fq; have r1 := look53 ha.swap.map q hqo; rw [hsn] at r1; have fq := ha.blk List.mem_cons_self; have k0 := cell_of fq 0; have k1 := cell_of fq 1; simp only [List.getElem?_toArray, List.getElem?_cons_zero, List.getElem?_cons_succ] at k0 k1))
              all_goals
                go_wp2_with fail
                go_meet
                case rel => exact ⟨rfl, hh⟩
          case rest =>
            have hO2 := hO.drop q hqm
            obtain ⟨rfl, hh⟩ := hcut
            have fq := hh.blk List.mem_cons_self
            have k0 := cell_of fq 0
            have k1 := cell_of fq 1
            simp only [List.getElem?_toArray, List.getElem?_cons_zero, List.getElem?_cons_succ] at k0 k1
            clear hS hO hsn
            go_wp2_with (at_mapUpdate; refine wl_put rfl (.tmp 102) (.tmp 103) _ rfl kh Try.underlying53 rfl hh.swap q 2 rfl rfl hqo ?_; intro we hSe)
            clear k0 k1 fq hh
            have hS := hSe.swap.drop [] (by simp)
            have hO := hO2
            clear hSe hO2 hqo hqm hq yb yc
            generalize drV V q.1 q.2 = V2 at hS hO
            generalize aput seen q 2 = seen2 at hS hO
            obtain ⟨nv, hnv⟩ : ∃ nv : Nat → Nat, nv = fun k => ((al.take k).filter (lv V2)).length := ⟨_, rfl⟩
            have hnv0 : nv 0 = 0 := by rw [hnv]; rfl
            have hnvl : ∀ k, nv k ≤ al.length := fun k => by rw [hnv]; exact Nat.le_trans (List.length_filter_le _ _) (by simp; omega)
            go_wp2_with fail
            go_loopg [12, 13] al.length (fun kq v12 v13 w' => ∃ k : Nat, v13 = .int .i64 (k : Int) ∧ v12 = .int .i64 (nv k : Int) ∧ kq + k = al.length ∧ SepK w w' [] (star (tabR t L V2) (star (mapR eh (Value.int .i64) okH bc seen2) (star (rowR 30 2 (.slice (some ⟨bo, oo, none⟩) al.length c7) (al.map encH)) emp))))
            case atStart => exact ⟨0, rfl, by rw [hnv0]; rfl, rfl, hS.drop [] (by simp)⟩
            case round =>
              clear hS
              obtain ⟨k, rfl, rfl, hk2, hS⟩ := hrel
              have hal := hO.len
              have hnk := hnvl k
              clear hnv0 hnvl
              by_cases hkl : k < al.length
              · have y1 : decide ((k : Int) < (al.length : Int)) = true := decide_eq_true (by omega)
                have yb : (0 : Int) ≤ (k : Int) := by omega
                have yc : (k : Int) < (al.length : Int) := by omega
                obtain ⟨q, hq⟩ : ∃ q, al[k]? = some q := ⟨al[k], List.getElem?_eq_getElem hkl⟩
                have hqm := List.mem_of_getElem? hq
                have hqo := hO.ok q hqm
                have hsn := hO.seen_in q hqm
                have hst : nv (k + 1) = nv k + (if lv V2 q = true then 1 else 0) := by
                  rw [hnv]
                  simp only [List.take_add_one, hq, List.filter_append, List.length_append]
                  by_cases hb : lv V2 q = true
                  · simp [hb]
                  · simp [hb]
                clear hnv
                obtain ⟨A9, c9, e9, hr9⟩ := hS.pull2.row
                rw [List.length_map] at e9
                cases e9
                obtain ⟨bo2, oo2, e8, -⟩ := hr9 k (encH q) (by rw [List.getElem?_map, hq]; rfl)
                cases e8
                clear hr9
                go_upto_region 25 with fail
                have hSd := hS.upd (Upd.refl [] _).drew
                obtain ⟨m0, m1⟩ := rowat hSd hq
                have r1 := look53 hSd.swap.map q hqo
                rw [hsn] at r1
                cases hb : lv V2 q
                all_goals
                  rw [hb] at r1 hst
                  simp only [Bool.false_eq_true, if_false, if_true, Nat.add_zero] at r1 hst
                  have hsn2 := hsn
                  rw [hb] at hsn2
                  simp only [Bool.false_eq_true, if_false, if_true] at hsn2
                  have hb2 : decide (aget V2 q.1 = some q) = _ := hb
                  have hst2 : Unit → nv (k + 1) = _ := fun _ => hst
                  clear hst hsn
                  have hh := hSd
                  go_region_held3 (fun w' => w'.cell? ⟨bo, oo + k * 2, none⟩ = some (.int .i64 q.1) ∧ w'.cell? ⟨bo, oo + k * 2 + 1, none⟩ = some (.int .u64 q.2)) (exact ⟨m0, m1⟩)
                    (first
                      | (go_at_call 47; refine (tLives hh q.1 q.2 hqo.1).mono ?_; rw [hb2]; rintro e wa ⟨rfl, ha⟩; replace hh := ha; clear m0 m1; obtain ⟨m0, m1⟩ := rowat ha hq; have r2 := look53 ha.swap.map q hqo; rw [hsn2] at r2))
                  all_goals
                    clear r1 m0 m1
                    try clear r2
                    obtain ⟨m0, m1⟩ := rowat hh hq
                    have r1 := look53 hh.swap.map q hqo
                    rw [hsn2] at r1
                    clear hsn2 hb2 hb
                    go_wp2_with fail
                    go_roundg (gk - 1)
                    case measure => omega
                    case rel => exact ⟨k + 1, by go_num, by rw [hst2 ()]; try go_num, by omega, hh⟩
              · have y1 : decide ((k : Int) < (al.length : Int)) = false := decide_eq_false (by omega)
                have hnn : nv k = V2.length := by
                  rw [hnv]
                  simp only
                  rw [List.take_of_length_le (by omega)]
                  exact hO.count hS.liveNd
                have hvl := hO.vlen
                rw [hnn]
                clear hnv hnn hnk
                go_wp2_with fail
                refine (tAll hS (by omega)).mono ?_
                rintro e wz ⟨v, rfl, hZ⟩
                obtain ⟨Az, cz, rfl, -⟩ := hZ.row
                rw [liveOf_len]
                go_wp2_with fail
                go_roundg (M + 1 - i - 1)
                case measure => omega
                case rel => exact ⟨i + 1, L, V2, seen2, al, by go_num, by omega, by omega, hZ.imp fun _ g => star_tail g, hO⟩
        · have z81 : (i < l2.length ∧ ¬ 0 < al.length) ∨ ¬ i < l2.length := by omega
          clear hd
          rcases z81 with ⟨z81, z82⟩ | z81
          all_goals try (exact absurd hz2 z81)
          all_goals
            obtain ⟨nv, hnv⟩ : ∃ nv : Nat → Nat, nv = fun k => ((al.take k).filter (lv V)).length := ⟨_, rfl⟩
            have hnv0 : nv 0 = 0 := by rw [hnv]; rfl
            have hnvl : ∀ k, nv k ≤ al.length := fun k => by rw [hnv]; exact Nat.le_trans (List.length_filter_le _ _) (by simp; omega)
            go_wp2_with fail
            clear z81
            try clear z82
            go_loopg [12, 13] al.length (fun kq v12 v13 w' => ∃ k : Nat, v13 = .int .i64 (k : Int) ∧ v12 = .int .i64 (nv k : Int) ∧ kq + k = al.length ∧ SepK w w' [] (star (tabR t L V) (star (mapR eh (Value.int .i64) okH bc seen) (star (rowR 30 2 (.slice A7 al.length c7) (al.map encH)) emp))))
            case atStart => exact ⟨0, rfl, by rw [hnv0]; rfl, rfl, hS.drop [] (by simp)⟩
            case round =>
              clear hS
              obtain ⟨k, rfl, rfl, hk2, hS⟩ := hrel
              have hal := hO.len
              have hnk := hnvl k
              clear hnv0 hnvl
              by_cases hkl : k < al.length
              · have y1 : decide ((k : Int) < (al.length : Int)) = true := decide_eq_true (by omega)
                have yb : (0 : Int) ≤ (k : Int) := by omega
                have yc : (k : Int) < (al.length : Int) := by omega
                obtain ⟨q, hq⟩ : ∃ q, al[k]? = some q := ⟨al[k], List.getElem?_eq_getElem hkl⟩
                have hqm := List.mem_of_getElem? hq
                have hqo := hO.ok q hqm
                have hsn := hO.seen_in q hqm
                have hst : nv (k + 1) = nv k + (if lv V q = true then 1 else 0) := by
                  rw [hnv]
                  simp only [List.take_add_one, hq, List.filter_append, List.length_append]
                  by_cases hb : lv V q = true
                  · simp [hb]
                  · simp [hb]
                clear hnv
                obtain ⟨A9, c9, e9, hr9⟩ := hS.pull2.row
                rw [List.length_map] at e9
                cases e9
                obtain ⟨bo, oo, rfl, -⟩ := hr9 k (encH q) (by rw [List.getElem?_map, hq]; rfl)
                clear hr9
                go_upto_region 25 with fail
                have hSd := hS.upd (Upd.refl [] _).drew
                obtain ⟨m0, m1⟩ := rowat hSd hq
                have r1 := look53 hSd.swap.map q hqo
                rw [hsn] at r1
                cases hb : lv V q
                all_goals
                  rw [hb] at r1 hst
                  simp only [Bool.false_eq_true, if_false, if_true, Nat.add_zero] at r1 hst
                  have hsn2 := hsn
                  rw [hb] at hsn2
                  simp only [Bool.false_eq_true, if_false, if_true] at hsn2
                  have hb2 : decide (aget V q.1 = some q) = _ := hb
                  have hst2 : Unit → nv (k + 1) = _ := fun _ => hst
                  clear hst hsn
                  have hh := hSd
                  go_region_held3 (fun w' => w'.cell? ⟨bo, oo + k * 2, none⟩ = some (.int .i64 q.1) ∧ w'.cell? ⟨bo, oo + k * 2 + 1, none⟩ = some (.int .u64 q.2)) (exact ⟨m0, m1⟩)
                    (first
                      | (go_at_call 47; refine (tLives hh q.1 q.2 hqo.1).mono ?_; rw [hb2]; rintro e wa ⟨rfl, ha⟩; replace hh := ha; clear m0 m1; obtain ⟨m0, m1⟩ := rowat ha hq; have r2 := look53 ha.swap.map q hqo; rw [hsn2] at r2))
                  all_goals
                    clear r1 m0 m1
                    try clear r2
                    obtain ⟨m0, m1⟩ := rowat hh hq
                    have r1 := look53 hh.swap.map q hqo
                    rw [hsn2] at r1
                    clear hsn2 hb2 hb
                    go_wp2_with fail
                    go_roundg (gk - 1)
                    case measure => omega
                    case rel => exact ⟨k + 1, by go_num, by rw [hst2 ()]; try go_num, by omega, hh⟩
              · have y1 : decide ((k : Int) < (al.length : Int)) = false := decide_eq_false (by omega)
                have hnn : nv k = V.length := by
                  rw [hnv]
                  simp only
                  rw [List.take_of_length_le (by omega)]
                  exact hO.count hS.liveNd
                have hvl := hO.vlen
                rw [hnn]
                clear hnv hnn hnk
                go_wp2_with fail
                refine (tAll hS (by omega)).mono ?_
                rintro e wz ⟨v, rfl, hZ⟩
                obtain ⟨Az, cz, rfl, -⟩ := hZ.row
                rw [liveOf_len]
                go_wp2_with fail
                go_roundg (M + 1 - i - 1)
                case measure => omega
                case rel => exact ⟨i + 1, L, V, seen, al, by go_num, by omega, by omega, hZ.imp fun _ g => star_tail g, hO⟩
    · have y1 : decide ((i : Int) < (l.length : Int)) = false := decide_eq_false (by omega)
      have y2 : decide ((i : Int) < (l2.length : Int)) = false := decide_eq_false (by omega)
      have U := hS.u
      clear hS
      go_wp2_with (go_at_call 17; (with_reducible refine (works13 _).mono ?_); rintro e wz ⟨rfl, uz⟩)
      go_ret
      exact ⟨rfl, U.trans uz⟩
end Go.Proofs.Ytgleceijdedlkaa
