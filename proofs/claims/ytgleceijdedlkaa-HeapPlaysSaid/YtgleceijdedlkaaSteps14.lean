/- The steps of a script of the heap's laws: heavy, pick. -/
import Derived.Test.YtgleceijdedlkaaHeldRes
import Derived.Deep.DeepCutAuto
import Derived.Deep.LoopGhost
import Derived.Deep.CutBlock
import Derived.Deep.RegionWith
namespace Go.Proofs.Ytgleceijdedlkaa
open Go.RowKit
set_option linter.unusedVariables false
set_option linter.unusedSimpArgs false
/-- A text's greatest length. -/
def reach : Nat := 140737488355328
/-- A step: what, of whom, kind, where, how much, text, handle. -/
structure St14 where
  d : Int
  who : Int
  kind : Int
  pos : Int
  n : Int
  s : ByteArray
  h : Int × Int
def encS (s : St14) : List Value := [.int .i64 s.d, .int .i64 s.who, .int .i64 s.kind, .int .i64 s.pos, .int .i64 s.n, .string s.s, .int .i64 s.h.1, .int .u64 s.h.2]
def okS (s : St14) : Prop := okI s.d ∧ okI s.who ∧ okI s.kind ∧ okI s.pos ∧ okI s.n ∧ s.s.size ≤ reach ∧ okH s.h
def sumS (l : List St14) : Nat := (l.map (·.s.size)).sum
def heavyB (l : List St14) : Bool := decide ((250 : Int) < l.length) || decide ((8192 : Int) < (sumS (l.take 500) : Nat))
theorem sumS_take {l : List St14} {i : Nat} {x : St14} (h : l[i]? = some x) : sumS (l.take (i + 1)) = sumS (l.take i) + x.s.size := by
  unfold sumS
  rw [List.take_add_one, h]
  simp
theorem sumS_le (l : List St14) (h : ∀ s ∈ l, okS s) : sumS l ≤ l.length * reach := by
  induction l with
  | nil => simp [sumS]
  | cons x l ih =>
    have h1 := ih (fun s hs => h s (by simp [hs]))
    have h2 : x.s.size ≤ reach := (h x (by simp)).2.2.2.2.2.1
    simp only [sumS, List.map_cons, List.sum_cons, List.length_cons, Nat.add_mul] at h1 ⊢
    omega
theorem reach_small : 501 * reach < 9223372036854775807 := by decide
set_option maxRecDepth 100000 in
set_option maxHeartbeats 2000000 in
theorem heavy_spec (A : Option Addr) (c : Nat) (l : List St14) (w : World) (hl : RowsAt w A 8 (l.map encS)) (hs : ∀ s ∈ l, okS s) :
    Calls Try.prog 27 #[.slice A l.length c] w fun e w' => e = .returned (.bool (heavyB l)) ∧ Upd [] w w' := by
  go_enter Try.func27, Try.ntmps27
  go_wp2_with fail
  have hms := reach_small
  go_loopg [3, 4] (min l.length 500) (fun kq v3 v4 w' => ∃ i : Nat, v4 = .int .i64 (i : Int) ∧ v3 = .int .i64 (sumS (l.take i) : Int) ∧ kq + i = min l.length 500 ∧ Upd [] w w')
  case atStart => exact ⟨0, rfl, rfl, rfl, Upd.refl _ _⟩
  case round =>
    obtain ⟨i, rfl, rfl, hk, hU⟩ := hrel
    have hsum : sumS (l.take i) ≤ 500 * reach := by
      refine Nat.le_trans (sumS_le (l.take i) (fun s h => hs s (List.mem_of_mem_take h))) (Nat.mul_le_mul_right _ ?_)
      simp; omega
    by_cases hi : i < l.length
    · by_cases h5 : i < 500
      · have z1 : decide ((i : Int) < (l.length : Int)) = true := decide_eq_true (by omega)
        have z2 : decide ((i : Int) < 500) = true := decide_eq_true (by omega)
        obtain ⟨x, hx⟩ : ∃ x, l[i]? = some x := ⟨l[i], List.getElem?_eq_getElem hi⟩
        obtain ⟨b, off, rfl, hc⟩ := (hl.keep hU) i (encS x) (by rw [List.getElem?_map, hx]; rfl)
        have k5 : wr.cell? ⟨b, off + i * 8 + 5, none⟩ = some (.string x.s) := hc 5 _ rfl
        have hxs : x.s.size ≤ reach := (hs x (List.mem_of_getElem? hx)).2.2.2.2.2.1
        have hst := sumS_take hx
        clear hc
        go_wp2_with fail
        go_roundg (gk - 1)
        case measure => omega
        case rel => exact ⟨i + 1, by go_num, by rw [hst]; push_cast; go_num, by omega, hU⟩
      · have z1 : decide ((i : Int) < (l.length : Int)) = true := decide_eq_true (by omega)
        have z2 : decide ((i : Int) < 500) = false := decide_eq_false (by omega)
        have z3 : decide ((250 : Int) < (l.length : Int)) = true := decide_eq_true (by omega)
        go_wp2_with fail
        go_ret
        exact ⟨by simp [heavyB, z3], hU⟩
    · have z1 : decide ((i : Int) < (l.length : Int)) = false := decide_eq_false (by omega)
      have ht : l.take i = l.take 500 := by rw [List.take_of_length_le (by omega), List.take_of_length_le (by omega)]
      rw [ht]
      by_cases c1 : (250 : Int) < l.length
      · have z3 : decide ((250 : Int) < (l.length : Int)) = true := decide_eq_true c1
        go_wp2_with fail
        go_ret
        exact ⟨by simp [heavyB, z3], hU⟩
      · have z3 : decide ((250 : Int) < (l.length : Int)) = false := decide_eq_false c1
        go_wp2_with fail
        go_ret
        exact ⟨by simp [heavyB, z3], hU⟩
/-- Which handle a step is of. -/
def pickH (all : List (Int × Int)) (s : St14) : Int × Int :=
  if s.d = 6 ∨ all.length = 0 ∨ s.who < 0 then s.h else all.getD (s.who.toNat % all.length) s.h
def encH (h : Int × Int) : List Value := [.int .i64 h.1, .int .u64 h.2]
set_option maxRecDepth 100000 in
set_option maxHeartbeats 2000000 in
theorem pick3 (A : Option Addr) (c : Nat) (all : List (Int × Int)) (d kind pos n : Int) (t : ByteArray) (q0 : Int × Int) (u : Nat) (w : World) (hl : RowsAt w A 2 (all.map encH)) (hd : okI d) (hw : okI (u : Int)) (hlen : all.length ≤ 1000) (z1 : (d == 6) = false) (z2 : ((all.length : Int) == 0) = false) (z3 : decide ((u : Int) < 0) = false) (m : Nat) (hrem : (u : Int) % (all.length : Int) = (m : Int)) (q : Int × Int) (hq : all[m]? = some q) :
    Calls Try.prog 31 #[.slice A all.length c, .agg #[.int .i64 d, .int .i64 (u : Int), .int .i64 kind, .int .i64 pos, .int .i64 n, .string t, .int .i64 q0.1, .int .u64 q0.2]] w fun e w' => e = .returned (.agg #[.int .i64 q.1, .int .u64 q.2]) ∧ Upd [] w w' := by
  have hlt : m < all.length := (List.getElem?_eq_some_iff.1 hq).1
  have hl2 := hl.keep (((Upd.refl [] w).alloc (.cells #[.int .i64 d, .int .i64 (u : Int), .int .i64 kind, .int .i64 pos, .int .i64 n, .string t, .int .i64 q0.1, .int .u64 q0.2] 56)).alloc (.cells #[.int .i64 0, .int .u64 0] 30))
  obtain ⟨b, off, rfl, hc⟩ := hl2 m (encH q) (by rw [List.getElem?_map, hq]; rfl)
  have k0 := hc 0 _ rfl
  have k1 := hc 1 _ rfl
  simp only [Nat.add_zero] at k0
  clear hc hl2
  go_enter Try.func31, Try.ntmps31
  go_wp2_with fail
  rw [hrem]
  go_wp2_with fail
  exact bodyPost_ret (v := .agg #[.int .i64 q.1, .int .u64 q.2]) (by simp [results, Try.results31, go_sem]) rfl ⟨rfl, by repeat (first | exact Upd.refl [] w | (apply Upd.alloc) | (refine Upd.setCell ?_ _ _ (.inr (by simp))))⟩
set_option maxRecDepth 100000 in
set_option maxHeartbeats 2000000 in
theorem pick_spec (A : Option Addr) (c : Nat) (all : List (Int × Int)) (s : St14) (w : World) (hl : RowsAt w A 2 (all.map encH)) (hs : okS s) (hlen : all.length ≤ 1000) :
    Calls Try.prog 31 #[.slice A all.length c, .agg (encS s).toArray] w fun e w' => e = .returned (.agg #[.int .i64 (pickH all s).1, .int .u64 (pickH all s).2]) ∧ Upd [] w w' := by
  have hd : okI s.d := hs.1
  have hw : okI s.who := hs.2.1
  obtain ⟨d, who, kind, pos, n, t, q0⟩ := s
  simp only at hd hw
  generalize hr : pickH all _ = r
  unfold pickH at hr
  simp only at hr
  by_cases c1 : d = 6
  · rw [if_pos (.inl c1)] at hr
    subst hr
    have z1 : (d == 6) = true := by simpa using c1
    unfold encS
    go_enter Try.func31, Try.ntmps31
    go_wp2_with fail
    exact bodyPost_ret (v := .agg #[.int .i64 q0.1, .int .u64 q0.2]) (by simp [results, Try.results31, go_sem]) rfl ⟨rfl, by repeat (first | exact Upd.refl [] w | (apply Upd.alloc) | (refine Upd.setCell ?_ _ _ (.inr (by simp))))⟩
  · have z1 : (d == 6) = false := by simpa using c1
    by_cases c2 : all.length = 0
    · rw [if_pos (.inr (.inl c2))] at hr
      subst hr
      have z2 : ((all.length : Int) == 0) = true := by simp [c2]
      unfold encS
      go_enter Try.func31, Try.ntmps31
      go_wp2_with fail
      exact bodyPost_ret (v := .agg #[.int .i64 q0.1, .int .u64 q0.2]) (by simp [results, Try.results31, go_sem]) rfl ⟨rfl, by repeat (first | exact Upd.refl [] w | (apply Upd.alloc) | (refine Upd.setCell ?_ _ _ (.inr (by simp))))⟩
    · have z2 : ((all.length : Int) == 0) = false := by simpa using c2
      by_cases c3 : who < 0
      · rw [if_pos (.inr (.inr c3))] at hr
        subst hr
        have z3 : decide (who < 0) = true := decide_eq_true c3
        unfold encS
        go_enter Try.func31, Try.ntmps31
        go_wp2_with fail
        exact bodyPost_ret (v := .agg #[.int .i64 q0.1, .int .u64 q0.2]) (by simp [results, Try.results31, go_sem]) rfl ⟨rfl, by repeat (first | exact Upd.refl [] w | (apply Upd.alloc) | (refine Upd.setCell ?_ _ _ (.inr (by simp))))⟩
      · rw [if_neg (by omega)] at hr
        have z3 : decide (who < 0) = false := decide_eq_false c3
        have hne : 0 < all.length := by omega
        obtain ⟨m, hm⟩ : ∃ m : Nat, m = who.toNat % all.length := ⟨_, rfl⟩
        have hlt : m < all.length := hm ▸ Nat.mod_lt _ hne
        rw [← hm] at hr
        obtain ⟨u, rfl⟩ : ∃ u : Nat, who = u := ⟨who.toNat, by omega⟩
        obtain ⟨q, hq⟩ : ∃ q, all[m]? = some q := ⟨_, List.getElem?_eq_getElem hlt⟩
        have hqr : q = r := by rw [← hr, List.getD_eq_getElem?_getD, hq]; rfl
        subst hqr
        exact pick3 A c all d kind pos n t q0 u w hl hd hw hlen z1 z2 z3 m (by rw [hm]; simp) q hq
end Go.Proofs.Ytgleceijdedlkaa
