/- The steps of a script of the slab's law: heavy; a script that came in. -/
import Derived.Test.YtgleceijdedlkaaSteps14
import Derived.Test.YtgleceijdedlkaaOpenLib
namespace Go.Proofs.Ytgleceijdedlkaa
open Go.RowKit Go.ChangeShapes Go.WideShapes Go.ChangeAt
set_option linter.unusedVariables false
set_option linter.unusedSimpArgs false
set_option linter.unusedSectionVars false
/-- A step: what, of which slot, where, how much, text. -/
structure St12 where
  d : Int
  slot : Int
  pos : Int
  n : Int
  s : ByteArray
def encU (s : St12) : List Value := [.int .i64 s.d, .int .i64 s.slot, .int .i64 s.pos, .int .i64 s.n, .string s.s]
def okU (s : St12) : Prop := okI s.d ∧ okI s.slot ∧ okI s.pos ∧ okI s.n ∧ s.s.size ≤ reach
def sumU (l : List St12) : Nat := (l.map (·.s.size)).sum
def heavyU (l : List St12) : Bool := decide ((250 : Int) < l.length) || decide ((8192 : Int) < (sumU (l.take 500) : Nat))
theorem sumU_take {l : List St12} {i : Nat} {x : St12} (h : l[i]? = some x) : sumU (l.take (i + 1)) = sumU (l.take i) + x.s.size := by
  unfold sumU
  rw [List.take_add_one, h]
  simp
theorem sumU_le (l : List St12) (h : ∀ s ∈ l, okU s) : sumU l ≤ l.length * reach := by
  induction l with
  | nil => simp [sumU]
  | cons x l ih =>
    have h1 := ih (fun s hs => h s (by simp [hs]))
    have h2 : x.s.size ≤ reach := (h x (by simp)).2.2.2.2
    simp only [sumU, List.map_cons, List.sum_cons, List.length_cons, Nat.add_mul] at h1 ⊢
    omega
set_option maxRecDepth 100000 in
set_option maxHeartbeats 2000000 in
theorem heavyU_spec (A : Option Addr) (c : Nat) (l : List St12) (w : World) (hl : RowsAt w A 5 (l.map encU)) (hs : ∀ s ∈ l, okU s) :
    Calls Try.prog 53 #[.slice A l.length c] w fun e w' => e = .returned (.bool (heavyU l)) ∧ Upd [] w w' := by
  go_enter Try.func53, Try.ntmps53
  go_wp2_with fail
  have hms := reach_small
  go_loopg [3, 4] (min l.length 500) (fun kq v3 v4 w' => ∃ i : Nat, v4 = .int .i64 (i : Int) ∧ v3 = .int .i64 (sumU (l.take i) : Int) ∧ kq + i = min l.length 500 ∧ Upd [] w w')
  case atStart => exact ⟨0, rfl, rfl, rfl, Upd.refl _ _⟩
  case round =>
    obtain ⟨i, rfl, rfl, hk, hU⟩ := hrel
    have hsum : sumU (l.take i) ≤ 500 * reach := by
      refine Nat.le_trans (sumU_le (l.take i) (fun s h => hs s (List.mem_of_mem_take h))) (Nat.mul_le_mul_right _ ?_)
      simp; omega
    by_cases hi : i < l.length
    · by_cases h5 : i < 500
      · have z1 : decide ((i : Int) < (l.length : Int)) = true := decide_eq_true (by omega)
        have z2 : decide ((i : Int) < 500) = true := decide_eq_true (by omega)
        obtain ⟨x, hx⟩ : ∃ x, l[i]? = some x := ⟨l[i], List.getElem?_eq_getElem hi⟩
        obtain ⟨b, off, rfl, hc⟩ := (hl.keep hU) i (encU x) (by rw [List.getElem?_map, hx]; rfl)
        have k5 : wr.cell? ⟨b, off + i * 5 + 4, none⟩ = some (.string x.s) := hc 4 _ rfl
        have hxs : x.s.size ≤ reach := (hs x (List.mem_of_getElem? hx)).2.2.2.2
        have hst := sumU_take hx
        clear hc
        go_wp2_with fail
        go_roundg (gk - 1)
        case measure => omega
        case rel => exact ⟨i + 1, by go_num, by rw [hst]; push_cast; go_num, by omega, hU⟩
      · have z1 : decide ((i : Int) < (l.length : Int)) = true := decide_eq_true (by omega)
        have z2 : decide ((i : Int) < 500) = false := decide_eq_false (by omega)
        have z3 : decide ((250 : Int) < (l.length : Int)) = true := decide_eq_true (by omega)
        go_wp2_with fail
        go_ret
        exact ⟨by simp [heavyU, z3], hU⟩
    · have z1 : decide ((i : Int) < (l.length : Int)) = false := decide_eq_false (by omega)
      have ht : l.take i = l.take 500 := by rw [List.take_of_length_le (by omega), List.take_of_length_le (by omega)]
      rw [ht]
      by_cases c1 : (250 : Int) < l.length
      · have z3 : decide ((250 : Int) < (l.length : Int)) = true := decide_eq_true c1
        go_wp2_with fail
        go_ret
        exact ⟨by simp [heavyU, z3], hU⟩
      · have z3 : decide ((250 : Int) < (l.length : Int)) = false := decide_eq_false c1
        go_wp2_with fail
        go_ret
        exact ⟨by simp [heavyU, z3], hU⟩
section
variable {H : Type} {enc : TypeId × Value → H} {w : World} {base : Nat} {spare : Nat → Bool} {held : Bool}
theorem open_ustep {fuel : Nat} {cs : List Value} {x : DataW H × List MemPlace} (hl : cs.length = 5) (h : DataW.trod enc Try.prog w base spare held fuel 98 cs = some x) (hsz : ∀ k ∈ x.1.weights Try.prog 98, k ≤ reachBytes) :
    ∃ s : St12, okU s ∧ ∀ (j : Nat) (v : Value), (encU s)[j]? = some v → cs[j]? = some v := by
  obtain ⟨n0, v0, y0, c0, t0, _⟩ := open_field Try.underlying98 h (j := 0) rfl (by kernel_rfl) (by rw [hl]; decide)
  obtain ⟨n1, v1, y1, c1, t1, _⟩ := open_field Try.underlying98 h (j := 1) rfl (by kernel_rfl) (by rw [hl]; decide)
  obtain ⟨n2, v2, y2, c2, t2, _⟩ := open_field Try.underlying98 h (j := 2) rfl (by kernel_rfl) (by rw [hl]; decide)
  obtain ⟨n3, v3, y3, c3, t3, _⟩ := open_field Try.underlying98 h (j := 3) rfl (by kernel_rfl) (by rw [hl]; decide)
  obtain ⟨n5, v5, y5, c5, t5, k5⟩ := open_field Try.underlying98 h (j := 4) rfl (by kernel_rfl) (by rw [hl]; decide)
  obtain ⟨a0, e0, _, g0⟩ := DataW.trod_int Try.underlying3 t0
  obtain ⟨a1, e1, _, g1⟩ := DataW.trod_int Try.underlying3 t1
  obtain ⟨a2, e2, _, g2⟩ := DataW.trod_int Try.underlying3 t2
  obtain ⟨a3, e3, _, g3⟩ := DataW.trod_int Try.underlying3 t3
  obtain ⟨a5, e5, f5, g5⟩ := DataW.trod_string Try.underlying9 t5
  cases e0; cases e1; cases e2; cases e3; cases e5
  have hr : a5.size ≤ reach := by
    have := hsz _ (k5 a5.data.toList.length (by subst f5; simp [DataW.weights]))
    have e : reachBytes ≤ reach := by decide
    exact Nat.le_trans this e
  refine ⟨⟨a0, a1, a2, a3, a5⟩, ⟨g0, g1, g2, g3, hr⟩, fun j v hj => ?_⟩
  match j, hj with
  | 0, hj => cases hj; exact c0
  | 1, hj => cases hj; exact c1
  | 2, hj => cases hj; exact c2
  | 3, hj => cases hj; exact c3
  | 4, hj => cases hj; exact c5
theorem open_usteps {fuel : Nat} {cs : List Value} {x : DataW H × List MemPlace} (h : DataW.trod enc Try.prog w base spare held fuel 91 cs = some x) (hsz : ∀ k ∈ x.1.weights Try.prog 91, k ≤ reachBytes) :
    ∃ (A : Option Addr) (cap : Nat) (l : List St12), cs = [.slice A l.length cap] ∧ RowsAt w A 5 (l.map encU) ∧ ∀ s ∈ l, okU s := by
  have hc98 : Try.prog.cellsOf 98 = 5 := by kernel_rfl
  obtain ⟨A, len, cap, hcs, _, _, hi⟩ := open_elems Try.underlying91 (by rw [hc98]; decide) h
  rw [hc98] at hi
  obtain ⟨l, hlen, hl⟩ := exists_list (α := St12) (fun i s => ∃ b off, A = some ⟨b, off, none⟩ ∧ okU s ∧ ∀ (j : Nat) (v : Value), (encU s)[j]? = some v → w.cell? ⟨b, off + i * 5 + j, none⟩ = some v) len (fun i hil => by
    obtain ⟨b, off, n, cs', y, hA, hlc, hcell, ht, hw⟩ := hi i hil
    obtain ⟨s, ho, hc⟩ := open_ustep hlc ht (fun k hk => hsz k (hw k hk))
    exact ⟨s, b, off, hA, ho, fun j v hj => hcell j v (hc j v hj)⟩)
  subst hlen
  refine ⟨A, cap, l, hcs, fun i r hr => ?_, fun s hs => ?_⟩
  · rw [List.getElem?_map] at hr
    cases hx : l[i]? with
    | none => rw [hx] at hr; cases hr
    | some s =>
      rw [hx] at hr
      cases hr
      obtain ⟨b, off, h1, _, h3⟩ := hl i s hx
      exact ⟨b, off, h1, h3⟩
  · obtain ⟨i, hi'⟩ := List.mem_iff_getElem?.1 hs
    obtain ⟨_, _, _, h2, _⟩ := hl i s hi'
    exact h2
end
end Go.Proofs.Ytgleceijdedlkaa
