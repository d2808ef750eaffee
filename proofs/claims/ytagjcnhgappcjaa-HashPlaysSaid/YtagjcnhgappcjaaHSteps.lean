/- The calls of a script of the hash's laws: heavy; a script that came in. -/
import Derived.Test.YtagjcnhgappcjaaHWorks
import Derived.Test.YtagjcnhgappcjaaOpenLib
namespace Go.Proofs.Ytagjcnhgappcjaa
open Go.RowKit Go.ChangeShapes Go.WideShapes Go.ChangeAt
set_option linter.unusedVariables false
set_option linter.unusedSimpArgs false
set_option linter.unusedSectionVars false
def reach : Nat := 140737488355328
/-- A call: what, key, slot, place, text. -/
structure St where
  d : Int
  key : ByteArray
  slot : Int
  pos : Int
  s : ByteArray
def encU (s : St) : List Value := [.int .u8 s.d, .string s.key, .int .i64 s.slot, .int .i64 s.pos, .string s.s]
def okU (s : St) : Prop := (0 ≤ s.d ∧ s.d ≤ 255) ∧ s.key.size ≤ reach ∧ okI s.slot ∧ okI s.pos ∧ s.s.size ≤ reach
def callH (s : St) : Bool := decide (256 < s.key.size) || decide (1024 < s.s.size)
def heavyU (l : List St) : Bool := decide (200 < l.length) || l.any callH
theorem heavyU_of {l : List St} (h : heavyU l = false) : l.length ≤ 200 ∧ ∀ s ∈ l, s.key.size ≤ 256 ∧ s.s.size ≤ 1024 := by
  unfold heavyU callH at h
  simp at h
  exact ⟨by omega, fun s hs => by have := h.2 s hs; omega⟩
set_option maxRecDepth 100000 in
set_option maxHeartbeats 2000000 in
theorem heavyU_spec (A : Option Addr) (c : Nat) (l : List St) (w : World) (hl : RowsAt w A 5 (l.map encU)) (hs : ∀ s ∈ l, okU s) :
    Calls Try.prog 8 #[.slice A l.length c] w fun e w' => e = .returned (.bool (heavyU l)) ∧ Upd [] w w' := by
  by_cases c1 : 200 < l.length
  · have z1 : decide ((200 : Int) < (l.length : Int)) = true := decide_eq_true (by omega)
    have hv : Unit → heavyU l = true := fun _ => by simp [heavyU, c1]
    clear c1
    go_enter Try.func8, Try.ntmps8
    go_wp2_with fail
    go_ret
    exact ⟨by rw [hv ()]; rfl, Upd.refl _ _⟩
  have z1 : decide ((200 : Int) < (l.length : Int)) = false := decide_eq_false (by omega)
  have hH : Unit → heavyU l = l.any callH := fun _ => by simp [heavyU, c1]
  have hms : reach ≤ 140737488355328 := by unfold reach; omega
  go_enter Try.func8, Try.ntmps8
  go_wp2_with fail
  go_loopg [3] l.length (fun kq v3 w' => ∃ i : Nat, v3 = .int .i64 (i : Int) ∧ kq + i = l.length ∧ Upd [] w w' ∧ ∀ s ∈ l.take i, callH s = false)
  case atStart => exact ⟨0, rfl, rfl, Upd.refl _ _, by simp⟩
  case round =>
    obtain ⟨i, rfl, hk, hU, hA⟩ := hrel
    have hA' : Unit → ∀ s ∈ l.take i, callH s = false := fun _ => hA
    clear hA
    by_cases hi : i < l.length
    · have z2 : decide ((i : Int) < (l.length : Int)) = true := decide_eq_true (by omega)
      obtain ⟨x, hx⟩ : ∃ x, l[i]? = some x := ⟨l[i], List.getElem?_eq_getElem hi⟩
      obtain ⟨b, off, rfl, hc⟩ := (hl.keep hU) i (encU x) (by rw [List.getElem?_map, hx]; rfl)
      have k1 : wr.cell? ⟨b, off + i * 5 + 1, none⟩ = some (.string x.key) := hc 1 _ rfl
      have k4 : wr.cell? ⟨b, off + i * 5 + 4, none⟩ = some (.string x.s) := hc 4 _ rfl
      have hxs := hs x (List.mem_of_getElem? hx)
      have hx1 := hxs.2.1
      have hx2 := hxs.2.2.2.2
      have y0 : (0 : Int) ≤ (i : Int) := by omega
      have y1 : (i : Int) < (l.length : Int) := by omega
      clear hc hxs
      by_cases q1 : 256 < x.key.size
      · have z3 : decide ((256 : Int) < (x.key.size : Int)) = true := decide_eq_true (by omega)
        have hv : Unit → heavyU l = true := fun _ => by
          rw [hH (), List.any_eq_true]
          exact ⟨x, List.mem_of_getElem? hx, by simp [callH, q1]⟩
        clear hx
        go_wp2_with fail
        go_ret
        exact ⟨by rw [hv ()]; rfl, hU⟩
      · have z3 : decide ((256 : Int) < (x.key.size : Int)) = false := decide_eq_false (by omega)
        by_cases q2 : 1024 < x.s.size
        · have z4 : decide ((1024 : Int) < (x.s.size : Int)) = true := decide_eq_true (by omega)
          have hv : Unit → heavyU l = true := fun _ => by
            rw [hH (), List.any_eq_true]
            exact ⟨x, List.mem_of_getElem? hx, by simp [callH, q2]⟩
          clear hx
          go_wp2_with fail
          go_ret
          exact ⟨by rw [hv ()]; rfl, hU⟩
        · have z4 : decide ((1024 : Int) < (x.s.size : Int)) = false := decide_eq_false (by omega)
          have hA2 : Unit → ∀ s ∈ l.take (i + 1), callH s = false := fun _ s hs' => by
            rw [List.take_add_one, hx] at hs'
            rcases List.mem_append.1 hs' with h | h
            · exact hA' () s h
            · simp at h
              subst h
              simp [callH, q1, q2]
          clear hx hA'
          go_wp2_with fail
          go_roundg (gk - 1)
          case measure => omega
          case rel => exact ⟨i + 1, by go_num, by omega, hU, hA2 ()⟩
    · have z2 : decide ((i : Int) < (l.length : Int)) = false := decide_eq_false (by omega)
      have hv : Unit → heavyU l = false := fun _ => by
        have := hA' ()
        rw [List.take_of_length_le (by omega)] at this
        rw [hH (), List.any_eq_false]
        intro s hs; simp [this s hs]
      clear hA'
      go_wp2_with fail
      go_ret
      exact ⟨by rw [hv ()]; rfl, hU⟩
section
variable {H : Type} {enc : TypeId × Value → H} {w : World} {base : Nat} {spare : Nat → Bool} {held : Bool}
theorem open_ustep {fuel : Nat} {cs : List Value} {x : DataW H × List MemPlace} (hl : cs.length = 5) (h : DataW.trod enc Try.prog w base spare held fuel 32 cs = some x) (hsz : ∀ k ∈ x.1.weights Try.prog 32, k ≤ reachBytes) :
    ∃ s : St, okU s ∧ ∀ (j : Nat) (v : Value), (encU s)[j]? = some v → cs[j]? = some v := by
  obtain ⟨n0, v0, y0, c0, t0, _⟩ := open_field Try.underlying32 h (j := 0) rfl (by kernel_rfl) (by rw [hl]; decide)
  obtain ⟨n1, v1, y1, c1, t1, k1⟩ := open_field Try.underlying32 h (j := 1) rfl (by kernel_rfl) (by rw [hl]; decide)
  obtain ⟨n2, v2, y2, c2, t2, _⟩ := open_field Try.underlying32 h (j := 2) rfl (by kernel_rfl) (by rw [hl]; decide)
  obtain ⟨n3, v3, y3, c3, t3, _⟩ := open_field Try.underlying32 h (j := 3) rfl (by kernel_rfl) (by rw [hl]; decide)
  obtain ⟨n5, v5, y5, c5, t5, k5⟩ := open_field Try.underlying32 h (j := 4) rfl (by kernel_rfl) (by rw [hl]; decide)
  obtain ⟨a0, e0, _, g0⟩ := DataW.trod_int Try.underlying5 t0
  obtain ⟨a1, e1, f1, g1⟩ := DataW.trod_string Try.underlying9 t1
  obtain ⟨a2, e2, _, g2⟩ := DataW.trod_int Try.underlying3 t2
  obtain ⟨a3, e3, _, g3⟩ := DataW.trod_int Try.underlying3 t3
  obtain ⟨a5, e5, f5, g5⟩ := DataW.trod_string Try.underlying9 t5
  cases e0; cases e1; cases e2; cases e3; cases e5
  have e : reachBytes ≤ reach := by decide
  have hr1 : a1.size ≤ reach := Nat.le_trans (hsz _ (k1 a1.data.toList.length (by subst f1; simp [DataW.weights]))) e
  have hr : a5.size ≤ reach := Nat.le_trans (hsz _ (k5 a5.data.toList.length (by subst f5; simp [DataW.weights]))) e
  have g0' : IntKind.u8.min ≤ a0 ∧ a0 ≤ IntKind.u8.max := by simpa [Lit.wf] using g0
  refine ⟨⟨a0, a1, a2, a3, a5⟩, ⟨g0', hr1, g2, g3, hr⟩, fun j v hj => ?_⟩
  match j, hj with
  | 0, hj => cases hj; exact c0
  | 1, hj => cases hj; exact c1
  | 2, hj => cases hj; exact c2
  | 3, hj => cases hj; exact c3
  | 4, hj => cases hj; exact c5
theorem open_usteps {fuel : Nat} {cs : List Value} {x : DataW H × List MemPlace} (h : DataW.trod enc Try.prog w base spare held fuel 22 cs = some x) (hsz : ∀ k ∈ x.1.weights Try.prog 22, k ≤ reachBytes) :
    ∃ (A : Option Addr) (cap : Nat) (l : List St), cs = [.slice A l.length cap] ∧ RowsAt w A 5 (l.map encU) ∧ ∀ s ∈ l, okU s := by
  have hc98 : Try.prog.cellsOf 32 = 5 := by kernel_rfl
  obtain ⟨A, len, cap, hcs, _, _, hi⟩ := open_elems Try.underlying22 (by rw [hc98]; decide) h
  rw [hc98] at hi
  obtain ⟨l, hlen, hl⟩ := exists_list (α := St) (fun i s => ∃ b off, A = some ⟨b, off, none⟩ ∧ okU s ∧ ∀ (j : Nat) (v : Value), (encU s)[j]? = some v → w.cell? ⟨b, off + i * 5 + j, none⟩ = some v) len (fun i hil => by
    obtain ⟨b, off, n, cs', y, hA, hlc, hcell, ht, hw⟩ := hi i hil
    obtain ⟨s, ho, hc⟩ := open_ustep hlc ht (fun k hk => hsz k (hw k hk))
    exact ⟨s, b, off, hA, ho, fun j v hj => hcell j v (hc j v hj)⟩)
  subst hlen
  refine ⟨A, cap, l, hcs, fun i r hr => ?_, fun s hs => ?_⟩
  · rw [List.getElem?_map] at hr
    cases hx : l[i]? with
    | none => rw [hx] at hr; cases hr
    | some s =>
      rw [hx] at hr
      cases hr
      obtain ⟨b, off, h1, _, h3⟩ := hl i s hx
      exact ⟨b, off, h1, h3⟩
  · obtain ⟨i, hi'⟩ := List.mem_iff_getElem?.1 hs
    obtain ⟨_, _, _, h2, _⟩ := hl i s hi'
    exact h2
end
end Go.Proofs.Ytagjcnhgappcjaa
