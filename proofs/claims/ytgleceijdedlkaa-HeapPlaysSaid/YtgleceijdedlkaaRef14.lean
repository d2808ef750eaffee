/- The document's answer for the heap: where an object stands. -/
import Derived.Test.YtgleceijdedlkaaRef12e
import Derived.Test.YtgleceijdedlkaaRef13d
namespace Go.Proofs.Ytgleceijdedlkaa
set_option linter.unusedSectionVars false
set_option linter.unusedVariables false
set_option linter.unusedSimpArgs false
open Go.RowKit
/-- An object: its handle, how often it is held, its kind. -/
abbrev Ob : Type := (Int × Int) × (Int × Int)
def encO (p : Ob) : List Value := [.int .i64 p.1.1, .int .u64 p.1.2, .int .i64 p.2.2, .int .i64 p.2.1]
def gblk (s t : Nat) (v : Value) : Obj := .cells #[.pointer (some ⟨s, 0, none⟩), .pointer (some ⟨t, 0, none⟩), v] 109 (0, 0)
/-- Where a handle's one stands. -/
def posO (l : List Ob) (q : Int × Int) : Int := match l.findIdx? (fun p => decide (p.1 = q)) with | some i => (i : Int) | none => -1
theorem posO_some {l : List Ob} {s : Int × Int} {i : Nat} {q : Ob} (hi : l[i]? = some q) (hq : q.1 = s) (hn : ∀ j, j < i → ∀ p, l[j]? = some p → p.1 ≠ s) : posO l s = (i : Int) := by
  have hlt := (List.getElem?_eq_some_iff.1 hi).1
  have he := (List.getElem?_eq_some_iff.1 hi).2
  have : l.findIdx? (fun q => decide (q.1 = s)) = some i := by
    rw [List.findIdx?_eq_some_iff_getElem]
    refine ⟨hlt, by simp [he, hq], fun j hj => ?_⟩
    have := hn j hj _ (List.getElem?_eq_getElem (by omega))
    simpa using this
  unfold posO
  rw [this]
theorem posO_none {l : List Ob} {s : Int × Int} (hn : ∀ q ∈ l, q.1 ≠ s) : posO l s = -1 := by
  have : l.findIdx? (fun q => decide (q.1 = s)) = none := by
    rw [List.findIdx?_eq_none_iff]
    intro q hq
    simpa using hn q hq
  unfold posO
  rw [this]
theorem posO_cases {l : List Ob} {s : Int × Int} : (posO l s = -1 ∧ ∀ q ∈ l, q.1 ≠ s) ∨ ∃ (i : Nat) (q : Ob), posO l s = (i : Int) ∧ l[i]? = some q ∧ q.1 = s := by
  cases h : l.findIdx? (fun q => decide (q.1 = s)) with
  | none =>
    rw [List.findIdx?_eq_none_iff] at h
    have h' : ∀ q ∈ l, q.1 ≠ s := fun q hq => by simpa using h q hq
    exact .inl ⟨posO_none h', h'⟩
  | some i =>
    have h2 := h
    rw [List.findIdx?_eq_some_iff_getElem] at h2
    obtain ⟨hlt, hp, _⟩ := h2
    exact .inr ⟨i, l[i], by unfold posO; rw [h], List.getElem?_eq_getElem hlt, by simpa using hp⟩
section
variable {w0 w : World} {K : List (Nat × Obj)} {T : Res} [Good T] {g s t : Nat} {vO : Value} {os : List Ob}
theorem rowcellO {w : World} {A : Option Addr} {l : List Ob} {i : Nat} {q : Ob} (hr : RowsAt w A 4 (l.map encO)) (hq : l[i]? = some q) : ∃ b off, A = some ⟨b, off, none⟩ ∧ w.cell? ⟨b, off + i * 4, none⟩ = some (.int .i64 q.1.1) ∧ w.cell? ⟨b, off + i * 4 + 1, none⟩ = some (.int .u64 q.1.2) ∧ w.cell? ⟨b, off + i * 4 + 2, none⟩ = some (.int .i64 q.2.2) ∧ w.cell? ⟨b, off + i * 4 + 3, none⟩ = some (.int .i64 q.2.1) := by
  obtain ⟨b, off, e, hc⟩ := hr i (encO q) (by rw [List.getElem?_map, hq]; rfl)
  exact ⟨b, off, e, hc 0 _ rfl, hc 1 _ rfl, hc 2 _ rfl, hc 3 _ rfl⟩
set_option maxRecDepth 100000 in
set_option maxHeartbeats 4000000 in
theorem gAt (H : SepK w0 w K (star (rowR 106 4 vO (os.map encO)) T)) (hK : (g, gblk s t vO) ∈ K) (q : Int × Int) (hl : os.length ≤ 100000) :
    Calls Try.prog 61 #[.pointer (some ⟨g, 0, none⟩), .agg #[.int .i64 q.1, .int .u64 q.2]] w fun e w' => e = .returned (.int .i64 (posO os q)) ∧ Upd [] w w' := by
  obtain ⟨A, c, rfl, -⟩ := H.parts
  rw [List.length_map] at hK
  rw [List.length_map] at H
  have H1 := H.alloc (.cells #[.int .i64 q.1, .int .u64 q.2] 30)
  have u1 := (Upd.refl [] w).alloc (.cells #[.int .i64 q.1, .int .u64 q.2] 30)
  generalize hb : w.heap.size = b0 at H1
  go_enter Try.func61, Try.ntmps61
  go_wp2_with fail
  clear hb
  generalize w.alloc (.cells #[.int .i64 q.1, .int .u64 q.2] 30) = w1 at H1 u1 ⊢
  clear H
  go_loopg [5] os.length (fun kq v5 w' => ∃ i : Nat, v5 = .int .i64 (i : Int) ∧ kq + i = os.length ∧ Upd [] w1 w' ∧ ∀ j, j < i → ∀ p, os[j]? = some p → p.1 ≠ q)
  case atStart => exact ⟨0, rfl, rfl, Upd.refl _ _, fun j hj => by omega⟩
  case round =>
    obtain ⟨i, rfl, hk, hU, hn⟩ := hrel
    have hS := H1.upd hU
    clear H1
    obtain ⟨A', c', e0, hr, -⟩ := hS.parts
    rw [List.length_map] at e0
    cases e0
    have fr := hS.blk (List.mem_cons_of_mem _ hK)
    have c2 := cell_of fr 2
    have lt := lt_of_heap fr
    have fd := hS.blk List.mem_cons_self
    have d0 := cell_of fd 0
    have d1 := cell_of fd 1
    have ld := lt_of_heap fd
    simp only [List.getElem?_toArray, List.getElem?_cons_zero, List.getElem?_cons_succ] at c2 d0 d1
    clear fr fd hS
    have uF := u1.trans hU
    by_cases hi : i < os.length
    · have z1 : decide ((i : Int) < (os.length : Int)) = true := decide_eq_true (by omega)
      have z2 : (0 : Int) ≤ (i : Int) := by omega
      have z3 : (i : Int) < (os.length : Int) := by omega
      obtain ⟨p, hp⟩ : ∃ p, os[i]? = some p := ⟨os[i], List.getElem?_eq_getElem hi⟩
      obtain ⟨b, off, rfl, k0, k1, -, -⟩ := rowcellO hr hp
      clear hr
      by_cases hqs : p.1 = q
      · have hat := posO_some hp hqs hn
        clear hn
        have hH : Unit → posO os q = (i : Int) := fun _ => hat
        clear hat
        have heq := eql30 p.1.1 p.1.2 q.1 q.2
        have z4 : decide ((p.1.1, p.1.2) = (q.1, q.2)) = true := decide_eq_true hqs
        rw [z4] at heq
        clear hqs z4
        go_wp2_with fail
        go_quiet (fail)
        go_wp2_with fail
        go_ret
        exact ⟨by rw [hH ()]; rfl, uF.trans ((Upd.refl [] _).drewN _)⟩
      · have hn' : ∀ j, j < i + 1 → ∀ p, os[j]? = some p → p.1 ≠ q := fun j hj p' hp' => by
          by_cases e : j = i
          · subst e
            rw [hp] at hp'
            cases hp'
            exact hqs
          · exact hn j (by omega) p' hp'
        clear hn
        have hH : Unit → ∀ j, j < i + 1 → ∀ p, os[j]? = some p → p.1 ≠ q := fun _ => hn'
        clear hn'
        have heq := eql30 p.1.1 p.1.2 q.1 q.2
        have z4 : decide ((p.1.1, p.1.2) = (q.1, q.2)) = false := decide_eq_false hqs
        rw [z4] at heq
        clear hqs z4
        go_wp2_with fail
        go_quiet (fail)
        go_wp2_with fail
        go_roundg (gk - 1)
        case measure => omega
        case rel => exact ⟨i + 1, by go_num, by omega, hU.trans ((Upd.refl [] _).drewN _), hH ()⟩
    · have z1 : decide ((i : Int) < (os.length : Int)) = false := decide_eq_false (by omega)
      have hH : Unit → posO os q = -1 := fun _ => posO_none fun p hp => by
        obtain ⟨j, hj⟩ := List.mem_iff_getElem?.1 hp
        have := (List.getElem?_eq_some_iff.1 hj).1
        exact hn j (by omega) p hj
      clear hn hr
      go_wp2_with fail
      go_ret
      exact ⟨by rw [hH ()]; rfl, uF⟩
end
end Go.Proofs.Ytgleceijdedlkaa
