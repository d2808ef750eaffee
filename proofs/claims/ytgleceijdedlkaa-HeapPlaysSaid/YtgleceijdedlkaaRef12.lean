/- The document's answer for the slab: At, Used. -/
import Derived.Test.YtgleceijdedlkaaPartLib
import Derived.Test.YtgleceijdedlkaaRoom12
import Derived.Test.YtgleceijdedlkaaNone12
import Derived.Deep.RegionHeld3
import Derived.IntWalk
import Derived.Deep.QuietTactic
import Derived.BigQuiet
namespace Go.Proofs.Ytgleceijdedlkaa
set_option linter.unusedSectionVars false
set_option linter.unusedVariables false
set_option linter.unusedSimpArgs false
open Go.RowKit
def encT (p : Int × List UInt8) : List Value := [.int .i64 p.1, .string (bstr p.2)]
def tblk (room : Int) (v : Value) : Obj := .cells #[.int .i64 room, v] 96 (0, 0)
/-- Where a slot's one stands. -/
def posT {V : Type} (l : List (Int × V)) (s : Int) : Int := match l.findIdx? (fun q => decide (q.1 = s)) with | some i => (i : Int) | none => -1
theorem posT_some {V : Type} {l : List (Int × V)} {s : Int} {i : Nat} {q : Int × V} (hi : l[i]? = some q) (hq : q.1 = s) (hn : ∀ j, j < i → ∀ p, l[j]? = some p → p.1 ≠ s) : posT l s = (i : Int) := by
  have hlt := (List.getElem?_eq_some_iff.1 hi).1
  have he := (List.getElem?_eq_some_iff.1 hi).2
  have : l.findIdx? (fun q => decide (q.1 = s)) = some i := by
    rw [List.findIdx?_eq_some_iff_getElem]
    refine ⟨hlt, by simp [he, hq], fun j hj => ?_⟩
    have := hn j hj _ (List.getElem?_eq_getElem (by omega))
    simpa using this
  unfold posT
  rw [this]
theorem posT_none {V : Type} {l : List (Int × V)} {s : Int} (hn : ∀ q ∈ l, q.1 ≠ s) : posT l s = -1 := by
  have : l.findIdx? (fun q => decide (q.1 = s)) = none := by
    rw [List.findIdx?_eq_none_iff]
    intro q hq
    simpa using hn q hq
  unfold posT
  rw [this]
theorem posT_cases {V : Type} {l : List (Int × V)} {s : Int} : (posT l s = -1 ∧ ∀ q ∈ l, q.1 ≠ s) ∨ ∃ (i : Nat) (q : Int × V), posT l s = (i : Int) ∧ l[i]? = some q ∧ q.1 = s := by
  cases h : l.findIdx? (fun q => decide (q.1 = s)) with
  | none =>
    rw [List.findIdx?_eq_none_iff] at h
    have h' : ∀ q ∈ l, q.1 ≠ s := fun q hq => by simpa using h q hq
    exact .inl ⟨posT_none h', h'⟩
  | some i =>
    have h2 := h
    rw [List.findIdx?_eq_some_iff_getElem] at h2
    obtain ⟨hlt, hp, _⟩ := h2
    exact .inr ⟨i, l[i], by unfold posT; rw [h], List.getElem?_eq_getElem hlt, by simpa using hp⟩
section
variable {w0 w : World} {K : List (Nat × Obj)} {T : Res} [Good T] {r : Nat} {room : Int} {vL : Value} {l : List (Int × List UInt8)}
theorem rowcellT {A : Option Addr} {i : Nat} {q : Int × List UInt8} (hr : RowsAt w A 2 (l.map encT)) (hq : l[i]? = some q) : ∃ b off, A = some ⟨b, off, none⟩ ∧ w.cell? ⟨b, off + i * 2, none⟩ = some (.int .i64 q.1) ∧ w.cell? ⟨b, off + i * 2 + 1, none⟩ = some (.string (bstr q.2)) := by
  obtain ⟨b, off, e, hc⟩ := hr i (encT q) (by rw [List.getElem?_map, hq]; rfl)
  exact ⟨b, off, e, hc 0 _ rfl, hc 1 _ rfl⟩
set_option maxRecDepth 100000 in
set_option maxHeartbeats 4000000 in
theorem uAt (H : SepK w0 w K (star (rowR 101 2 vL (l.map encT)) T)) (hK : (r, tblk room vL) ∈ K) (s : Int) (hl : l.length ≤ 100000) :
    Calls Try.prog 58 #[.pointer (some ⟨r, 0, none⟩), .int .i64 s] w fun e w' => e = .returned (.int .i64 (posT l s)) ∧ w = w' := by
  obtain ⟨A, c, rfl, hr, -⟩ := H.parts
  have fr := H.blk hK
  have c0 := cell_of fr 1
  have lt := lt_of_heap fr
  simp only [List.getElem?_toArray, List.getElem?_cons_zero, List.getElem?_cons_succ, List.length_map] at c0
  clear H hK fr
  go_enter Try.func58, Try.ntmps58
  go_wp2_with fail
  go_loopg [5] l.length (fun kq v5 w' => ∃ i : Nat, v5 = .int .i64 (i : Int) ∧ kq + i = l.length ∧ w = w' ∧ ∀ j, j < i → ∀ p, l[j]? = some p → p.1 ≠ s)
  case atStart => exact ⟨0, rfl, rfl, rfl, fun j hj => by omega⟩
  case round =>
    obtain ⟨i, rfl, hk, rfl, hn⟩ := hrel
    by_cases hi : i < l.length
    · have z1 : decide ((i : Int) < (l.length : Int)) = true := decide_eq_true (by omega)
      obtain ⟨q, hq⟩ : ∃ q, l[i]? = some q := ⟨l[i], List.getElem?_eq_getElem hi⟩
      obtain ⟨b, off, rfl, k0, k1⟩ := rowcellT hr hq
      by_cases hqs : q.1 = s
      · have hat := posT_some hq hqs hn
        clear hn hr
        have hH : Unit → posT l s = (i : Int) := fun _ => hat
        clear hat
        have z2 : (q.1 == s) = true := by simpa using hqs
        clear hqs
        go_wp2_with fail
        go_ret
        exact ⟨by rw [hH ()]; rfl, rfl⟩
      · have z2 : (q.1 == s) = false := by simpa using hqs
        have hn' : ∀ j, j < i + 1 → ∀ p, l[j]? = some p → p.1 ≠ s := fun j hj p hp => by
          by_cases e : j = i
          · subst e
            rw [hq] at hp
            cases hp
            exact hqs
          · exact hn j (by omega) p hp
        clear hn hr hqs
        have hH : Unit → ∀ j, j < i + 1 → ∀ p, l[j]? = some p → p.1 ≠ s := fun _ => hn'
        clear hn'
        go_wp2_with fail
        go_roundg (gk - 1)
        case measure => omega
        case rel => exact ⟨i + 1, by go_num, by omega, rfl, hH ()⟩
    · have z1 : decide ((i : Int) < (l.length : Int)) = false := decide_eq_false (by omega)
      have hH : Unit → posT l s = -1 := fun _ => posT_none fun q hq => by
        obtain ⟨j, hj⟩ := List.mem_iff_getElem?.1 hq
        have := (List.getElem?_eq_some_iff.1 hj).1
        exact hn j (by omega) q hj
      clear hn hr
      go_wp2_with fail
      go_ret
      exact ⟨by rw [hH ()]; rfl, rfl⟩
end
end Go.Proofs.Ytgleceijdedlkaa
