/- The document's example of the slab. -/
import Derived.Test.YtgleceijdedlkaaSlab2
namespace Go.Proofs.Ytgleceijdedlkaa
open Go.RowKit
set_option linter.unusedVariables false
set_option linter.unusedSimpArgs false
def upto (m : Nat) : List Int := (List.range m).map fun (i : Nat) => (i : Int)
theorem mem_upto (m : Nat) (k : Nat) : (k : Int) ∈ upto m ↔ k < m := by
  unfold upto
  rw [List.mem_map]
  constructor
  · rintro ⟨i, hi, he⟩
    have := List.mem_range.1 hi
    omega
  · intro h
    exact ⟨k, List.mem_range.2 h, rfl⟩
theorem upto_succ (m : Nat) : upto (m + 1) = upto m ++ [(m : Int)] := by simp [upto, List.range_succ]
theorem next_is {k m : Nat} (h1 : ∀ j : Nat, j < k → (j : Int) ∈ upto m) (h2 : (k : Int) ∉ upto m) : k = m := by
  rw [mem_upto] at h2
  rcases Nat.lt_trichotomy k m with h | h | h
  · omega
  · exact h
  · have := h1 m h
    rw [mem_upto] at this
    omega
set_option maxRecDepth 100000 in
set_option maxHeartbeats 2000000 in
theorem works12 (w : World) : Calls Try.prog 21 #[] w fun e w' => e = .returned (.bool true) ∧ Upd [] w w' := by
  go_enter Try.func21, Try.ntmps21
  go_wp2_with fail
  refine (NewSlab_spec _ 24 (by omega) (by omega)).mono ?_
  rintro e w1 ⟨s, bm, rfl, h1, u1, a1, a2⟩
  have s1 := u1.size
  go_wp2_with fail
  refine (Take_ok _ s bm 24 0 9 [] h1 (by decide) (by decide) (by omega) (by omega) (by simp)).mono ?_
  rintro e w2 ⟨k, b, rfl, p1, p2, h2, q1, u2⟩
  obtain rfl : k = 0 := next_is (m := 0) p1 p2
  have U2 := u1.step u2 (by simp; omega)
  have z1 : (0 : Int) + cls 9 = 16 := by decide
  rw [z1] at h2
  simp only [List.nil_append] at h2
  clear u1 u2 p1 p2 z1 h1
  go_wp2_with fail
  refine (Used_spec _ s bm _ _ _ h2).mono ?_
  rintro e w3 ⟨rfl, rfl⟩
  go_wp2_with fail
  refine (Take_full _ s bm 24 16 9 _ h2 (by decide) (by decide) (by omega) (by omega)).mono ?_
  rintro e w3 ⟨rfl, u3⟩
  have h3 := h2.keep u3
  have U3 := U2.trans u3
  clear h2 u3 U2
  go_wp2_with fail
  refine (Take_ok _ s bm 24 16 8 _ h3 (by decide) (by decide) (by omega) (by omega) (by simp)).mono ?_
  rintro e w4 ⟨k, b', rfl, p1, p2, h4, q2, u4⟩
  obtain rfl : k = 1 := next_is (m := 1) p1 p2
  have U4 := U3.step u4 (by simp; omega)
  have z1 : (16 : Int) + cls 8 = 24 := by decide
  rw [z1] at h4
  clear u4 p1 p2 z1 h3 U3
  go_wp2_with fail
  refine (Write_ok _ s bm 24 24 _ 0 7 ⟨#[120, 121]⟩ h4 rfl b (List.replicate 9 0) rfl (by simp) (by decide)).mono ?_
  rintro e w5 ⟨rfl, h5, u5⟩
  have U5 := U4.step u5 (by simp; omega)
  clear u5 h4 U4
  go_wp2_with fail
  refine (Read_ok _ s bm 24 24 _ 0 6 3 h5 rfl b [0, 0, 0, 0, 0, 0, 0, 120, 121] rfl (by simp) (by decide)).mono ?_
  rintro e w6 ⟨rfl, rfl⟩
  have z2 : bstr (([0, 0, 0, 0, 0, 0, 0, 120, 121] : List UInt8).drop 6 |>.take 3) = ⟨#[0, 120, 121]⟩ := rfl
  rw [z2]
  go_wp2_with fail
  go_ret
  exact ⟨rfl, U5⟩
end Go.Proofs.Ytgleceijdedlkaa
