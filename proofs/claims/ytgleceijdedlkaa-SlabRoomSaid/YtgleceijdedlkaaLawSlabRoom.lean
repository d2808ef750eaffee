/- SlabRoom: what is used is never more than the room, and all is free again once all is given, whatever room, sizes, gives. -/
import Derived.Test.YtgleceijdedlkaaRows
import Derived.Test.YtgleceijdedlkaaRoom12b
import Derived.Test.YtgleceijdedlkaaLawLib
import Derived.Test.YtgleceijdedlkaaOpenBool
import Derived.Lib.SmallJoins
namespace Go.Proofs.Ytgleceijdedlkaa
open Go.ChangeShapes Go.WideShapes Go.ChangeAt Go.RowKit
open Go.ChangeMaps (open_string)
open Go.Joins (open_agg2)
set_option linter.unusedVariables false
namespace LSlabRoom
theorem own : ownKnob Try.prog.godebug = none := by kernel_rfl
theorem laidOut : laidOutB Try.prog = true := by kernel_rfl
set_option maxRecDepth 100000 in
theorem lifted (os : Os) (started : os.Started) (H : Type) (enc : TypeId × Value → H) :
    ReturnsInHanded {} Try.checked os 11 .any (Rows.slabRoomSpec.pre6 enc Try.prog Try.f11 Rows.slabRoomRow.domain false) (Rows.slabRoomSpec.post enc Try.prog Try.f11 false true false false) := by
  refine returnsInHanded_of_change_sized (C := Try.checked) own started (by kernel_rfl) Try.func11
    (ChangeSpec.witness6 (enc := enc) (C := Try.checked) false ⟨#[], #[.int .u16 0, .slice none 0 0, .slice none 0 0], []⟩ 8 (by kernel_rfl) (by kernel_rfl) (by kernel_rfl) (by kernel_rfl)) ?_
  intro W base args ds gs before hval0 hW hcnd hsz0 _
  have hsz : (DataW.weightsEach Try.prog (Try.f11.params.toList ++ Rows.slabRoomSpec.plain.varTypes Try.prog) (ds ++ gs)).all (· ≤ reachBytes) = true := hsz0
  have hval : ∀ (j : Nat) t v, Try.f11.params[j]? = some t → args[j]? = some v → Value.okWide Try.prog W .any base t v := hval0
  have hW' := hW
  obtain ⟨p, q, hA0, hV, rfl, hfz, hnd⟩ := hW
  have hA : DataW.TrodAll enc Try.prog W 0 (fun _ => true) true Try.f11.params.toList args.toList ds p := hA0
  rw [Try.params11] at hA hval hsz
  obtain ⟨v0, vs0, d0, ds0, p0, q0, hargs, rfl, rfl, h0, r0⟩ := trodAll_cons hA
  obtain ⟨v1, vs1, d1, ds1, p1, q1, rfl, rfl, rfl, h1, r1⟩ := trodAll_cons r0
  obtain ⟨v2, vs2, d2, ds2, p2, q2, rfl, rfl, rfl, h2, r2⟩ := trodAll_cons r1
  obtain ⟨rfl, rfl, rfl⟩ := trodAll_nil r2
  obtain rfl : args = #[v0, v1, v2] := by cases args; simp_all
  obtain ⟨rfl, rfl⟩ := trodVars_none hV
  obtain ⟨a0, rfl, rfl, rfl, w0⟩ := open_int Try.underlying47 (hval 0 47 v0 rfl rfl) h0
  obtain ⟨A1, len1, cap1, rfl⟩ := okWide_slice Try.underlying36 (hval 1 36 v1 rfl rfl)
  obtain ⟨n1, hn1⟩ := h1
  obtain ⟨A1', c1, l1, hcs1, hlc1, hcm1, hl1⟩ := open_byteslice Try.underlying36 Try.underlying5 (by kernel_rfl) hn1
  simp only [Value.cells] at hcs1
  cases hcs1
  obtain ⟨A2, len2, cap2, rfl⟩ := okWide_slice Try.underlying81 (hval 2 81 v2 rfl rfl)
  obtain ⟨n2, hn2⟩ := h2
  obtain ⟨A2', c2, l2, hcs2, hlc2, hcm2, hr2⟩ := open_boolslice Try.underlying81 Try.underlying4 (by kernel_rfl) hn2
  simp only [Value.cells] at hcs2
  cases hcs2
  clear hA0 hval0 hsz0
  refine ((room_of a0 A1 cap1 l1 A2 cap2 l2 W hl1 hr2 w0)).mono fun e W' ⟨he, u⟩ => ?_
  subst he
  exact ⟨_, rfl, law_post laidOut hW' rfl (by kernel_rfl) rfl Try.underlying4 rfl (u.below (by simp) (Nat.le_refl _))⟩
theorem over : Rows.slabRoomRow.holds Try.pinned (OpenSpec.ofChange Rows.slabRoomSpec) :=
  OpenClaim.holds_of_wide 11 Try.f11 rfl rfl rfl rfl rfl rfl rfl ⟨rfl, rfl, rfl, rfl, rfl⟩ rfl rfl rfl rfl rfl (by kernel_rfl) Try.func11 (by kernel_rfl)
    (of_decide_eq_true (by kernel_rfl)) (by unfold Func.isWrapper; first | (rw [if_pos (by decide +kernel)]; kernel_rfl) | (rw [if_neg (by decide +kernel)]; exact ⟨rfl, rfl⟩))
    (fun os started H enc _ => lifted os started H enc)
end LSlabRoom
theorem slabRoom_holds : Rows.SlabRoomSaid := LSlabRoom.over
#print axioms slabRoom_holds
end Go.Proofs.Ytgleceijdedlkaa
