/- SlabApart: what is written into one slot is read there, and changes no other one, whatever sizes, slot, place, text. -/
import Derived.Test.YtgleceijdedlkaaRows
import Derived.Test.YtgleceijdedlkaaApart12
import Derived.Test.YtgleceijdedlkaaLawLib
import Derived.Lib.SmallJoins
namespace Go.Proofs.Ytgleceijdedlkaa
open Go.ChangeShapes Go.WideShapes Go.ChangeAt Go.RowKit
open Go.ChangeMaps (open_string)
open Go.Joins (open_agg2)
set_option linter.unusedVariables false
namespace LSlabApart
theorem slabWalk (A : Option Addr) (c : Nat) (l : List UInt8) (a1 a2 : Int) (t : ByteArray) (w : World) (hl : BytesRd w A l) (h1 : (Lit.int .u8 a1).wf = true) (h2 : (Lit.int .u8 a2).wf = true) (ht : t.size ≤ maxLen) :
    Calls Try.prog 4 #[.slice A l.length c, .int .u8 a1, .int .u8 a2, .string t] w fun e w' => e = .returned (.bool true) ∧ Upd [] w w' := by
  have q1 : IntKind.u8.min ≤ a1 ∧ a1 ≤ IntKind.u8.max := by simpa [Lit.wf] using h1
  have q2 : IntKind.u8.min ≤ a2 ∧ a2 ≤ IntKind.u8.max := by simpa [Lit.wf] using h2
  change (0 : Int) ≤ a1 ∧ a1 ≤ 255 at q1
  change (0 : Int) ≤ a2 ∧ a2 ≤ 255 at q2
  have e1 : ((UInt8.ofNat a1.toNat).toNat : Int) = a1 := by simp [UInt8.toNat_ofNat']; omega
  have e2 : (a2.toNat : Int) = a2 := by omega
  have := slabApart_walk A c l (UInt8.ofNat a1.toNat) a2.toNat t w (by omega) hl ht
  rwa [e1, e2] at this
theorem own : ownKnob Try.prog.godebug = none := by kernel_rfl
theorem laidOut : laidOutB Try.prog = true := by kernel_rfl
set_option maxRecDepth 100000 in
theorem lifted (os : Os) (started : os.Started) (H : Type) (enc : TypeId × Value → H) :
    ReturnsInHanded {} Try.checked os 4 .any (Rows.slabApartSpec.pre6 enc Try.prog Try.f4 Rows.slabApartRow.domain false) (Rows.slabApartSpec.post enc Try.prog Try.f4 false true false false) := by
  refine returnsInHanded_of_change_sized (C := Try.checked) own started (by kernel_rfl) Try.func4
    (ChangeSpec.witness6 (enc := enc) (C := Try.checked) false ⟨#[], #[.slice none 0 0, .int .u8 0, .int .u8 0, .string ⟨#[]⟩], []⟩ 8 (by kernel_rfl) (by kernel_rfl) (by kernel_rfl) (by kernel_rfl)) ?_
  intro W base args ds gs before hval0 hW hcnd hsz0 _
  have hsz : (DataW.weightsEach Try.prog (Try.f4.params.toList ++ Rows.slabApartSpec.plain.varTypes Try.prog) (ds ++ gs)).all (· ≤ reachBytes) = true := hsz0
  have hval : ∀ (j : Nat) t v, Try.f4.params[j]? = some t → args[j]? = some v → Value.okWide Try.prog W .any base t v := hval0
  have hW' := hW
  obtain ⟨p, q, hA0, hV, rfl, hfz, hnd⟩ := hW
  have hA : DataW.TrodAll enc Try.prog W 0 (fun _ => true) true Try.f4.params.toList args.toList ds p := hA0
  rw [Try.params4] at hA hval hsz
  obtain ⟨v0, vs0, d0, ds0, p0, q0, hargs, rfl, rfl, h0, r0⟩ := trodAll_cons hA
  obtain ⟨v1, vs1, d1, ds1, p1, q1, rfl, rfl, rfl, h1, r1⟩ := trodAll_cons r0
  obtain ⟨v2, vs2, d2, ds2, p2, q2, rfl, rfl, rfl, h2, r2⟩ := trodAll_cons r1
  obtain ⟨v3, vs3, d3, ds3, p3, q3, rfl, rfl, rfl, h3, r3⟩ := trodAll_cons r2
  obtain ⟨rfl, rfl, rfl⟩ := trodAll_nil r3
  obtain rfl : args = #[v0, v1, v2, v3] := by cases args; simp_all
  obtain ⟨rfl, rfl⟩ := trodVars_none hV
  obtain ⟨A0, len0, cap0, rfl⟩ := okWide_slice Try.underlying36 (hval 0 36 v0 rfl rfl)
  obtain ⟨n0, hn0⟩ := h0
  obtain ⟨A0', c0, l0, hcs0, hlc0, hcm0, hl0⟩ := open_byteslice Try.underlying36 Try.underlying5 (by kernel_rfl) hn0
  simp only [Value.cells] at hcs0
  cases hcs0
  obtain ⟨a1, rfl, rfl, rfl, w1⟩ := open_int Try.underlying5 (hval 1 5 v1 rfl rfl) h1
  obtain ⟨a2, rfl, rfl, rfl, w2⟩ := open_int Try.underlying5 (hval 2 5 v2 rfl rfl) h2
  obtain ⟨a3, rfl, rfl, rfl, w3⟩ := open_string Try.underlying9 (hval 3 9 v3 rfl rfl) h3
  clear hA0 hval0 hsz0
  refine (slabWalk A0 cap0 l0 a1 a2 a3 W hl0 w1 w2 w3).mono fun e W' ⟨he, u⟩ => ?_
  subst he
  exact ⟨_, rfl, law_post laidOut hW' rfl (by kernel_rfl) rfl Try.underlying4 rfl (u.below (by simp) (Nat.le_refl _))⟩
theorem over : Rows.slabApartRow.holds Try.pinned (OpenSpec.ofChange Rows.slabApartSpec) :=
  OpenClaim.holds_of_wide 4 Try.f4 rfl rfl rfl rfl rfl rfl rfl ⟨rfl, rfl, rfl, rfl, rfl⟩ rfl rfl rfl rfl rfl (by kernel_rfl) Try.func4 (by kernel_rfl)
    (of_decide_eq_true (by kernel_rfl)) (by unfold Func.isWrapper; first | (rw [if_pos (by decide +kernel)]; kernel_rfl) | (rw [if_neg (by decide +kernel)]; exact ⟨rfl, rfl⟩))
    (fun os started H enc _ => lifted os started H enc)
end LSlabApart
theorem slabApart_holds : Rows.SlabApartSaid := LSlabApart.over
#print axioms slabApart_holds
end Go.Proofs.Ytgleceijdedlkaa
