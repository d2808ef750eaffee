/- HandlePlays: the table plays the document's table, step by step. -/
import Derived.Test.YtgleceijdedlkaaRows
import Derived.Test.YtgleceijdedlkaaPlays13
namespace Go.Proofs.Ytgleceijdedlkaa
open Go.ChangeShapes Go.WideShapes Go.ChangeAt Go.RowKit
set_option linter.unusedVariables false
namespace HPlays
theorem own : ownKnob Try.prog.godebug = none := by kernel_rfl
theorem laidOut : laidOutB Try.prog = true := by kernel_rfl
set_option maxRecDepth 100000 in
theorem lifted (os : Os) (started : os.Started) (H : Type) (enc : TypeId × Value → H) :
    ReturnsInHanded {} Try.checked os 8 .any (Rows.handlePlaysSpec.pre6 enc Try.prog Try.f8 Rows.handlePlaysRow.domain false) (Rows.handlePlaysSpec.post enc Try.prog Try.f8 false true false false) := by
  refine returnsInHanded_of_change_sized (C := Try.checked) own started (by kernel_rfl) Try.func8
    (ChangeSpec.witness6 (enc := enc) (C := Try.checked) false ⟨#[], #[.slice none 0 0], []⟩ 8 (by kernel_rfl) (by kernel_rfl) (by kernel_rfl) (by kernel_rfl)) ?_
  intro W base args ds gs before hval0 hW hcnd hsz0 _
  have hval : ∀ (j : Nat) t v, Try.f8.params[j]? = some t → args[j]? = some v → Value.okWide Try.prog W .any base t v := hval0
  have hW' := hW
  obtain ⟨p, q, hA0, hV, rfl, hfz, hnd⟩ := hW
  have hA : DataW.TrodAll enc Try.prog W 0 (fun _ => true) true Try.f8.params.toList args.toList ds p := hA0
  rw [Try.params8] at hA hval
  obtain ⟨v0, vs0, d0, ds0, p0, q0, hargs, rfl, rfl, h0, r0⟩ := trodAll_cons hA
  obtain ⟨rfl, rfl, rfl⟩ := trodAll_nil r0
  obtain rfl : args = #[v0] := by cases args; simp_all
  obtain ⟨rfl, rfl⟩ := trodVars_none hV
  obtain ⟨A, len, cap, rfl⟩ := okWide_slice Try.underlying22 (hval 0 22 v0 rfl rfl)
  obtain ⟨n0, hn0⟩ := h0
  obtain ⟨A', len', cap', hcs, hlc, hcm, hrow⟩ := open_rows Try.underlying22 Try.underlying28 (by kernel_rfl) (by kernel_rfl) (by decide) hn0
  simp only [Value.cells] at hcs
  cases hcs
  obtain ⟨l, hlen, hl⟩ := exists_list (α := Bool × Int × Int) (fun i x => ∃ b off, A = some ⟨b, off, none⟩ ∧ okP x ∧ ∀ j v, (encP x)[j]? = some v → W.cell? ⟨b, off + i * 3 + j, none⟩ = some v) len (fun i hi => by
    obtain ⟨b, off, n, hA1, hf⟩ := hrow i hi
    obtain ⟨u0, y0, k0, t0⟩ := hf 0 _ rfl
    obtain ⟨u1, y1, k1, t1⟩ := hf 1 _ rfl
    obtain ⟨u2, y2, k2, t2⟩ := hf 2 _ rfl
    obtain ⟨x0, e0, _⟩ := DataW.trod_bool Try.underlying4 t0
    obtain ⟨x1, e1, _, g1⟩ := DataW.trod_int Try.underlying3 t1
    obtain ⟨x2, e2, _, g2⟩ := DataW.trod_int Try.underlying26 t2
    cases e0; cases e1; cases e2
    refine ⟨(x0, x1, x2), b, off, hA1, ⟨g1, g2⟩, fun j v hj => ?_⟩
    match j, hj with
    | 0, hj => cases hj; exact k0
    | 1, hj => cases hj; exact k1
    | 2, hj => cases hj; exact k2)
  subst hlen
  refine (plays13_walk A cap l W (fun i r hi => ?_) (fun s hs => ?_)).mono fun e W' ⟨he, u⟩ => ?_
  · rw [List.getElem?_map] at hi
    cases hx : l[i]? with
    | none => rw [hx] at hi; cases hi
    | some x =>
      rw [hx] at hi
      cases hi
      obtain ⟨b, off, h1, _, h3⟩ := hl i x hx
      exact ⟨b, off, h1, h3⟩
  · obtain ⟨i, hi⟩ := List.mem_iff_getElem?.1 hs
    obtain ⟨_, _, _, h2, _⟩ := hl i s hi
    exact h2
  · subst he
    exact ⟨_, rfl, law_post laidOut hW' rfl (by kernel_rfl) rfl Try.underlying4 rfl (u.below (by simp) (Nat.le_refl _))⟩
theorem over : Rows.handlePlaysRow.holds Try.pinned (OpenSpec.ofChange Rows.handlePlaysSpec) :=
  OpenClaim.holds_of_wide 8 Try.f8 rfl rfl rfl rfl rfl rfl rfl ⟨rfl, rfl, rfl, rfl, rfl⟩ rfl rfl rfl rfl rfl (by kernel_rfl) Try.func8 (by kernel_rfl)
    (of_decide_eq_true (by kernel_rfl)) (by unfold Func.isWrapper; first | (rw [if_pos (by decide +kernel)]; kernel_rfl) | (rw [if_neg (by decide +kernel)]; exact ⟨rfl, rfl⟩))
    (fun os started H enc _ => lifted os started H enc)
end HPlays
theorem handlePlays_holds : Rows.HandlePlaysSaid := HPlays.over
#print axioms handlePlays_holds
end Go.Proofs.Ytgleceijdedlkaa
