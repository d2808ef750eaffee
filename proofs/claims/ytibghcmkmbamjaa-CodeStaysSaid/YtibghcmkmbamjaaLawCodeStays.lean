/- CodeStays: of a program that may be, whoever begins at a subprogram's beginning, and goes where instructions lead, by whatever choices, stays within it, at instructions, and never comes behind its end; a chain of calls has no more subprograms than there are: any program, any choices. -/
import Derived.Test.YtibghcmkmbamjaaRows
import Derived.Test.YtibghcmkmbamjaaGPure
import Derived.Test.YtibghcmkmbamjaaCStays
import Derived.Lib.SmallJoins
namespace Go.Proofs.Ytibghcmkmbamjaa
open Go.ChangeShapes Go.WideShapes Go.ChangeAt Go.RowKit
open Go.ChangeMaps (open_string)
open Go.Joins (open_agg2)
set_option linter.unusedVariables false
namespace LCodeStays
theorem own : ownKnob Try.prog.godebug = none := by kernel_rfl
theorem laidOut : laidOutB Try.prog = true := by kernel_rfl
set_option maxRecDepth 100000 in
theorem lifted (os : Os) (started : os.Started) (H : Type) (enc : TypeId × Value → H) :
    ReturnsInHanded {} Try.checked os 9 .any (Rows.codeStaysSpec.pre6 enc Try.prog Try.f9 Rows.codeStaysRow.domain false) (Rows.codeStaysSpec.post enc Try.prog Try.f9 false true false false) := by
  refine returnsInHanded_of_change_sized (C := Try.checked) own started (by kernel_rfl) Try.func9
    (ChangeSpec.witness6 (enc := enc) (C := Try.checked) false ⟨#[], #[.slice none 0 0, .int .u8 0, .slice none 0 0], []⟩ 8 (by kernel_rfl) (by kernel_rfl) (by kernel_rfl) (by kernel_rfl)) ?_
  intro W base args ds gs before hval0 hW hcnd hsz0 _
  have hsz : (DataW.weightsEach Try.prog (Try.f9.params.toList ++ Rows.codeStaysSpec.plain.varTypes Try.prog) (ds ++ gs)).all (· ≤ reachBytes) = true := hsz0
  have hval : ∀ (j : Nat) t v, Try.f9.params[j]? = some t → args[j]? = some v → Value.okWide Try.prog W .any base t v := hval0
  have hW' := hW
  obtain ⟨p, q, hA0, hV, rfl, hfz, hnd⟩ := hW
  have hA : DataW.TrodAll enc Try.prog W 0 (fun _ => true) true Try.f9.params.toList args.toList ds p := hA0
  rw [Try.params9] at hA hval hsz
  obtain ⟨v0, vs0, d0, ds0, p0, q0, hargs, rfl, rfl, h0, r0⟩ := trodAll_cons hA
  obtain ⟨v1, vs1, d1, ds1, p1, q1, rfl, rfl, rfl, h1, r1⟩ := trodAll_cons r0
  obtain ⟨v2, vs2, d2, ds2, p2, q2, rfl, rfl, rfl, h2, r2⟩ := trodAll_cons r1
  obtain ⟨rfl, rfl, rfl⟩ := trodAll_nil r2
  obtain rfl : args = #[v0, v1, v2] := by cases args; simp_all
  obtain ⟨rfl, rfl⟩ := trodVars_none hV
  obtain ⟨A0, len0, cap0, rfl⟩ := okWide_slice Try.underlying43 (hval 0 43 v0 rfl rfl)
  obtain ⟨n0, hn0⟩ := h0
  obtain ⟨A0', len0', c0', hcs0, hlc0, hcm0, hrow0⟩ := open_rows Try.underlying43 Try.underlying24 (by kernel_rfl) (by kernel_rfl) (by decide) hn0
  simp only [Value.cells] at hcs0
  cases hcs0
  obtain ⟨l0, hlen0, hl0⟩ := exists_list (α := Ins) (fun i x => ∃ b off, A0 = some ⟨b, off, none⟩ ∧ OkW x ∧ ∀ j v, (encN x)[j]? = some v → W.cell? ⟨b, off + i * 5 + j, none⟩ = some v) len0 (fun i hi => by
    obtain ⟨b, off, n, hA1, hf⟩ := hrow0 i hi
    obtain ⟨u0, y0, k0, t0⟩ := hf 0 _ rfl
    obtain ⟨u1, y1, k1, t1⟩ := hf 1 _ rfl
    obtain ⟨u2, y2, k2, t2⟩ := hf 2 _ rfl
    obtain ⟨u3, y3, k3, t3⟩ := hf 3 _ rfl
    obtain ⟨u4, y4, k4, t4⟩ := hf 4 _ rfl
    obtain ⟨x0, e0, _, g0⟩ := DataW.trod_int Try.underlying5 t0
    obtain ⟨x1, e1, _, g1⟩ := DataW.trod_int Try.underlying5 t1
    obtain ⟨x2, e2, _, g2⟩ := DataW.trod_int Try.underlying5 t2
    obtain ⟨x3, e3, _, g3⟩ := DataW.trod_int Try.underlying22 t3
    obtain ⟨x4, e4, _, g4⟩ := DataW.trod_int Try.underlying21 t4
    cases e0; cases e1; cases e2; cases e3; cases e4
    refine ⟨⟨x0, x1, x2, x3, x4⟩, b, off, hA1, ⟨g0, g1, g2, g3, g4⟩, fun j v hj => ?_⟩
    match j, hj with
    | 0, hj => cases hj; exact k0
    | 1, hj => cases hj; exact k1
    | 2, hj => cases hj; exact k2
    | 3, hj => cases hj; exact k3
    | 4, hj => cases hj; exact k4)
  subst hlen0
  have hr0 : RowsAt W A0 5 (l0.map encN) := fun i r hi => by
    rw [List.getElem?_map] at hi
    cases hx : l0[i]? with
    | none => rw [hx] at hi; cases hi
    | some x =>
      rw [hx] at hi
      cases hi
      obtain ⟨b, off, h1, _, h3⟩ := hl0 i x hx
      exact ⟨b, off, h1, h3⟩
  have ho0 : ∀ x ∈ l0, OkW x := fun x hx => by
    obtain ⟨i, hi⟩ := List.mem_iff_getElem?.1 hx
    obtain ⟨_, _, _, h2, _⟩ := hl0 i x hi
    exact h2
  obtain ⟨a1, rfl, rfl, rfl, w1⟩ := open_int Try.underlying5 (hval 1 5 v1 rfl rfl) h1
  obtain ⟨A2, len2, cap2, rfl⟩ := okWide_slice Try.underlying39 (hval 2 39 v2 rfl rfl)
  obtain ⟨n2, hn2⟩ := h2
  obtain ⟨A2', c2, l2, hcs2, hlc2, hcm2, hl2⟩ := open_byteslice Try.underlying39 Try.underlying5 (by kernel_rfl) hn2
  simp only [Value.cells] at hcs2
  cases hcs2
  clear hA0 hval0 hsz0
  refine (stays9 cap0 cap2 a1 (u8_range w1) hr0 (fun x hx => okw_ok (ho0 x hx)) (by omega) hl2 (by omega)).mono fun e W' ⟨he, u⟩ => ?_
  subst he
  exact ⟨_, rfl, law_post laidOut hW' rfl (by kernel_rfl) rfl Try.underlying4 rfl (u.below (by simp) (Nat.le_refl _))⟩
theorem over : Rows.codeStaysRow.holds Try.pinned (OpenSpec.ofChange Rows.codeStaysSpec) :=
  OpenClaim.holds_of_wide 9 Try.f9 rfl rfl rfl rfl rfl rfl rfl ⟨rfl, rfl, rfl, rfl, rfl⟩ rfl rfl rfl rfl rfl (by kernel_rfl) Try.func9 (by kernel_rfl)
    (of_decide_eq_true (by kernel_rfl)) (by unfold Func.isWrapper; first | (rw [if_pos (by decide +kernel)]; kernel_rfl) | (rw [if_neg (by decide +kernel)]; exact ⟨rfl, rfl⟩))
    (fun os started H enc _ => lifted os started H enc)
end LCodeStays
theorem codeStays_holds : Rows.CodeStaysSaid := LCodeStays.over
#print axioms codeStays_holds
end Go.Proofs.Ytibghcmkmbamjaa
