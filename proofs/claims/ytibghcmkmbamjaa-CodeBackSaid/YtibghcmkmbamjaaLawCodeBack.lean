/- CodeBack: a program that was written is read, bytes that are read are written as they were, and two programs one behind the other are the first one's bytes, and the second one's: any two programs, any bytes. -/
import Derived.Test.YtibghcmkmbamjaaRows
import Derived.Test.YtibghcmkmbamjaaGPure
import Derived.Test.YtibghcmkmbamjaaCBack
import Derived.Lib.SmallJoins
namespace Go.Proofs.Ytibghcmkmbamjaa
open Go.ChangeShapes Go.WideShapes Go.ChangeAt Go.RowKit
open Go.ChangeMaps (open_string)
open Go.Joins (open_agg2)
set_option linter.unusedVariables false
namespace LCodeBack
theorem own : ownKnob Try.prog.godebug = none := by kernel_rfl
theorem laidOut : laidOutB Try.prog = true := by kernel_rfl
set_option maxRecDepth 100000 in
theorem lifted (os : Os) (started : os.Started) (H : Type) (enc : TypeId × Value → H) :
    ReturnsInHanded {} Try.checked os 11 .any (Rows.codeBackSpec.pre6 enc Try.prog Try.f11 Rows.codeBackRow.domain false) (Rows.codeBackSpec.post enc Try.prog Try.f11 false true false false) := by
  refine returnsInHanded_of_change_sized (C := Try.checked) own started (by kernel_rfl) Try.func11
    (ChangeSpec.witness6 (enc := enc) (C := Try.checked) false ⟨#[], #[.slice none 0 0, .slice none 0 0, .string ⟨#[]⟩], []⟩ 8 (by kernel_rfl) (by kernel_rfl) (by kernel_rfl) (by kernel_rfl)) ?_
  intro W base args ds gs before hval0 hW hcnd hsz0 _
  have hsz : (DataW.weightsEach Try.prog (Try.f11.params.toList ++ Rows.codeBackSpec.plain.varTypes Try.prog) (ds ++ gs)).all (· ≤ reachBytes) = true := hsz0
  have hval : ∀ (j : Nat) t v, Try.f11.params[j]? = some t → args[j]? = some v → Value.okWide Try.prog W .any base t v := hval0
  have hW' := hW
  obtain ⟨p, q, hA0, hV, rfl, hfz, hnd⟩ := hW
  have hA : DataW.TrodAll enc Try.prog W 0 (fun _ => true) true Try.f11.params.toList args.toList ds p := hA0
  rw [Try.params11] at hA hval hsz
  obtain ⟨v0, vs0, d0, ds0, p0, q0, hargs, rfl, rfl, h0, r0⟩ := trodAll_cons hA
  obtain ⟨v1, vs1, d1, ds1, p1, q1, rfl, rfl, rfl, h1, r1⟩ := trodAll_cons r0
  obtain ⟨v2, vs2, d2, ds2, p2, q2, rfl, rfl, rfl, h2, r2⟩ := trodAll_cons r1
  obtain ⟨rfl, rfl, rfl⟩ := trodAll_nil r2
  obtain rfl : args = #[v0, v1, v2] := by cases args; simp_all
  obtain ⟨rfl, rfl⟩ := trodVars_none hV
  obtain ⟨A0, len0, cap0, rfl⟩ := okWide_slice Try.underlying43 (hval 0 43 v0 rfl rfl)
  obtain ⟨n0, hn0⟩ := h0
  obtain ⟨A0', len0', c0', hcs0, hlc0, hcm0, hrow0⟩ := open_rows Try.underlying43 Try.underlying24 (by kernel_rfl) (by kernel_rfl) (by decide) hn0
  simp only [Value.cells] at hcs0
  cases hcs0
  obtain ⟨l0, hlen0, hl0⟩ := exists_list (α := Ins) (fun i x => ∃ b off, A0 = some ⟨b, off, none⟩ ∧ OkW x ∧ ∀ j v, (encN x)[j]? = some v → W.cell? ⟨b, off + i * 5 + j, none⟩ = some v) len0 (fun i hi => by
    obtain ⟨b, off, n, hA1, hf⟩ := hrow0 i hi
    obtain ⟨u0, y0, k0, t0⟩ := hf 0 _ rfl
    obtain ⟨u1, y1, k1, t1⟩ := hf 1 _ rfl
    obtain ⟨u2, y2, k2, t2⟩ := hf 2 _ rfl
    obtain ⟨u3, y3, k3, t3⟩ := hf 3 _ rfl
    obtain ⟨u4, y4, k4, t4⟩ := hf 4 _ rfl
    obtain ⟨x0, e0, _, g0⟩ := DataW.trod_int Try.underlying5 t0
    obtain ⟨x1, e1, _, g1⟩ := DataW.trod_int Try.underlying5 t1
    obtain ⟨x2, e2, _, g2⟩ := DataW.trod_int Try.underlying5 t2
    obtain ⟨x3, e3, _, g3⟩ := DataW.trod_int Try.underlying22 t3
    obtain ⟨x4, e4, _, g4⟩ := DataW.trod_int Try.underlying21 t4
    cases e0; cases e1; cases e2; cases e3; cases e4
    refine ⟨⟨x0, x1, x2, x3, x4⟩, b, off, hA1, ⟨g0, g1, g2, g3, g4⟩, fun j v hj => ?_⟩
    match j, hj with
    | 0, hj => cases hj; exact k0
    | 1, hj => cases hj; exact k1
    | 2, hj => cases hj; exact k2
    | 3, hj => cases hj; exact k3
    | 4, hj => cases hj; exact k4)
  subst hlen0
  have hr0 : RowsAt W A0 5 (l0.map encN) := fun i r hi => by
    rw [List.getElem?_map] at hi
    cases hx : l0[i]? with
    | none => rw [hx] at hi; cases hi
    | some x =>
      rw [hx] at hi
      cases hi
      obtain ⟨b, off, h1, _, h3⟩ := hl0 i x hx
      exact ⟨b, off, h1, h3⟩
  have ho0 : ∀ x ∈ l0, OkW x := fun x hx => by
    obtain ⟨i, hi⟩ := List.mem_iff_getElem?.1 hx
    obtain ⟨_, _, _, h2, _⟩ := hl0 i x hi
    exact h2
  obtain ⟨A1, len1, cap1, rfl⟩ := okWide_slice Try.underlying43 (hval 1 43 v1 rfl rfl)
  obtain ⟨n1, hn1⟩ := h1
  obtain ⟨A1', len1', c1', hcs1, hlc1, hcm1, hrow1⟩ := open_rows Try.underlying43 Try.underlying24 (by kernel_rfl) (by kernel_rfl) (by decide) hn1
  simp only [Value.cells] at hcs1
  cases hcs1
  obtain ⟨l1, hlen1, hl1⟩ := exists_list (α := Ins) (fun i x => ∃ b off, A1 = some ⟨b, off, none⟩ ∧ OkW x ∧ ∀ j v, (encN x)[j]? = some v → W.cell? ⟨b, off + i * 5 + j, none⟩ = some v) len1 (fun i hi => by
    obtain ⟨b, off, n, hA1, hf⟩ := hrow1 i hi
    obtain ⟨u0, y0, k0, t0⟩ := hf 0 _ rfl
    obtain ⟨u1, y1, k1, t1⟩ := hf 1 _ rfl
    obtain ⟨u2, y2, k2, t2⟩ := hf 2 _ rfl
    obtain ⟨u3, y3, k3, t3⟩ := hf 3 _ rfl
    obtain ⟨u4, y4, k4, t4⟩ := hf 4 _ rfl
    obtain ⟨x0, e0, _, g0⟩ := DataW.trod_int Try.underlying5 t0
    obtain ⟨x1, e1, _, g1⟩ := DataW.trod_int Try.underlying5 t1
    obtain ⟨x2, e2, _, g2⟩ := DataW.trod_int Try.underlying5 t2
    obtain ⟨x3, e3, _, g3⟩ := DataW.trod_int Try.underlying22 t3
    obtain ⟨x4, e4, _, g4⟩ := DataW.trod_int Try.underlying21 t4
    cases e0; cases e1; cases e2; cases e3; cases e4
    refine ⟨⟨x0, x1, x2, x3, x4⟩, b, off, hA1, ⟨g0, g1, g2, g3, g4⟩, fun j v hj => ?_⟩
    match j, hj with
    | 0, hj => cases hj; exact k0
    | 1, hj => cases hj; exact k1
    | 2, hj => cases hj; exact k2
    | 3, hj => cases hj; exact k3
    | 4, hj => cases hj; exact k4)
  subst hlen1
  have hr1 : RowsAt W A1 5 (l1.map encN) := fun i r hi => by
    rw [List.getElem?_map] at hi
    cases hx : l1[i]? with
    | none => rw [hx] at hi; cases hi
    | some x =>
      rw [hx] at hi
      cases hi
      obtain ⟨b, off, h1, _, h3⟩ := hl1 i x hx
      exact ⟨b, off, h1, h3⟩
  have ho1 : ∀ x ∈ l1, OkW x := fun x hx => by
    obtain ⟨i, hi⟩ := List.mem_iff_getElem?.1 hx
    obtain ⟨_, _, _, h2, _⟩ := hl1 i x hi
    exact h2
  obtain ⟨a2, rfl, rfl, rfl, w2⟩ := open_string Try.underlying9 (hval 2 9 v2 rfl rfl) h2
  clear hA0 hval0 hsz0
  refine (back11 cap0 cap1 hr0 hr1 (open_nil_cap Try.underlying43 hn0) (open_nil_cap Try.underlying43 hn1) (fun x hx => okw_ok (ho0 x hx)) (fun x hx => okw_ok (ho1 x hx)) (by omega) (by omega) w2).mono fun e W' ⟨he, u⟩ => ?_
  subst he
  exact ⟨_, rfl, law_post laidOut hW' rfl (by kernel_rfl) rfl Try.underlying4 rfl (u.below (by simp) (Nat.le_refl _))⟩
theorem over : Rows.codeBackRow.holds Try.pinned (OpenSpec.ofChange Rows.codeBackSpec) :=
  OpenClaim.holds_of_wide 11 Try.f11 rfl rfl rfl rfl rfl rfl rfl ⟨rfl, rfl, rfl, rfl, rfl⟩ rfl rfl rfl rfl rfl (by kernel_rfl) Try.func11 (by kernel_rfl)
    (of_decide_eq_true (by kernel_rfl)) (by unfold Func.isWrapper; first | (rw [if_pos (by decide +kernel)]; kernel_rfl) | (rw [if_neg (by decide +kernel)]; exact ⟨rfl, rfl⟩))
    (fun os started H enc _ => lifted os started H enc)
end LCodeBack
theorem codeBack_holds : Rows.CodeBackSaid := LCodeBack.over
#print axioms codeBack_holds
end Go.Proofs.Ytibghcmkmbamjaa
