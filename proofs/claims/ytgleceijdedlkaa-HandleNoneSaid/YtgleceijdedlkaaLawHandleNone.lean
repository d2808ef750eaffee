/- HandleNone: what no table answers, whatever handle. -/
import Derived.Test.YtgleceijdedlkaaRows
import Derived.Test.YtgleceijdedlkaaWorks13
import Derived.Test.YtgleceijdedlkaaLawLib
import Derived.Lib.SmallJoins
namespace Go.Proofs.Ytgleceijdedlkaa
open Go.ChangeShapes Go.WideShapes Go.ChangeAt Go.RowKit
set_option linter.unusedVariables false
theorem own : ownKnob Try.prog.godebug = none := by kernel_rfl
theorem laidOut : laidOutB Try.prog = true := by kernel_rfl
namespace HNone
set_option maxRecDepth 100000 in
theorem makeNil (s : Int) (w : World) : Calls Try.prog 19 #[.pointer none, .int .i64 s] w fun e w' => e = .returned (.tuple #[.agg #[.int .i64 0, .int .u64 0], .int .i64 1]) ∧ Upd [] w w' := by
  go_enter Try.func19, Try.ntmps19
  go_wp2
  exact bodyPost_ret (v := .tuple #[.agg #[.int .i64 0, .int .u64 0], .int .i64 1]) (by simp [results, Try.results19, go_sem]) rfl ⟨rfl, (Upd.refl [] w).alloc _⟩
theorem ofNil (s : Int) (w : World) : Calls Try.prog 44 #[.pointer none, .int .i64 s] w fun e w' => e = .returned (.tuple #[.agg #[.int .i64 0, .int .u64 0], .bool false]) ∧ Upd [] w w' := by
  go_enter Try.func44, Try.ntmps44
  go_wp2
  exact bodyPost_ret (v := .tuple #[.agg #[.int .i64 0, .int .u64 0], .bool false]) (by simp [results, Try.results44, go_sem]) rfl ⟨rfl, (Upd.refl [] w).alloc _⟩
theorem dropNil (v : Value) (s g : Int) (w : World) : Calls Try.prog 20 #[.pointer none, .agg #[.int .i64 s, .int .u64 g]] w fun e w' => e = .returned (.int .i64 1) ∧ Upd [] w w' := by
  go_enter Try.func20, Try.ntmps20
  go_wp2
  go_ret
  exact ⟨rfl, (Upd.refl [] w).alloc _⟩
theorem livesNil (v : Value) (s g : Int) (w : World) : Calls Try.prog 47 #[.pointer none, .agg #[.int .i64 s, .int .u64 g]] w fun e w' => e = .returned (.bool false) ∧ Upd [] w w' := by
  go_enter Try.func47, Try.ntmps47
  go_wp2
  go_ret
  exact ⟨rfl, (Upd.refl [] w).alloc _⟩
theorem allNil (w : World) : Calls Try.prog 46 #[.pointer none] w fun e w' => e = .returned (.slice none 0 0) ∧ Upd [] w w' := by
  go_enter Try.func46, Try.ntmps46
  go_wp2
  go_ret
  exact ⟨rfl, Upd.refl [] w⟩
set_option maxRecDepth 100000 in
set_option maxHeartbeats 2000000 in
theorem walk (s g : Int) (w : World) : Calls Try.prog 10 #[.agg #[.int .i64 s, .int .u64 g]] w fun e w' => e = .returned (.bool true) ∧ Upd [] w w' := by
  go_enter Try.func10, Try.ntmps10
  go_wp2_with fail
  have U0 := (Upd.refl [] w).alloc (.cells #[.int .i64 s, .int .u64 g] 30)
  refine (makeNil s _).mono ?_
  rintro e w1 ⟨rfl, u1⟩
  have U1 := U0.trans u1
  have b1 := u1.heap (heap_alloc_new w _) (by simp)
  have k1 := lt_of_heap b1
  have q0 := cell_of b1 0
  have q1 := cell_of b1 1
  simp only [List.getElem?_toArray, List.getElem?_cons_zero, List.getElem?_cons_succ] at q0 q1
  clear u1 U0
  go_wp2_with fail
  refine (ofNil s _).mono ?_
  rintro e w2 ⟨rfl, u2⟩
  have U2 := (U1.alloc _).trans u2
  have b2 := u2.heap (heap_alloc_old b1 _) (by simp)
  have c2 := u2.heap (heap_alloc_new w1 _) (by simp)
  have k2 := lt_of_heap b2
  have k3 := lt_of_heap c2
  have r0 := cell_of b2 0
  have r1 := cell_of b2 1
  have r2 := cell_of c2 0
  have r3 := cell_of c2 1
  simp only [List.getElem?_toArray, List.getElem?_cons_zero, List.getElem?_cons_succ] at r0 r1 r2 r3
  clear u2 U1 q0 q1 b1
  go_wp2_with fail
  refine (dropNil undef s g _).mono ?_
  rintro e w3 ⟨rfl, u3⟩
  have U3 := (U2.alloc _).trans u3
  have b3 := u3.heap (heap_alloc_old b2 _) (by simp)
  have c3 := u3.heap (heap_alloc_new w2 _) (by simp)
  have q0 := cell_of b3 0
  have q1 := cell_of b3 1
  have q2 := cell_of c3 0
  have q3 := cell_of c3 1
  simp only [List.getElem?_toArray, List.getElem?_cons_zero, List.getElem?_cons_succ] at q0 q1 q2 q3
  clear u3 U2 r0 r1 r2 r3 b2
  go_wp2_with fail
  refine (livesNil undef s g _).mono ?_
  rintro e w4 ⟨rfl, u4⟩
  have U4 := U3.trans u4
  have c4 := u4.heap c3 (by simp)
  have q2 := cell_of c4 0
  have q3 := cell_of c4 1
  simp only [List.getElem?_toArray, List.getElem?_cons_zero, List.getElem?_cons_succ] at q2 q3
  clear u4 U3
  go_wp2_with fail
  refine (allNil _).mono ?_
  rintro e w5 ⟨rfl, u5⟩
  go_wp2_with fail
  refine (works13 _).mono ?_
  rintro e w6 ⟨rfl, u6⟩
  go_wp2_with fail
  go_ret
  exact ⟨rfl, (U4.trans u5).trans u6⟩
open Go.Joins in
set_option maxRecDepth 100000 in
theorem lifted (os : Os) (started : os.Started) (H : Type) (enc : TypeId × Value → H) :
    ReturnsInHanded {} Try.checked os 10 .any (Rows.handleNoneSpec.pre6 enc Try.prog Try.f10 Rows.handleNoneRow.domain false) (Rows.handleNoneSpec.post enc Try.prog Try.f10 false true false false) := by
  refine returnsInHanded_of_change_sized (C := Try.checked) own started (by kernel_rfl) Try.func10
    (ChangeSpec.witness6 (enc := enc) (C := Try.checked) false ⟨#[], #[.agg #[.int .i64 0, .int .u64 0]], []⟩ 8 (by kernel_rfl) (by kernel_rfl) (by kernel_rfl) (by kernel_rfl)) ?_
  intro W base args ds gs before hval0 hW hcnd hsz0 _
  have hval : ∀ (j : Nat) t v, Try.f10.params[j]? = some t → args[j]? = some v → Value.okWide Try.prog W .any base t v := hval0
  have hW' := hW
  obtain ⟨p, q, hA0, hV, rfl, hfz, hnd⟩ := hW
  have hA : DataW.TrodAll enc Try.prog W 0 (fun _ => true) true Try.f10.params.toList args.toList ds p := hA0
  rw [Try.params10] at hA hval
  obtain ⟨v0, vs0, d0, ds0, p0, q0, hargs, rfl, rfl, h0, r0⟩ := trodAll_cons hA
  obtain ⟨rfl, rfl, rfl⟩ := trodAll_nil r0
  obtain rfl : args = #[v0] := by cases args; simp_all
  obtain ⟨rfl, rfl⟩ := trodVars_none hV
  obtain ⟨u0, u1, y0, y1, n, rfl, rfl, rfl, t0, t1⟩ := open_agg2 Try.underlying30 (by kernel_rfl) (by kernel_rfl) (hval 0 30 v0 rfl rfl) h0
  obtain ⟨x0, e0, _, g0⟩ := DataW.trod_int Try.underlying3 t0
  obtain ⟨x1, e1, _, g1⟩ := DataW.trod_int Try.underlying26 t1
  cases e0; cases e1
  refine (walk x0 x1 W).mono fun e W' ⟨he, u⟩ => ?_
  subst he
  exact ⟨_, rfl, law_post laidOut hW' rfl (by kernel_rfl) rfl Try.underlying4 rfl (u.below (by simp) (Nat.le_refl _))⟩
theorem over : Rows.handleNoneRow.holds Try.pinned (OpenSpec.ofChange Rows.handleNoneSpec) :=
  OpenClaim.holds_of_wide 10 Try.f10 rfl rfl rfl rfl rfl rfl rfl ⟨rfl, rfl, rfl, rfl, rfl⟩ rfl rfl rfl rfl rfl (by kernel_rfl) Try.func10 (by kernel_rfl)
    (of_decide_eq_true (by kernel_rfl)) (by unfold Func.isWrapper; first | (rw [if_pos (by decide +kernel)]; kernel_rfl) | (rw [if_neg (by decide +kernel)]; exact ⟨rfl, rfl⟩))
    (fun os started H enc _ => lifted os started H enc)
end HNone
theorem handleNone_holds : Rows.HandleNoneSaid := HNone.over
#print axioms handleNone_holds
end Go.Proofs.Ytgleceijdedlkaa
