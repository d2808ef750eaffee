/- owns: Reach. -/
import Derived.Test.YtojjjkeciiieeaaOCheck
namespace Go.Proofs.Ytojjjkeciiieeaa
open Go.RowKit Go.Maps Go.WideElems
set_option linter.unusedVariables false
set_option linter.unusedSimpArgs false
set_option linter.unusedSectionVars false
def anyR : Value → Option (DataW Unit × List MemPlace) := fun _ => some (.lit (.bool true), [])
theorem insert_perm {H : Type} (x : Lit × DataW H) : ∀ l : List (Lit × DataW H), (DataW.insert x l).Perm (x :: l)
  | [] => by simp [DataW.insert]
  | y :: l => by
    unfold DataW.insert
    split
    · exact List.Perm.refl _
    · exact ((insert_perm x l).cons y).trans (List.Perm.swap x y l)
theorem sorted_perm' {H : Type} : ∀ l : List (Lit × DataW H), (l.foldr DataW.insert []).Perm l
  | [] => List.Perm.refl _
  | x :: l => by
    simp only [List.foldr_cons]
    exact (insert_perm x _).trans ((sorted_perm' l).cons x)
theorem seen_bridge {w : World} {b : Nat} {S : List Int} (h : MapAt (Value.int .i64) Value.bool okI w b (seenL S)) (hl : S.length ≤ 100000) :
    ∃ D0 : DataW Unit, w.ownsMap Try.prog 3 anyR b S.length D0 ∧ Maps.size D0 = S.length ∧ ∀ kl, Maps.has D0 kl = true ↔ ∃ x ∈ S, kl = .int .i64 x := by
  obtain ⟨es, cl, h1, h2, h3, h4⟩ := h
  have hlen : es.size = S.length := by
    have := congrArg List.length h3
    simpa [seenL] using this
  have hk : Try.prog.underlying 3 = some (.int .i64) := Try.underlying3
  have hread : ∀ x ∈ es.toList, ∃ a : Int, a ∈ S ∧ (Lit.int .i64 a).wf = true ∧ x.key = .int .i64 a ∧ rd Try.prog 3 anyR x = some (.int .i64 a, .lit (.bool true)) := fun x hx => by
    have : (x.key, x.val) ∈ (seenL S).map (fun p => (Value.int .i64 p.1, Value.bool p.2)) := by
      rw [← h3]
      exact List.mem_map.2 ⟨x, hx, rfl⟩
    obtain ⟨p, hp, e⟩ := List.mem_map.1 this
    have hpS : p.1 ∈ S := by
      obtain ⟨k, hk, rfl⟩ := List.mem_map.1 hp
      exact hk
    refine ⟨p.1, hpS, h4 p hp, (congrArg Prod.fst e).symm, ?_⟩
    obtain ⟨key, val, born⟩ := x
    simp only [Prod.mk.injEq] at e
    obtain ⟨rfl, rfl⟩ := e
    exact rd_mk (R := anyR) (yv := (.lit (.bool true), [])) (Maps.keyOf_int_mk hk (h4 p hp)) rfl
  have hread2 : ∀ a ∈ S, ∃ x ∈ es.toList, x.key = .int .i64 a := fun a ha => by
    have : (Value.int .i64 a, Value.bool true) ∈ es.toList.map (fun e => (e.key, e.val)) := by
      rw [h3]
      exact List.mem_map.2 ⟨(a, true), List.mem_map.2 ⟨a, ha, rfl⟩, rfl⟩
    obtain ⟨x, hx, e⟩ := List.mem_map.1 this
    exact ⟨x, hx, congrArg Prod.fst e⟩
  have F : Fit Try.prog 3 anyR es cl := ⟨by unfold maxLen; omega, h2, fun x hx => by obtain ⟨a, _, _, _, e⟩ := hread x hx; exact ⟨_, e⟩⟩
  refine ⟨_, ⟨es, cl, h1, F, by omega, rfl⟩, ?_, fun kl => ?_⟩
  · show ((es.toList.map (rg Try.prog 3 anyR)).foldr DataW.insert []).length = _
    rw [(sorted_perm' _).length_eq]
    simp [hlen]
  · rw [has_eq, List.any_eq_true]
    constructor
    · rintro ⟨p, hp, hs⟩
      obtain ⟨x, hx, rfl⟩ := List.mem_map.1 ((sorted_perm' _).mem_iff.1 hp)
      obtain ⟨a, ha, _, _, e⟩ := hread x hx
      rw [rg_of e] at hs
      exact ⟨a, ha, (WideAt.sameKey_eq hs).symm⟩
    · rintro ⟨a, ha, rfl⟩
      obtain ⟨x, hx, hkx⟩ := hread2 a ha
      obtain ⟨a', _, hw, hkx', e⟩ := hread x hx
      have : a' = a := by rw [hkx] at hkx'; cases hkx'; rfl
      subst this
      refine ⟨rg Try.prog 3 anyR x, (sorted_perm' _).mem_iff.2 (List.mem_map.2 ⟨x, hx, rfl⟩), ?_⟩
      rw [rg_of e]
      exact WideAt.sameKey_self trivial
/-- A range over a map under way. -/
def rangeR (mb r n : Nat) (D : DataW Unit) (left : Lit → Bool) (cnt : Nat) : Res := fun w N => w.ranges Try.prog 3 anyR mb r n D left cnt ∧ N mb ∧ N r
theorem ranges_lt {w : World} {mb r n : Nat} {D : DataW Unit} {left : Lit → Bool} {cnt : Nat} (h : w.ranges Try.prog 3 anyR mb r n D left cnt) : mb < w.heap.size ∧ r < w.heap.size := by
  obtain ⟨es, clock, since, seen, c0, h1, _, _, _, h2, _⟩ := h
  exact ⟨lt_of_heap h1, lt_of_heap h2⟩
instance {mb r n : Nat} {D : DataW Unit} {left : Lit → Bool} {cnt : Nat} : Good (rangeR mb r n D left cnt) where
  kept := fun {w w' N S} ⟨h1, h2, h3⟩ u hS => by
    refine ⟨?_, h2, h3⟩
    obtain ⟨es, clock, since, seen, c0, a, b, c, d, e, rest⟩ := h1
    exact ⟨es, clock, since, seen, c0, u.heap a (fun hm => hS _ hm h2), b, c, d, u.heap e (fun hm => hS _ hm h3), rest⟩
  mono := fun ⟨h1, h2, h3⟩ hM => ⟨h1, hM _ (ranges_lt h1).1 h2, hM _ (ranges_lt h1).2 h3⟩
/-- What has come, what is left. -/
structure Coll (S C : List Int) (left : Lit → Bool) : Prop where
  nd : C.Nodup
  all : ∀ x, x ∈ S ↔ x ∈ C ∨ left (.int .i64 x) = true
  ap : ∀ x ∈ C, left (.int .i64 x) = false
theorem Coll.more {S C : List Int} {left : Lit → Bool} (h : Coll S C left) {x : Int} (hx : left (.int .i64 x) = true) : Coll S (C ++ [x]) (fun z => left z && !z.sameKey (.int .i64 x)) := by
  have hxC : x ∉ C := fun hm => by rw [h.ap x hm] at hx; cases hx
  refine ⟨List.nodup_append.2 ⟨h.nd, by simp, fun a ha b hb e => by simp at hb; subst e hb; exact hxC ha⟩, fun y => ?_, fun y hy => ?_⟩
  · rw [h.all, List.mem_append, List.mem_singleton]
    by_cases e : y = x
    · subst e; simp [hx]
    · have : (Lit.int .i64 y).sameKey (.int .i64 x) = false := by
        cases hs : (Lit.int .i64 y).sameKey (.int .i64 x) with
        | false => rfl
        | true => have := WideAt.sameKey_eq hs; cases this; exact absurd rfl e
      rw [this]
      simp [e]
  · rcases List.mem_append.1 hy with hy | hy
    · simp [h.ap y hy]
    · obtain rfl := List.mem_singleton.1 hy
      have : (Lit.int .i64 y).sameKey (.int .i64 y) = true := WideAt.sameKey_self trivial
      simp [this]
/-- Whom it reaches, by rising places. -/
def ReachL (t : Tab) (i : Int) (l : List Int) : Prop := Rising l ∧ ∀ k, k ∈ l ↔ Rch (adj t) i k
theorem reachL_of {t : Tab} {i : Int} {S C : List Int} {left : Lit → Bool} (hR : ReachS t i S) (hC : Coll S C left) (h0 : ∀ kl, left kl = false) : ReachL t i (C.mergeSort fun x y => decide (x ≤ y)) := by
  have hp : (C.mergeSort fun x y => decide (x ≤ y)).Perm C := List.mergeSort_perm _ _
  have hnd : (C.mergeSort fun x y => decide (x ≤ y)).Nodup := hp.nodup_iff.2 hC.nd
  refine ⟨?_, fun k => ?_⟩
  · have h1 := sorted_le C
    have h2 := List.nodup_iff_pairwise_ne.1 hnd
    exact (h1.and h2).imp fun ⟨a, b⟩ => by omega
  · rw [hp.mem_iff, ← hR.2, hC.all]
    simp [h0]
theorem law3 : Keyed Try.prog 3 := int_keyed Try.underlying3
def ReachDid (t : Tab) (i : Int) (w : World) (e : Ending) (w' : World) : Prop := ∃ s l, e = .returned s ∧ NewI w w' s l ∧ ReachL t i l
set_option maxRecDepth 100000 in
set_option maxHeartbeats 4000000 in
theorem reach15 {t : Tab} {v : Value} {w : World} (hT : TabAt w v t) (hF : Fits t) (i : Int) : Calls Try.prog 15 #[v, .int .i64 i] w (ReachDid t i w) := by
  have htl := hF.1
  obtain ⟨i0, hi0, hz0, hz1, hz2⟩ := info_parts info3
  go_enter Try.func15, Try.ntmps15
  go_wp2_with fail
  refine (reach21 hT hF i).mono ?_
  rintro e w1 ⟨mb, S, rfl, HS, hR⟩
  have hSl : S.length ≤ t.length := nodup_range hR.1 fun x hx => ((hR.2 x).1 hx).within (adj_within t)
  obtain ⟨D0, hown, hsz, hhas⟩ := seen_bridge HS.map (by omega)
  go_wp2_with (at_range; refine wpList_range_own _ rfl _ 46 rfl 3 4 law3 Try.underlying46 anyR mb S.length D0 rfl hown ?_; intro w2 hrg hgr hs2)
  go_frame
  have H1 : SepK w w2 [] (star (rangeR mb w1.heap.size S.length D0 (Maps.has D0) (Maps.size D0)) emp) := HS.step fun N hN hNew => ⟨⟨hrg, hN.2, hNew _ (Nat.le_refl _)⟩, .of ⟨hgr.os, hgr.tape, hgr.output, hgr.size, fun k hk _ => hgr.block k hk (by simp)⟩⟩
  have hC0 : Coll S [] (Maps.has D0) := ⟨List.nodup_nil, fun x => by rw [hhas]; simp, by simp⟩
  have H2 := H1.row0 3 1
  rw [hsz] at H2
  generalize Maps.has D0 = left0 at H2 hC0
  clear hown hrg hgr hs2 H1 HS hhas hsz
  generalize w1.heap.size = r at H2 ⊢
  go_loopg [4] S.length (fun kq v4 w' => ∃ (C : List Int) (left : Lit → Bool), SepK w w' [] (star (rowR 3 1 v4 (C.map encI)) (star (rangeR mb r S.length D0 left kq) emp)) ∧ Coll S C left ∧ C.length + kq ≤ S.length)
  case atStart => exact ⟨[], left0, H2, hC0, by simp⟩
  case round =>
    clear H2 hC0
    obtain ⟨C, left, H, hC, hCl⟩ := hrel
    have hrg : wr.ranges Try.prog 3 anyR mb r S.length D0 left gk := by
      obtain ⟨N, hN⟩ := H.swap.get
      exact hN.1
    have invK : ∀ key kl, keyOf Try.prog 3 key = some kl → ∃ x, key = Value.int .i64 x := fun key kl hkey => by
      obtain ⟨x, rfl, _⟩ := Maps.keyOf_int_inv Try.underlying3 hkey
      exact ⟨x, rfl⟩
    have invV : ∀ v y, anyR v = some y → ∃ c, v = id c := fun v y _ => ⟨v, rfl⟩
    go_wp2_with (at_next; refine wpList_next_ranges _ rfl _ rfl 3 law3 anyR (Value.int .i64) id invK invV mb r S.length D0 left gk rfl hrg ?_ ?_)
    · intro h0 hl0
      have hcl : C.length ≤ 1000 := by omega
      have HL : Unit → ReachL t i (C.mergeSort fun x y => decide (x ≤ y)) := fun _ => reachL_of hR hC hl0
      clear invK invV hrg hl0 hC
      go_wp2_with fail
      refine (sort25 H (by omega)).mono ?_
      rintro e w3 ⟨rfl, H3⟩
      go_wp2_with fail
      go_ret
      exact (Iff.of_eq (ReachDid.eq_1 ..)).2 ⟨_, _, rfl, NewI.of H3, HL ()⟩
    · intro x c kl ya yb w3 cnt' hkey hlx hv hat hrg' hlt hgr hs3 hen
      obtain rfl : kl = .int .i64 x := by
        obtain ⟨x', e1, e2, _⟩ := Maps.keyOf_int_inv Try.underlying3 hkey
        cases e1
        exact e2
      have hC2 := hC.more hlx
      have H3 : SepK w w3 [] (star (rangeR mb r S.length D0 (fun z => left z && !z.sameKey (.int .i64 x)) cnt') (star (rowR 3 1 _ (C.map encI)) emp)) := H.swap.step fun N hN hNew => ⟨⟨hrg', hN.2⟩, .of1 ⟨hgr.os, hgr.tape, hgr.output, hgr.size, fun k hk hne => hgr.block k hk (fun e => hne (by cases e; simp))⟩ hN.2.2⟩
      have H4 := H3.swap.alloc (.cells #[.int .i64 x] 3)
      have hCl2 : C.length + 1 + cnt' ≤ S.length := by omega
      clear invK invV hrg hC hkey hlx hv hat hrg' hgr H H3
      go_wp2_with (at_builtin; refine wl_append rfl _ _ 25 rfl 3 i0 (.int .i64 0) 1 8 Try.underlying25 hi0 hz0 hz1 hz2 rfl (by decide) _ _ rfl H4 ⟨wr.heap.size, 0, none⟩ 1 [.int .i64 x] rfl rfl (by have := cell_one_new w3 (.int .i64 x) 3; rw [hs3] at this; exact this) (fun u hu => by simp at hu; subst hu; rfl) (by unfold maxLen; simp; omega) (by simp; omega) ?_; intro v' w5 H5)
      go_roundg cnt'
      case measure => omega
      case rel => exact ⟨C ++ [x], _, by rw [List.map_append]; exact H5.drop [] (fun p hp => by cases hp), hC2, by simp; omega⟩
end Go.Proofs.Ytojjjkeciiieeaa
