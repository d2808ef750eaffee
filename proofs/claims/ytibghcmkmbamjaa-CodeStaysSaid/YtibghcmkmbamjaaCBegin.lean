/- code: Check's second part: the beginnings are told; who strays. -/
import Derived.Test.YtibghcmkmbamjaaCFind
import Derived.RangeFuncWrites
namespace Go.Proofs.Ytibghcmkmbamjaa
open Go.RowKit Go.Shelf
set_option linter.unusedVariables false
set_option linter.unusedSimpArgs false
set_option linter.unusedSectionVars false
attribute [local go_sem] Oper.semAt_some
section
variable {p c : Nat} {A : Option Addr} {l : List Ins}
/-- The map tells what has come. -/
def Told (bm : Nat) (xs : List Int) (W : World) : Prop := ∃ bs : List (Int × Bool), MapAt (Value.int .i64) Value.bool okI W bm bs ∧ ∀ t, (aget bs t).getD false = decide (t ∈ xs)
theorem own_told {w : World} {B bm : Nat} (hB : bm < B) (hw : w.heap.size ≤ B) : OwnFrom (β := List (Bg l)) B (fun pre W => Upd [bm] w W ∧ Told bm (pre.map (·.1)) W) := fun s W W' row h g hr => by
  have u : Upd (match row with | some r => [r] | none => []) W W' := ⟨g.os, g.tape, g.output, g.size, fun i hi hS => g.block i hi (fun e => by subst e; simp at hS)⟩
  have hrB : ∀ r, row = some r → B ≤ r := fun r e => (hr r e).1
  refine ⟨h.1.step u (fun i hi => ?_), ?_⟩
  · cases row with
    | none => simp at hi
    | some r =>
      simp at hi
      subst hi
      have := hrB i rfl
      exact .inr (by omega)
  · obtain ⟨bs, h1, h2⟩ := h.2
    refine ⟨bs, h1.kept u ?_, h2⟩
    cases row with
    | none => simp
    | some r =>
      have := hrB r rfl
      simp
      omega
theorem Told.put {bm : Nat} {xs : List Int} {W : World} (h : Told bm xs W) (x : Int) (hx : okI x) : ∃ W', (Instr.mapUpdate 83 (.map (some bm)) (.int .i64 x) (.bool true)).run Try.prog W = .ok () W' ∧ Told bm (xs ++ [x]) W' ∧ Upd [bm] W W' := by
  obtain ⟨bs, h1, h2⟩ := h
  obtain ⟨W', r1, r2, r3, -⟩ := h1.update (P := Try.prog) ki Try.underlying83 hx true
  refine ⟨W', r1, ⟨_, r2, fun t => ?_⟩, r3⟩
  rw [aget_aput]
  by_cases e : x = t
  · subst e; simp
  · rw [if_neg e, h2 t]
    simp [show ¬ t = x from fun h => e h.symm]
theorem rows_other {w w' : World} {A : Option Addr} {l : List Ins} {d : Nat} {o : Obj} (h : RowsAt w A 5 (l.map encN)) (hb : w.heap[d]? = some o) (ho : ∀ c T f, o ≠ .cells c T f) (hv : ∀ a, w.cell? ⟨d, a, none⟩ = none) (u : Upd [d] w w') : RowsAt w' A 5 (l.map encN) := fun i r hi => by
  obtain ⟨b', off, e1, hc⟩ := h i r hi
  refine ⟨b', off, e1, fun j v hj => ?_⟩
  have h1 := hc j v hj
  have hne : b' ≠ d := fun e2 => by
    subst e2
    rw [hv] at h1
    cases h1
  exact u.cell h1 (by simpa using hne)
theorem Prg.keepD {w w' : World} {bm : Nat} {b : List Int} {vS : Value} {D : Nat} (h : Prg w p A c l bm b vS) (hd : ∃ d, w.heap[D]? = some (.deferred d)) (u : Upd [D] w w') : Prg w' p A c l bm b vS := by
  obtain ⟨d, hd⟩ := hd
  have hpD : p ≠ D := fun e => by have := h.blk; rw [e, hd] at this; cases this
  refine ⟨u.heap h.blk (by simpa using hpD), rows_other h.row hd (fun c T f e => by cases e) (fun a => by simp [World.cell?, hd]) u, h.ok, h.len, ?_⟩
  obtain ⟨bs, h1, h2⟩ := h.begins
  have hmD : bm ≠ D := fun e => by
    obtain ⟨es, ck, g1, -⟩ := h1
    rw [e, hd] at g1
    cases g1
  exact ⟨bs, h1.kept u (by simpa using hmD), h2⟩
set_option maxRecDepth 100000 in
set_option maxHeartbeats 8000000 in
theorem find65 {w : World} {bp bm : Nat} {vS : Value} (h : Prg w p A c l bm [] vS) (hne : 0 < l.length) (hwh : ∀ a ∈ allP l, wholeP l a = true) (hp : w.heap[bp]? = some (.cells #[.pointer (some ⟨p, 0, none⟩)] 82 (0, 0))) :
    Calls Try.prog 65 #[.pointer (some ⟨bp, 0, none⟩)] w fun e w' => e = .returned (.int .i64 (firstP (straysP l (allP l)) l)) ∧ Upd [bm] w w' ∧ Prg w' p A c l bm (allP l) vS := by
  have kb0 := cell_of hp 0
  have lb0 := lt_of_heap hp
  simp only [List.getElem?_toArray, List.getElem?_cons_zero] at kb0
  refine (callsIn_wide (n := 5)).1 ?_
  refine callsIn_of_wp_marks Try.func65 rfl trivial ?_ rfl
  simp only [Try.ntmps65, List.size_toArray, List.length_cons, List.length_nil, Nat.reduceAdd, Nat.reduceSub, Array.replicate_succ, Array.replicate_zero, List.push_toArray, List.append_toArray, List.nil_append, List.cons_append]
  gi_wp2_with (refine ⟨trivial, ?_⟩; gi_at_call 66; refine (callsIn_wide.2 (all66 _)).mono ?_; rintro e w' ⟨rfl, rfl⟩)
  obtain ⟨W1, hW1⟩ : ∃ W1, W1 = w.alloc (.cells #[.pointer (some ⟨p, 0, none⟩)] 82) := ⟨_, rfl⟩
  have u0 : Upd [] w W1 := by rw [hW1]; exact (Upd.refl [] w).alloc _
  have h5 : W1.heap[w.heap.size]? = some (.cells #[.pointer (some ⟨p, 0, none⟩)] 82 (0, 0)) := by rw [hW1]; exact heap_alloc_new w _
  rw [← hW1]
  clear hW1
  have h1 := h.keep u0
  have hmap : ∃ es ck, W1.heap[bm]? = some (.map es ck) := by
    obtain ⟨bs, ⟨es, ck, g1, -⟩, -⟩ := h1.begins
    exact ⟨es, ck, g1⟩
  obtain ⟨es, ck, hmb⟩ := hmap
  have hnm : ∀ b o T f, W1.heap[b]? = some (.cells o T f) → b ≠ bm := fun b o T f hb e => by subst e; rw [hmb] at hb; cases hb
  have lm := (Array.getElem?_eq_some_iff.1 hmb).1
  have l5 := lt_of_heap h5
  have hP : Prl (fun b => b < W1.heap.size ∧ b ≠ bm) W1 w.heap.size p A c l := by
    have lp := lt_of_heap h1.blk
    refine ⟨h5, ⟨l5, hnm _ _ _ _ h5⟩, ⟨_, _, h1.blk⟩, ⟨lp, hnm _ _ _ _ h1.blk⟩, h1.row, fun b off e => ?_, h1.ok, h1.len⟩
    obtain ⟨x, hx⟩ : ∃ x, l[0]? = some x := ⟨l[0], List.getElem?_eq_getElem hne⟩
    obtain ⟨b', off', e', k0, -⟩ := cellN h1.row hx
    rw [e] at e'
    cases e'
    have h2 : b < W1.heap.size := World.block_lt_of_cell? W1 _ k0
    refine ⟨h2, fun e => ?_⟩
    subst e
    unfold World.cell? at k0
    simp [hmb] at k0
  obtain ⟨b3, hb3⟩ : ∃ b3, w.heap.size = b3 := ⟨_, rfl⟩
  rw [hb3] at h5 l5 hP ⊢
  have hb1 := h1.begins
  refine wpIn_rangeFunc_ownG rfl (by omega) (gf := 99) (lb := #[.pointer (some ⟨b3, 0, none⟩)]) rfl trivial (enters_of Try.func99 (by kernel_rfl) rfl) (all_stops (X := fun b => b < W1.heap.size ∧ b ≠ bm) 4 (by omega) W1 hP) (fun h k => h.trans k) (kp_b (fun b h => h.1)) (Below.refl _ _) (fun _ => rfl)
    (fun pre W => Upd [bm] W1 W ∧ Told bm (pre.map (·.1)) W)
    (fun _ _ _ => False)
    (own_told lm (Nat.le_refl _))
    (fun _ _ _ _ _ hs _ _ => hs)
    ⟨Upd.refl _ _, by obtain ⟨bs, g1, g2⟩ := hb1; exact ⟨bs, g1, g2⟩⟩
    (fun x => { tmps := #[.pointer (some ⟨bp, 0, none⟩), .int .i64 0, .int .i64 x.1, .pointer (some ⟨p, 0, none⟩), .func (.func 99) #[] #[.pointer (some ⟨b3, 0, none⟩)], .int .i64 x.1, undef, undef, undef, undef, undef, undef, undef, undef, undef], defers := [] }) ?assign ?body ?done ?stop
  case assign =>
    intro l x W K hK
    gi_wp2
    exact hK
  case body =>
    rintro y pre x W ⟨hU, hT⟩ _
    have hxo : okI x.1 := by
      obtain ⟨n, e, hn⟩ := allP_mem x.2
      have := h.len
      rw [e]
      exact okI_of (by omega) (by omega)
    obtain ⟨W', hrun, hT', u'⟩ := hT.put x.1 hxo
    have hbp : bp ≠ bm := fun e => by
      have := u0.heap hp (by simp)
      exact hnm _ _ _ _ this e
    have kb := hU.cell (u0.cell kb0 (by simp)) (by simpa using hbp)
    have hpb := hU.heap h1.blk (by simpa using hnm _ _ _ _ h1.blk)
    have c1 := cell_of hpb 1
    have lp := lt_of_heap hpb
    simp only [List.getElem?_toArray, List.getElem?_cons_zero, List.getElem?_cons_succ] at c1
    gi_wp2
    refine ⟨KeepsFrom.of_grownBy (row := some bm) ⟨u'.os, u'.tape, u'.output, u'.size, fun k hk hne' => u'.block k hk (by simp; intro e; exact hne' (by rw [e]))⟩ (fun j e => by cases e; exact lm), fun b g => u'.block b (Nat.lt_of_lt_of_le g.1 hU.size) (by simpa using g.2), hU.step u' (fun i hi => .inl hi), ?_⟩
    rw [List.map_append]
    exact hT'
  case done =>
    rintro D ys W hD hys ⟨hU, hT⟩ hK
    rw [hys] at hT
    have hbp : bp ≠ bm := fun e => by
      have := u0.heap hp (by simp)
      exact hnm _ _ _ _ this e
    have hpb := hU.heap h1.blk (by simpa using hnm _ _ _ _ h1.blk)
    have kb := hU.cell (u0.cell kb0 (by simp)) (by simpa using hbp)
    have hPr : Prg W p A c l bm (allP l) vS := ⟨hpb, rows_other h1.row hmb (fun c T f e => by cases e) (fun a => by simp [World.cell?, hmb]) hU, h.ok, h.len, hT⟩
    have hA : Answers W 67 #[.pointer (some ⟨p, 0, none⟩)] #[] (fun x : Int => Value.int .i64 x) (· ∈ allP l) (straysP l (allP l)) := fun x hx W' u' => by
      obtain ⟨n, rfl, hn⟩ := allP_mem hx
      exact strays67 (hPr.keep u') n hn (hwh _ hx)
    have hfin := first62 W _ _ hPr.blk hPr.row hPr.ok hPr.len hne 67 #[.pointer (some ⟨p, 0, none⟩)] #[] (enters_of Try.func67 (by kernel_rfl) rfl) _ hA
    obtain ⟨r, hrr⟩ : ∃ r, firstP (straysP l (allP l)) l = r := ⟨_, rfl⟩
    rw [hrr] at hfin
    have hH : Unit → firstP (straysP l (allP l)) l = r := fun _ => hrr
    clear hrr hA
    gi_wp2_with (refine ⟨trivial, ?_⟩; gi_at_call 62; refine (callsIn_wide.2 hfin).mono ?_; rintro e w9 ⟨rfl, u9⟩)
    have hK' := u9.heap hK (by simp)
    refine ⟨by simp, .inl ⟨_, _, rfl, run_takeDeferred hK', ?_⟩⟩
    have uD : Upd [D] w9 (w9.putObj D (.deferred none)) := .of_grown (grownBy_putObj' _ D (.deferred none))
    refine ⟨_, results_tmp rfl _ _ _, by rw [hH ()]; rfl, ?_, (hPr.keep u9).keepD ⟨_, hK'⟩ uD⟩
    exact ((((u0.mono (by simp)).trans hU).step u9 (fun i hi => by simp at hi))).step uD (fun i hi => by simp at hi; subst hi; have := u0.size; exact .inr (by omega))
  case stop =>
    rintro D cd pre W hD hpre hF hK
    exact hF.elim
end
end Go.Proofs.Ytibghcmkmbamjaa
