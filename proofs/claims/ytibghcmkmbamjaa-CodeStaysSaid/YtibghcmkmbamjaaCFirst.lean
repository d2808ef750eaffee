/- code: first: the least beginning of which something is so. -/
import Derived.Test.YtibghcmkmbamjaaCAll
namespace Go.Proofs.Ytibghcmkmbamjaa
open Go.RowKit Go.Shelf
set_option linter.unusedVariables false
set_option linter.unusedSimpArgs false
set_option linter.unusedSectionVars false
attribute [local go_sem] Oper.semAt_some
section
variable {X : Nat → Prop} {Bn p c : Nat} {A : Option Addr} {l : List Ins}
theorem all_stops (n : Nat) (hn : 1 ≤ n) (w : World) (hP : Prl X w Bn p A c l) : SeqStopsK Fence.wide n Try.prog 99 #[.pointer (some ⟨Bn, 0, none⟩)] (fun x : Bg l => #[Value.int .i64 x.1]) (Kp X) (fun ys => ys.map (·.1) = allP l) (fun pre => pre.map (·.1) <+: allP l) l.length w :=
  fun y J Jx W hW hJ hJx hY h0 => all99_in n hn y J Jx hY W (hP.keepU (Upd.of_below hW [])) h0 (fun pre W1 W2 h u => hJ pre W1 W2 none h (grown_of u) (fun r e => by cases e))
/-- All that was there stays, whatever the loop's own blocks do. -/
theorem own_upd {β : Type} {w : World} {B : Nat} (hB : w.heap.size ≤ B) : OwnFrom (β := β) B (fun _ W => Upd [] w W) := fun s W W' row h g hr => ⟨g.os.trans h.os, g.tape.trans h.tape, g.output.trans h.output, Nat.le_trans h.size g.size, fun i hi hS => (g.block i (Nat.lt_of_lt_of_le hi h.size) (fun e => by have := (hr i e.symm).1; omega)).trans (h.block i hi hS)⟩
theorem own_pure {β : Type} {B : Nat} (P : β → Prop) : OwnFrom B (fun s (_ : World) => P s) := fun s W W' row h g hr => h
theorem kp_b {X : Nat → Prop} {B : Nat} (hB : ∀ b, X b → b < B) : ∀ (W : World) (l : Nat) (o o' : Obj), B ≤ l → W.heap[l]? = some o → o.isCells = false → o.isWalk = false → Kp X W (W.putObj l o') := fun W l o o' hl _ _ _ b h1 => World.putObj_heap_other (by have := hB b h1; omega)
theorem keeps_upd {W W' : World} (u : Upd [] W W') : KeepsOthers W W' := KeepsOthers.of_grownBy (grown_of u) (fun r o e _ => by cases e)
theorem firstL_stop (f : Int → Bool) (L pre r : List Int) (x : Int) (h : pre ++ ([x] ++ r) = L) (hn : ∀ y ∈ pre, f y = false) (hx : f x = true) : (match L.find? f with | some a => a | none => -1) = x := by
  subst h
  have : pre.find? f = none := by
    rw [List.find?_eq_none]
    intro y hy
    simp [hn y hy]
  rw [List.find?_append, this]
  simp [hx]
theorem firstL_done (f : Int → Bool) (L ys : List Int) (h : ys = L) (hn : ∀ y ∈ ys, f y = false) : (match L.find? f with | some a => a | none => -1) = -1 := by
  subst h
  have : ys.find? f = none := by
    rw [List.find?_eq_none]
    intro y hy
    simp [hn y hy]
  rw [this]
theorem firstP_stop {f : Int → Bool} {pre : List (Bg l)} {x : Bg l} (hp : (pre ++ [x]).map (·.1) <+: allP l) (hn : ∀ y ∈ pre, f y.1 = false) (hx : f x.1 = true) : firstP f l = x.1 := by
  obtain ⟨r, hr⟩ := hp
  refine firstL_stop f (allP l) (pre.map (·.1)) r x.1 (by simpa using hr) (fun y hy => ?_) hx
  obtain ⟨z, hz, rfl⟩ := List.mem_map.1 hy
  exact hn z hz
theorem firstP_done {f : Int → Bool} {ys : List (Bg l)} (hp : ys.map (·.1) = allP l) (hn : ∀ y ∈ ys, f y.1 = false) : firstP f l = -1 :=
  firstL_done f (allP l) (ys.map (·.1)) hp (fun y hy => by
    obtain ⟨z, hz, rfl⟩ := List.mem_map.1 hy
    exact hn z hz)
def lastV (pre : List (Bg l)) : Int := match pre.getLast? with | some x => x.1 | none => 0
theorem lastV_snoc (pre : List (Bg l)) (x : Bg l) : lastV (pre ++ [x]) = x.1 := by simp [lastV]
set_option maxRecDepth 100000 in
set_option maxHeartbeats 8000000 in
theorem first62 (w : World) (vm vS : Value) (hb : w.heap[p]? = some (.cells #[.slice A l.length c, vm, vS] 85 (0, 0))) (hr : RowsAt w A 5 (l.map encN)) (hok : ∀ x ∈ l, OkI x) (hl : l.length ≤ 1024) (hne : 0 < l.length) (g : Nat) (bd cp : Array Value) (eg : ∀ args w, (callFunc g args).run Try.prog w = .ok (.enter g args) w) (f : Int → Bool) (hf : Answers w g bd cp (fun x : Int => Value.int .i64 x) (· ∈ allP l) f) :
    Calls Try.prog 62 #[.pointer (some ⟨p, 0, none⟩), .func (.func g) bd cp] w fun e w' => e = .returned (.int .i64 (firstP f l)) ∧ Upd [] w w' := by
  refine (callsIn_wide (n := 5)).1 ?_
  refine callsIn_of_wp_marks Try.func62 rfl trivial ?_ rfl
  simp only [Try.ntmps62, List.size_toArray, List.length_cons, List.length_nil, Nat.reduceAdd, Nat.reduceSub, Array.replicate_succ, Array.replicate_zero, List.push_toArray, List.append_toArray, List.nil_append, List.cons_append]
  gi_wp2_with (refine ⟨trivial, ?_⟩; gi_at_call 66; refine (callsIn_wide.2 (all66 _)).mono ?_; rintro e w' ⟨rfl, rfl⟩)
  obtain ⟨W1, hW1⟩ : ∃ W1, W1 = (((w.alloc (.cells #[.func (.func g) bd cp] 87)).alloc (.cells #[.int .i64 0] 3)).alloc (.cells #[.pointer (some ⟨p, 0, none⟩)] 82)) := ⟨_, rfl⟩
  have u0 : Upd [] w W1 := by
    rw [hW1]
    exact (((Upd.refl [] w).alloc _).alloc _).alloc _
  have h3 : W1.heap[w.heap.size]? = some (.cells #[.func (.func g) bd cp] 87 (0, 0)) := by
    rw [hW1]
    exact (((Upd.refl [] _).alloc _).alloc _).heap (heap_alloc_new w _) (by simp)
  have h4 : W1.heap[w.heap.size + 1]? = some (.cells #[.int .i64 0] 3 (0, 0)) := by
    rw [hW1]
    have := heap_alloc_new (w.alloc (.cells #[.func (.func g) bd cp] 87)) (.cells #[.int .i64 0] 3)
    rw [alloc_size] at this
    exact ((Upd.refl [] _).alloc _).heap this (by simp)
  have h5 : W1.heap[w.heap.size + 1 + 1]? = some (.cells #[.pointer (some ⟨p, 0, none⟩)] 82 (0, 0)) := by
    rw [hW1]
    have := heap_alloc_new ((w.alloc (.cells #[.func (.func g) bd cp] 87)).alloc (.cells #[.int .i64 0] 3)) (.cells #[.pointer (some ⟨p, 0, none⟩)] 82)
    rw [alloc_size, alloc_size] at this
    exact this
  rw [← hW1]
  clear hW1
  have l5 := lt_of_heap h5
  have hsz := u0.size
  have hP : Prl (fun b => b < W1.heap.size) W1 (w.heap.size + 1 + 1) p A c l := by
    have lp := lt_of_heap (u0.heap hb (by simp))
    refine ⟨h5, l5, ⟨vm, vS, u0.heap hb (by simp)⟩, lp, hr.keep u0, fun b off e => ?_, hok, hl⟩
    obtain ⟨x, hx⟩ : ∃ x, l[0]? = some x := ⟨l[0], List.getElem?_eq_getElem hne⟩
    obtain ⟨b', off', e', k0, -⟩ := cellN (hr.keep u0) hx
    rw [e] at e'
    cases e'
    have : b < W1.heap.size := by
      have := World.block_lt_of_cell? W1 _ k0
      exact this
    exact this
  clear hr hb
  obtain ⟨b3, hb3⟩ : ∃ b3, w.heap.size = b3 := ⟨_, rfl⟩
  rw [hb3] at h3 h4 h5 l5 hP ⊢
  have l3 := lt_of_heap h3
  have l4 := lt_of_heap h4
  refine wpIn_rangeFunc_ownF rfl (by omega) (gf := 99) (lb := #[.pointer (some ⟨b3 + 1 + 1, 0, none⟩)]) rfl trivial (enters_of Try.func99 (by kernel_rfl) rfl) (all_stops (X := fun b => b < W1.heap.size) 4 (by omega) W1 hP) (fun h k => h.trans k) (kp_b (fun b h => h)) (Below.refl _ _) (fun _ => rfl)
    (fun pre W => Upd [] W1 W ∧ ∀ y ∈ pre, f y.1 = false)
    (fun cd pre W => (cd = .ret ∧ W.cell? ⟨b3 + 1, 0, none⟩ = some (.int .i64 (lastV pre)) ∧ ∃ (pre' : List (Bg l)) (x : Bg l), pre = pre' ++ [x] ∧ (∀ y ∈ pre', f y.1 = false) ∧ f x.1 = true) ∧ Upd [] w W)
    (OwnFrom.and (own_upd (Nat.le_refl _)) (own_pure _))
    (fun cd => OwnFrom.and (Own.from (fun s A B row hs hg hr => ⟨hs.1, cell_kept hs.2.1 hg hr, hs.2.2⟩) _) (own_upd u0.size))
    ⟨Upd.refl _ _, by simp⟩
    (fun x => { tmps := #[.pointer (some ⟨p, 0, none⟩), .func (.func g) bd cp, undef, .pointer (some ⟨b3, 0, none⟩), .pointer (some ⟨b3 + 1, 0, none⟩), .int .i64 x.1, .pointer (some ⟨p, 0, none⟩), .func (.func 99) #[] #[.pointer (some ⟨b3 + 1 + 1, 0, none⟩)], .int .i64 x.1, undef, undef, undef, undef], defers := [] }) ?assign ?body ?done ?stop
  case assign =>
    intro l x W K hK
    gi_wp2
    exact hK
  case body =>
    rintro y pre x W ⟨hU, hp⟩ _
    have hcall := hf x.1 x.2 W (u0.trans hU)
    have k3 := cell_of (hU.heap h3 (by simp)) 0
    simp only [List.getElem?_toArray, List.getElem?_cons_zero] at k3
    have l3' := Nat.lt_of_lt_of_le l3 hU.size
    gi_wp2
    refine ⟨trivial, (CallsIn.inRound y (callsIn_wide.2 hcall)).mono ?_⟩
    rintro e W' ⟨rfl, u1⟩
    have h4' := (hU.trans u1).heap h4 (by simp)
    have k4 := cell_of h4' 0
    have ff4 := frozen_of h4' 0
    have l4' := lt_of_heap h4'
    simp only [List.getElem?_toArray, List.getElem?_cons_zero] at k4
    cases hfx : f x.1 with
    | true =>
      gi_wp2
      refine ⟨(keeps_upd u1).trans (KeepsOthers.setCell _ _ _), ⟨rfl, ?_, pre, x, rfl, hp, hfx⟩, ?_⟩
      · rw [lastV_snoc]
        exact World.cell?_setCell_same' _ _ _ (by rw [k4]; rfl)
      · exact (u0.trans (hU.trans u1)).step ((Upd.refl [b3 + 1] _).setCell _ _ (.inl (by simp))) (fun i hi => by simp at hi; subst hi; exact .inr (by omega))
    | false =>
      gi_wp2
      exact ⟨keeps_upd u1, Kp.upd u1 (fun b h => Nat.lt_of_lt_of_le h hU.size), hU.trans u1, fun y hy => (List.mem_append.1 hy).elim (hp y) (fun e => by simp at e; subst e; exact hfx)⟩
  case done =>
    rintro D ys W hD hys ⟨hU, hp⟩ hK
    have h4' := hU.heap h4 (by simp)
    have k4 := cell_of h4' 0
    have ff4 := frozen_of h4' 0
    have l4' := lt_of_heap h4'
    simp only [List.getElem?_toArray, List.getElem?_cons_zero] at k4
    have hres := firstP_done hys hp
    gi_wp2
    have hK' := (KeepsOthers.setCell W ⟨b3 + 1, 0, none⟩ (.int .i64 (-1))).same D _ hK rfl
    refine ⟨by simp, .inl ⟨_, _, rfl, run_takeDeferred hK', ?_⟩⟩
    have hc5 := cell_kept (World.cell?_setCell_same' W ⟨b3 + 1, 0, none⟩ (.int .i64 (-1)) (by rw [k4]; rfl)) (grownBy_putObj' _ D (.deferred none)) (fun r e => by cases e; exact ⟨_, hK', rfl⟩)
    refine ⟨.int .i64 (-1), ?_, by rw [hres], ?_⟩
    · simp [results, Try.f62, go_sem, hc5]
    · exact ((u0.trans hU).step ((Upd.refl [b3 + 1] _).setCell _ _ (.inl (by simp))) (fun i hi => by simp at hi; subst hi; exact .inr (by omega))).step (.of_grown (grownBy_putObj' _ D (.deferred none))) (fun i hi => by simp at hi; subst hi; exact .inr (by omega))
  case stop =>
    rintro D cd pre W hD hpre ⟨⟨rfl, hcr, pre', x, rfl, hp, hx⟩, hU⟩ hK
    have hres := firstP_stop hpre hp hx
    rw [lastV_snoc] at hcr
    gi_wp2
    refine ⟨by simp, .inl ⟨_, _, rfl, run_takeDeferred hK, ?_⟩⟩
    have hc5 := cell_kept hcr (grownBy_putObj' _ D (.deferred none)) (fun r e => by cases e; exact ⟨_, hK, rfl⟩)
    refine ⟨.int .i64 x.1, ?_, by rw [hres], ?_⟩
    · simp [results, Try.f62, go_sem, hc5]
    · exact hU.step (.of_grown (grownBy_putObj' _ D (.deferred none))) (fun i hi => by simp at hi; subst hi; exact .inr (by omega))
end
end Go.Proofs.Ytibghcmkmbamjaa
