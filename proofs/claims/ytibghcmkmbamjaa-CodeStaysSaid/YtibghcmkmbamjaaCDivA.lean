/- code: a call, an append in a region that draws; what divides keeps. -/
import Derived.Test.YtibghcmkmbamjaaCBegin
import Derived.Test.YtibghcmkmbamjaaCWalk
import Derived.Test.YtibghcmkmbamjaaGNext
import Derived.RangeFuncBox
import Derived.Deep.RegionHeld3
import Derived.Deep.DrawnRows
import Derived.Test.YtibghcmkmbamjaaGLib
import Derived.Maps.AppendAt
namespace Go.Proofs.Ytibghcmkmbamjaa
open Go.RowKit Go.Shelf
set_option linter.unusedVariables false
set_option linter.unusedSimpArgs false
set_option linter.unusedSectionVars false
attribute [local go_sem] Oper.semAt_some
/-- What has been collected. -/
def gotP (l : List Ins) (pre : List (Bg l)) : List Int := 0 :: (pre.map (·.1)).filterMap (calleeP l)
theorem gotP_none {l : List Ins} (pre : List (Bg l)) (x : Bg l) (h : calleeP l x.1 = none) : gotP l (pre ++ [x]) = gotP l pre := by simp [gotP, h]
theorem gotP_some {l : List Ins} (pre : List (Bg l)) (x : Bg l) {t : Int} (h : calleeP l x.1 = some t) : gotP l (pre ++ [x]) = gotP l pre ++ [t] := by simp [gotP, h]
theorem gotP_len {l : List Ins} (pre : List (Bg l)) : (gotP l pre).length ≤ pre.length + 1 := by
  unfold gotP
  have := List.length_filterMap_le (calleeP l) (pre.map (·.1))
  simp at this ⊢
  omega
/-- Blocks of which X tells are as they were, and the world is else. -/
def KpW (X : Nat → Prop) (W W' : World) : Prop := (W'.os = W.os ∧ W'.tape = W.tape ∧ W'.output = W.output ∧ W.heap.size ≤ W'.heap.size) ∧ Kp X W W'
theorem own_kpw {β : Type} {X : Nat → Prop} {w : World} {B : Nat} (hB : ∀ b, X b → b < w.heap.size ∧ b < B) : OwnFrom (β := β) B (fun _ W => KpW X w W) := fun s W W' row h g hr =>
  ⟨⟨g.os.trans h.1.1, g.tape.trans h.1.2.1, g.output.trans h.1.2.2.1, Nat.le_trans h.1.2.2.2 g.size⟩, fun b hb => (g.block b (Nat.lt_of_lt_of_le (hB b hb).1 h.1.2.2.2) (fun e => by have := (hr b e.symm).1; have := (hB b hb).2; omega)).trans (h.2 b hb)⟩
theorem KpW.step {X : Nat → Prop} {A B C : World} (h : KpW X A B) (k : Kp X B C) {r : Option Nat} (g : B.grownBy C r) : KpW X A C := ⟨⟨g.os.trans h.1.1, g.tape.trans h.1.2.1, g.output.trans h.1.2.2.1, Nat.le_trans h.1.2.2.2 g.size⟩, h.2.trans k⟩
/-- What an append and the store behind it keep. -/
theorem kp_append {X : Nat → Prop} {W w1 : World} {v v' : Value} {B : Nat} {tmp : Obj} (hX : ∀ b, X b → b < W.heap.size) (hne : ∀ b, X b → some b ≠ v.ownBlock) (hB : ∀ b, X b → b ≠ B) (hgrow : (W.alloc tmp).grownBy w1 v.ownBlock) : Kp X W (w1.setCell ⟨B, 0, none⟩ v') := fun b hb => by
  have e1 := (World.grownBy_alloc W tmp none).block b (hX b hb) (by simp)
  have e2 := hgrow.block b (by have := hX b hb; simp; omega) (hne b hb)
  have hlt : b < w1.heap.size := Nat.lt_of_lt_of_le (by have := hX b hb; simp; omega) hgrow.size
  have e3 := (grownBy_setCell' w1 B v').block b hlt (by simp; exact hB b hb)
  rw [e3, e2, e1]
theorem zrows' (l : List Int) : ∀ r ∈ l.map encZi, r.length = 1 := fun r hr => by
  obtain ⟨q, _, rfl⟩ := List.mem_map.1 hr
  rfl
theorem flat_z : ∀ (xs : List Int), (xs.map encZi).flatten = xs.map (Value.int .i64)
  | [] => rfl
  | x :: xs => by simp only [List.map_cons, List.flatten_cons, flat_z xs]; rfl
theorem own_ne {w : World} {base e k n : Nat} {v : Value} {xs : List Value} {b : Nat} {o : Obj} (h : w.ownsRow base e k v n xs) (hb : w.heap[b]? = some o) (ho : ∀ cs fr, o ≠ .cells cs e fr) : some b ≠ v.ownBlock := by
  rcases h.2 with ⟨rfl, _⟩ | ⟨g, cap, cur, rfl, hbg, hg, _⟩
  · simp [Value.ownBlock]
  · intro e
    obtain rfl : b = g := by simpa [Value.ownBlock] using e
    rw [hb] at hg
    exact ho _ _ (Option.some.inj hg)
/-- A row that is owned, and blocks beside it, as own things of the call. -/
theorem sep_row {w W : World} {v : Value} {xs : List Int} {E : List (Nat × Obj)} (u : Upd [] w W) (hrw : W.ownsRow w.heap.size 3 1 v xs.length (xs.map (Value.int .i64))) (hE : ∀ q ∈ E, W.heap[q.1]? = some q.2 ∧ w.heap.size ≤ q.1 ∧ some q.1 ≠ v.ownBlock) : SepK w W E (star (rowR 3 1 v (xs.map encZi)) emp) := by
  have hge : ∀ b, some b = v.ownBlock → w.heap.size ≤ b := fun b hb => by
    rcases hrw.2 with ⟨rfl, _⟩ | ⟨g, cap, cur, rfl, hbg, _⟩
    · simp [Value.ownBlock] at hb
    · simp [Value.ownBlock] at hb
      omega
  have hrow : rowR 3 1 v (xs.map encZi) W (fun b => some b = v.ownBlock) := by
    refine ⟨⟨?_, ?_⟩, (zrows' xs), fun g hg => hg.symm⟩
    · rw [flat_z]; simp
    · rw [flat_z, List.length_map]
      rcases hrw.2 with ⟨h1, h2⟩ | ⟨g, cap, cur, h1, h2, h3⟩
      · exact .inl ⟨h1, h2⟩
      · exact .inr ⟨g, cap, cur, h1, Nat.zero_le _, h3⟩
  refine ⟨u, fun b => b ∈ E.map (·.1), fun b => some b = v.ownBlock, fun q hq => ⟨(hE q hq).1, List.mem_map_of_mem hq⟩, ⟨fun b => some b = v.ownBlock, fun _ => False, hrow, trivial, fun b hb => hb, fun b hb => hb.elim, fun b _ hb => hb⟩, fun b hb => ?_, hge, fun b hb hb2 => ?_⟩
  · obtain ⟨q, hq, rfl⟩ := List.mem_map.1 hb
    exact (hE q hq).2.1
  · obtain ⟨q, hq, rfl⟩ := List.mem_map.1 hb
    exact (hE q hq).2.2 hb2
/-- Things of a later world beside those of an earlier one. -/
theorem SepK.join {w0 w W : World} {K K2 : List (Nat × Obj)} {R R2 : Res} [Good R] (h : SepK w0 w K R) (h2 : SepK w W K2 (star R2 emp)) : SepK w0 W (K2 ++ K) (star R2 R) := by
  have u := h2.u
  have hs := h.u.size
  obtain ⟨u0, A, B, h1, h2', h3, h4, h5⟩ := h
  obtain ⟨-, A2, B2, k1, ⟨B3, -, k2, -, k3, -, -⟩, k4, k5, k6⟩ := h2
  refine ⟨u0.trans u, fun b => A2 b ∨ (A b ∧ b < w.heap.size), fun b => B2 b ∨ (B b ∧ b < w.heap.size), fun q hq => ?_, ⟨B3, fun b => B b ∧ b < w.heap.size, k2, Good.kept (Good.mono h2' fun b hb h => ⟨h, hb⟩) u (by simp), fun b h => .inl (k3 b h), fun b h => .inr h, fun b hb hB => ?_⟩, fun b hb => ?_, fun b hb => ?_, fun b hb hB => ?_⟩
  · rcases List.mem_append.1 hq with hq | hq
    · exact ⟨(k1 q hq).1, .inl (k1 q hq).2⟩
    · have := h1 q hq
      exact ⟨u.heap this.1 (by simp), .inr ⟨this.2, lt_of_heap this.1⟩⟩
  · have := k5 b (k3 b hb); omega
  · rcases hb with hb | hb
    · have := k4 b hb; omega
    · exact h3 b hb.1
  · rcases hb with hb | hb
    · have := k5 b hb; omega
    · exact h4 b hb.1
  · rcases hb with hb | hb
    · rcases hB with hB | hB
      · exact k6 b hb hB
      · have := k4 b hb; omega
    · rcases hB with hB | hB
      · have := k5 b hB; omega
      · exact h5 b hb.1 hB.1
theorem step_append_run {P : Program} {ops : Array Oper} {o : Oper} {a : Act} {w : World} {K : Act → World → Prop} {Q : Exit → Act → World → Prop} {E : Prop}
    (hg : o.guard = none) (s x : Operand) (t : TypeId) (hop : o.op = Op.call { callee := Callee.builtin Builtin.append, args := #[s, x], argTypes := #[t, t] })
    (v y : Value) (hs : a.eval s = v) (hx : a.eval x = y) (v' : Value) (w' : World) (hrun : (Builtin.append_ #[t, t] o.type #[v, y]).run P w = .ok v' w') (hK : K (a.put o.dst v') w') :
    if Region.wanted o (yielded ops a.tmps) = true then Oper.wp P o a w K Q else E := by
  have hw : Region.wanted o (yielded ops a.tmps) = true := by simp [Region.wanted, hg]
  rw [if_pos hw]
  unfold Oper.wp execOp
  simp only [hop, resolve, invoke, builtin, Sem.run_bind, Sem.run_pure, Result.andThen_ok, List.map_toArray, List.map_cons, List.map_nil, hs, hx, hrun]
  exact hK
theorem info53 : (Try.prog.info? 53).map (fun i => (i.zero, i.size, i.bytes)) = some (some (.agg #[.int .i64 0, .int .i64 0]), 2, 16) := by kernel_rfl
theorem step_append_sep {P : Program} {w0 : World} {KK : List (Nat × Obj)} {T : Res} {ops : Array Oper} {o : Oper} {a : Act} {w : World} {K : Act → World → Prop} {Q : Exit → Act → World → Prop} {E : Prop} [Good T]
    (hg : o.guard = none) (s x : Operand) (t : TypeId) (hop : o.op = Op.call { callee := Callee.builtin Builtin.append, args := #[s, x], argTypes := #[t, t] })
    (e : TypeId) (i : TypeInfo) (z : Value) (k bytes : Nat) (ht : P.underlying t = some (.slice e)) (hi : P.info? e = some i) (hz : i.zero = some z)
    (hsize : i.size = k) (hby : i.bytes = bytes) (hzs : z.cells.size = k) (hk : 0 < k)
    (v : Value) (l : List (List Value)) (hs : a.eval s = v) (H : SepK w0 w KK (star (rowR e k v l) T))
    (y : Value) (l2 : List (List Value)) (hx : a.eval x = y) (hp : PartAt w y k l2) (hr : ∀ r ∈ l2, r.length = k) (h1 : ∀ r ∈ l2, ∀ u ∈ r, u.oneCell' = true)
    (h63 : l.length + l2.length ≤ maxLen) (hbytes : (l.length + l2.length) * bytes ≤ 140737488355328)
    (h : ∀ v' w', SepK w0 w' KK (star (rowR e k v' (l ++ l2)) T) → K (a.put o.dst v') w') :
    if Region.wanted o (yielded ops a.tmps) = true then Oper.wp P o a w K Q else E := by
  have hw : Region.wanted o (yielded ops a.tmps) = true := by simp [Region.wanted, hg]
  rw [if_pos hw]
  obtain ⟨v', w', hrun, H'⟩ := run_append_part (P := P) t o.type e i z k bytes ht hi hz hsize hby hzs hk v l H y l2 hp hr h1 h63 hbytes
  unfold Oper.wp execOp
  simp only [hop, resolve, invoke, builtin, Sem.run_bind, Sem.run_pure, Result.andThen_ok, List.map_toArray, List.map_cons, List.map_nil, hs, hx, hrun]
  exact h v' w' H'
theorem part1_of {w : World} {b e : Nat} {x : Value} (hb : w.heap[b]? = some (.cells #[x] e (0, 0))) : PartAt w (.slice (some ⟨b, 0, none⟩) 1 1) 1 [[x]] := by
  refine ⟨_, 1, rfl, fun i r hi => ?_, fun e => by cases e⟩
  cases i with
  | zero =>
    cases hi
    refine ⟨_, _, rfl, fun j v hj => ?_⟩
    match j, hj with
    | 0, hj => cases hj; rw [cell_of hb]; rfl
  | succ i => simp at hi
theorem part2_of {w : World} {b e : Nat} {x y : Value} (hb : w.heap[b]? = some (.cells #[x, y] e (0, 0))) : PartAt w (.slice (some ⟨b, 0, none⟩) 1 1) 2 [[x, y]] := by
  refine ⟨_, 1, rfl, fun i r hi => ?_, fun e => by cases e⟩
  cases i with
  | zero =>
    cases hi
    refine ⟨_, _, rfl, fun j v hj => ?_⟩
    match j, hj with
    | 0, hj => cases hj; rw [cell_of hb]; rfl
    | 1, hj => cases hj; rw [cell_of hb]; rfl
  | succ i => simp at hi
theorem pairs_len (n : Int) : ∀ S : List Int, (pairsP n S).length = S.length
  | [] => rfl
  | [a] => rfl
  | a :: b :: r => by simp only [pairsP, List.length_cons, pairs_len n (b :: r)]
theorem pairs_at (n : Int) : ∀ (S : List Int) (k : Nat) (a b : Int), (S ++ [n])[k]? = some a → (S ++ [n])[k + 1]? = some b → (pairsP n S)[k]? = some (a, b)
  | [], k, a, b, h1, h2 => by simp at h2
  | [x], 0, a, b, h1, h2 => by simp at h1 h2; subst h1 h2; rfl
  | [x], k + 1, a, b, h1, h2 => by simp at h2
  | x :: y :: r, 0, a, b, h1, h2 => by simp at h1 h2; subst h1 h2; rfl
  | x :: y :: r, k + 1, a, b, h1, h2 => by
    have := pairs_at n (y :: r) k a b (by simpa using h1) (by simpa using h2)
    simpa only [pairsP, List.getElem?_cons_succ] using this
/-- A call of a Go function, as one step of a region that draws. -/
theorem step_call_ret {P : Program} {ops : Array Oper} {o : Oper} {a : Act} {w : World} {K : Act → World → Prop} {Q : Exit → Act → World → Prop} {E : Prop}
    (hg : o.guard = none) (f : FuncId) (x : Operand) (t : TypeId) (hop : o.op = Op.call { callee := .value (.func f), args := #[x], argTypes := #[t] }) (y : Value) (hx : a.eval x = y)
    (he : ∀ args w, (callFunc f args).run P w = .ok (.enter f args) w) {R : Ending → World → Prop} (hc : Calls P f #[y] w R)
    (h : ∀ e w', R e w' → ∃ v, e = .returned v ∧ K (a.put o.dst v) w') :
    if Region.wanted o (yielded ops a.tmps) = true then Oper.wp P o a w K Q else E := by
  have hw : Region.wanted o (yielded ops a.tmps) = true := by simp [Region.wanted, hg]
  have hf : a.eval (.func f) = .func (.func f) #[] #[] := rfl
  have hrun : (execOp a.eval o).run P w = .ok (.enter f #[y]) w := by
    simp [execOp, hop, resolve, invoke, Deferred.ofValue, hx, hf, he, Result.andThen]
  rw [if_pos hw]
  unfold Oper.wp
  rw [hrun, Oper.upon_enter]
  refine hc.mono fun e w' hr => ?_
  obtain ⟨v, rfl, hk⟩ := h e w' hr
  exact hk
abbrev dKK (b0 p D : Nat) (v : Value) (A : Option Addr) (n c bm : Nat) (vs : Value) (K : List (Nat × Obj)) : List (Nat × Obj) :=
  (b0 + 1 + 1, .cells #[v] 56) :: (b0, .cells #[.pointer (some ⟨p, 0, none⟩)] 82) :: (D, .deferred (some [])) :: (p, .cells #[.slice A n c, .map (some bm), vs] 85) :: K
section
variable {w0 w : World} {b0 p D : Nat} {v : Value} {A : Option Addr} {n c bm : Nat} {vs : Value} {K : List (Nat × Obj)} {R : Res} [Good R]
theorem dKK_set (h : SepK w0 w (dKK b0 p D v A n c bm vs K) R) (hp : p < b0) (hD : b0 + 4 ≤ D) (hK : ∀ q ∈ K, q.1 < b0) (v' : Value) : SepK w0 (w.setCell ⟨b0 + 1 + 1, 0, none⟩ v') (dKK b0 p D v' A n c bm vs K) R := by
  have hb := h.blk (b := b0 + 1 + 1) (o := .cells #[v] 56) (by simp)
  refine SepK.set h ((Upd.refl [b0 + 1 + 1] w).setCell ⟨b0 + 1 + 1, 0, none⟩ v' (.inl (by simp))) (heap_setCell_same hb 0 v') (fun q hq => ?_)
  simp only [List.mem_cons] at hq
  rcases hq with rfl | rfl | rfl | hq
  · show b0 ≠ b0 + 1 + 1; omega
  · show D ≠ _; omega
  · show p ≠ _; omega
  · have := hK q hq; omega
theorem dKK_setp (h : SepK w0 w (dKK b0 p D v A n c bm vs K) R) (hp : p < b0) (hD : b0 + 4 ≤ D) (hK : ∀ q ∈ K, q.1 ≠ p) (v' : Value) : SepK w0 (w.setCell ⟨p, 2, none⟩ v') (dKK b0 p D v A n c bm v' K) R := by
  have hb := h.blk (b := p) (o := .cells #[.slice A n c, .map (some bm), vs] 85) (by simp)
  have h1 := SepK.drop h ((p, .cells #[.slice A n c, .map (some bm), vs] 85) :: (b0 + 1 + 1, .cells #[v] 56) :: (b0, .cells #[.pointer (some ⟨p, 0, none⟩)] 82) :: (D, .deferred (some [])) :: K) (fun q hq => by
    simp only [List.mem_cons] at hq ⊢
    rcases hq with h | h | h | h | h <;> simp [h])
  have h2 := SepK.set h1 ((Upd.refl [p] w).setCell ⟨p, 2, none⟩ v' (.inl (by simp))) (heap_setCell_same hb 2 v') (fun q hq => by
    simp only [List.mem_cons] at hq
    rcases hq with rfl | rfl | rfl | hq
    · show b0 + 1 + 1 ≠ p; omega
    · show b0 ≠ p; omega
    · show D ≠ p; omega
    · exact hK q hq)
  exact SepK.drop h2 _ (fun q hq => by
    simp only [List.mem_cons] at hq
    simp only [List.setIfInBounds_toArray, List.set, List.mem_cons]
    rcases hq with h | h | h | h | h <;> simp [h])
end
end Go.Proofs.Ytibghcmkmbamjaa
