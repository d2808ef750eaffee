/- owns: reach. -/
import Derived.Test.YtojjjkeciiieeaaOHolds
namespace Go.Proofs.Ytojjjkeciiieeaa
open Go.RowKit
set_option linter.unusedVariables false
set_option linter.unusedSimpArgs false
set_option linter.unusedSectionVars false
def okI (a : Int) : Prop := (Lit.int .i64 a).wf = true
theorem ki : Kops Try.prog 3 (Value.int .i64) okI := kops_int Try.underlying3
theorem zero4 (w : World) : (zeroValue 4).run Try.prog w = .ok (.bool false) w := by kernel_rfl
def seenL (S : List Int) : List (Int × Bool) := S.map fun k => (k, true)
abbrev seenM (mb : Nat) (S : List Int) : Res := mapR (Value.int .i64) Value.bool okI mb (seenL S)
theorem seen_get (S : List Int) (x : Int) : aget (seenL S) x = if x ∈ S then some true else none := by
  induction S with
  | nil => rfl
  | cons a S ih =>
    simp only [seenL, List.map_cons, aget] at ih ⊢
    by_cases e : a = x
    · subst e; simp
    · rw [if_neg e, ih]
      by_cases h : x ∈ S <;> simp [h, Ne.symm e]
theorem seen_put {S : List Int} {x : Int} (h : x ∉ S) : aput (seenL S) x true = seenL (S ++ [x]) := by
  rw [aput_new true (by simpa [seenL] using h)]
  simp [seenL]
theorem seen_look {w0 w : World} {K : List (Nat × Obj)} {T : Res} {mb : Nat} {S : List Int} (H : SepK w0 w K (star (seenM mb S) T)) (x : Int) (hx : okI x) : (Instr.lookup 46 (.map (some mb)) (.int .i64 x) false).run Try.prog w = .ok (.bool (decide (x ∈ S))) w := by
  rw [H.map.lookup ki Try.underlying46 (zero4 _) hx false, seen_get]
  by_cases h : x ∈ S <;> simp [h, lookV]
structure Ext (t : Tab) (i : Int) (S S' : List Int) : Prop where
  sub : ∀ x ∈ S, x ∈ S'
  nd : S'.Nodup
  bd : ∀ x ∈ S', 0 ≤ x ∧ x < (t.length : Int)
  next : ∀ k ∈ adj t i, k ∈ S'
  cl : ∀ x ∈ S', x ∉ S → (∀ k ∈ adj t x, k ∈ S') ∧ Rch (adj t) i x
structure Prg (t : Tab) (i : Int) (S : List Int) (n : Nat) (S' : List Int) : Prop where
  sub : ∀ x ∈ S, x ∈ S'
  nd : S'.Nodup
  bd : ∀ x ∈ S', 0 ≤ x ∧ x < (t.length : Int)
  next : ∀ (j : Nat) (k : Int), j < n → (adj t i)[j]? = some k → k ∈ S'
  cl : ∀ x ∈ S', x ∉ S → (∀ k ∈ adj t x, k ∈ S') ∧ Rch (adj t) i x
section
variable {t : Tab} {i : Int} {S S' : List Int} {n : Nat}
theorem Prg.start (hn : S.Nodup) (hb : ∀ x ∈ S, 0 ≤ x ∧ x < (t.length : Int)) : Prg t i S 0 S := ⟨fun x h => h, hn, hb, fun j k h => by omega, fun x h hn => absurd h hn⟩
theorem Prg.fin (h : Prg t i S n S') (hn : (adj t i).length ≤ n) : Ext t i S S' := ⟨h.sub, h.nd, h.bd, fun k hk => by
  obtain ⟨j, hj⟩ := List.mem_iff_getElem?.1 hk
  exact h.next j k (by have := (List.getElem?_eq_some_iff.1 hj).1; omega) hj, h.cl⟩
theorem Prg.old (h : Prg t i S n S') {k : Int} (hk : (adj t i)[n]? = some k) (hm : k ∈ S') : Prg t i S (n + 1) S' :=
  ⟨h.sub, h.nd, h.bd, fun j k' hj hk' => by
    by_cases e : j = n
    · subst e
      rw [hk] at hk'
      cases hk'
      exact hm
    · exact h.next j k' (by omega) hk', h.cl⟩
theorem Prg.put (h : Prg t i S n S') {k : Int} (hk : (adj t i)[n]? = some k) (hm : k ∉ S') : (S' ++ [k]).Nodup ∧ (∀ x ∈ S' ++ [k], 0 ≤ x ∧ x < (t.length : Int)) ∧ S'.length + 1 ≤ t.length := by
  have hnd : (S' ++ [k]).Nodup := List.nodup_append.2 ⟨h.nd, by simp, fun a ha b hb e => by simp at hb; subst e hb; exact hm ha⟩
  have hbd : ∀ x ∈ S' ++ [k], 0 ≤ x ∧ x < (t.length : Int) := fun x hx => by
    rcases List.mem_append.1 hx with hx | hx
    · exact h.bd x hx
    · obtain rfl := List.mem_singleton.1 hx
      exact (mem_adj.1 (List.mem_of_getElem? hk)).1
  have := nodup_range hnd hbd
  simp at this
  exact ⟨hnd, hbd, this⟩
theorem Prg.walk (h : Prg t i S n S') {k : Int} {S2 : List Int} (hk : (adj t i)[n]? = some k) (hm : k ∉ S') (h2 : Ext t k (S' ++ [k]) S2) : Prg t i S (n + 1) S2 := by
  have hs : ∀ x ∈ S', x ∈ S2 := fun x hx => h2.sub x (List.mem_append_left _ hx)
  have hki := List.mem_of_getElem? hk
  refine ⟨fun x hx => hs x (h.sub x hx), h2.nd, h2.bd, fun j k' hj hk' => ?_, fun x hx hn => ?_⟩
  · by_cases e : j = n
    · subst e; rw [hk] at hk'; cases hk'; exact h2.sub _ (by simp)
    · exact hs _ (h.next j k' (by omega) hk')
  · by_cases h1 : x ∈ S'
    · obtain ⟨a, b⟩ := h.cl x h1 hn
      exact ⟨fun k' hk' => hs _ (a k' hk'), b⟩
    · by_cases h3 : x = k
      · subst h3
        exact ⟨h2.next, .one hki⟩
      · obtain ⟨a, b⟩ := h2.cl x hx (by simp [h1, h3])
        exact ⟨a, .step hki b⟩
end
def capL (v : Value) : Obj := .cells #[v] 22 (0, 0)
def capS (mb : Nat) : Obj := .cells #[.map (some mb)] 46 (0, 0)
def capF (bl bs bf : Nat) : Obj := .cells #[.func (.func 35) #[] #[.pointer (some ⟨bl, 0, none⟩), .pointer (some ⟨bs, 0, none⟩), .pointer (some ⟨bf, 0, none⟩)]] 63 (0, 0)
section
variable {w0 : World} {K : List (Nat × Obj)} {t : Tab} {v : Value} {bl bs bf mb : Nat}
def WalkDid (w0 : World) (K : List (Nat × Obj)) (T : Res) (t : Tab) (mb : Nat) (i : Int) (S : List Int) (e : Ending) (w' : World) : Prop := e = .returned (.tuple #[]) ∧ ∃ S', SepK w0 w' K (star (seenM mb S') T) ∧ Ext t i S S'
set_option maxRecDepth 100000 in
set_option maxHeartbeats 4000000 in
theorem walk35 (hT : TabAt w0 v t) (hF : Fits t) (hl : (bl, capL v) ∈ K) (hs : (bs, capS mb) ∈ K) (hf : (bf, capF bl bs bf) ∈ K) (f : Nat) : ∀ (T : Res) [Good T] (i : Int) (S : List Int) (w : World), t.length ≤ f + S.length → S.Nodup → (∀ x ∈ S, 0 ≤ x ∧ x < (t.length : Int)) → SepK w0 w K (star (seenM mb S) T) →
    Calls Try.prog 35 #[.int .i64 i, .pointer (some ⟨bl, 0, none⟩), .pointer (some ⟨bs, 0, none⟩), .pointer (some ⟨bf, 0, none⟩)] w (WalkDid w0 K T t mb i S) := by
  induction f using Nat.strongRecOn with
  | ind f ih =>
    intro T _ i S w hfl hnd hbd H
    have c0 := cell_of (H.blk hl) 0
    have l0 := lt_of_heap (H.blk hl)
    simp only [List.getElem?_toArray, List.getElem?_cons_zero, List.getElem?_cons_succ] at c0
    go_enter Try.func35, Try.ntmps35
    go_wp2_with fail
    refine (holds13 (hT.keep H.u) hF i).mono ?_
    rintro e w1 ⟨s, rfl, hrow, u1⟩
    have H1 := H.more u1 hrow (fun b hb => hb)
    clear c0 l0 H hrow u1
    obtain ⟨A, c, rfl, -⟩ := H1.row
    rw [List.length_map] at H1 ⊢
    have hal : (adj t i).length ≤ t.length := (adj_rising t i).bound (fun x hx => (mem_adj.1 hx).1)
    have htl := hF.1
    go_wp2_with fail
    go_loopg [11] (adj t i).length (fun kq v11 w' => ∃ (j : Nat) (Sc : List Int), v11 = .int .i64 (j : Int) ∧ kq + j = (adj t i).length ∧ SepK w0 w' K (star (rowR 3 1 (.slice A (adj t i).length c) ((adj t i).map encI)) (star (seenM mb Sc) T)) ∧ Prg t i S j Sc)
    case atStart => exact ⟨0, S, rfl, rfl, H1, Prg.start hnd hbd⟩
    case round =>
      clear H1
      obtain ⟨j, Sc, rfl, hk, H, hP⟩ := hrel
      by_cases hj : j < (adj t i).length
      · have z1 : decide ((j : Int) < ((adj t i).length : Int)) = true := decide_eq_true (by omega)
        obtain ⟨k, hkk⟩ : ∃ k, (adj t i)[j]? = some k := ⟨_, List.getElem?_eq_getElem hj⟩
        obtain ⟨A', c', eA, hr⟩ := H.row
        rw [List.length_map] at eA
        cases eA
        obtain ⟨b, off, rfl, hc⟩ := hr j (encI k) (by rw [List.getElem?_map, hkk]; rfl)
        have k0 : wr.cell? ⟨b, off + j, none⟩ = some (.int .i64 k) := by simpa using hc 0 _ rfl
        have c1 := cell_of (H.blk hs) 0
        have l1 := lt_of_heap (H.blk hs)
        simp only [List.getElem?_toArray, List.getElem?_cons_zero, List.getElem?_cons_succ] at c1
        have y3 : (0 : Int) ≤ (j : Int) := by omega
        have y4 : (j : Int) < ((adj t i).length : Int) := by omega
        have hkb := (mem_adj.1 (List.mem_of_getElem? hkk)).1
        have hko : okI k := WalkArith.wf_i64 (by omega)
        have r1 := seen_look H.swap k hko
        clear hr hc
        by_cases hm : k ∈ Sc
        · rw [decide_eq_true hm] at r1
          have hP2 := hP.old hkk hm
          clear hm hkk
          go_wp2_with fail
          go_roundg (gk - 1)
          case measure => omega
          case rel => exact ⟨j + 1, Sc, by go_num, by omega, H, hP2⟩
        · rw [decide_eq_false hm] at r1
          obtain ⟨n1, n2, n3⟩ := hP.put hkk hm
          have hsl : S.length ≤ Sc.length := hnd.length_le_of_subset hP.sub
          have hput := seen_put hm
          have hW : Unit → ∀ S2, Ext t k (Sc ++ [k]) S2 → Prg t i S (j + 1) S2 := fun _ S2 h2 => hP.walk hkk hm h2
          clear hm hkk hP
          have hih := ih (f - 1) (by omega) (star (rowR 3 1 (.slice (some ⟨b, off, none⟩) (adj t i).length c) ((adj t i).map encI)) T) k (Sc ++ [k])
          go_wp2_with (at_mapUpdate; refine wl_put rfl (.tmp 19) (.tmp 20) _ rfl ki Try.underlying46 rfl H.swap k true rfl rfl hko ?_; intro w8 H2; have c2 := cell_of (H2.blk hf) 0; have l2 := lt_of_heap (H2.blk hf); simp only [List.getElem?_toArray, List.getElem?_cons_zero, List.getElem?_cons_succ] at c2)
          rw [hput] at H2
          refine (hih w8 (by simp; omega) n1 n2 H2).mono ?_
          rintro e w9 hd
          obtain ⟨rfl, S2, H3, hE⟩ := (Iff.of_eq (WalkDid.eq_1 ..)).1 hd
          have hP2 := hW () S2 hE
          clear hd c2 l2 H2 hE hW hih
          go_wp2_with fail
          go_roundg (gk - 1)
          case measure => omega
          case rel => exact ⟨j + 1, S2, by go_num, by omega, H3.swap, hP2⟩
      · have z1 : decide ((j : Int) < ((adj t i).length : Int)) = false := decide_eq_false (by omega)
        have hE := hP.fin (by omega)
        clear hP
        go_wp2_with fail
        go_end0
        exact (Iff.of_eq (WalkDid.eq_1 ..)).2 ⟨rfl, _, H.tl, hE⟩
/-- Whom a type reaches, each once. -/
def ReachS (t : Tab) (i : Int) (S : List Int) : Prop := S.Nodup ∧ (∀ k, k ∈ S ↔ Rch (adj t) i k)
theorem Ext.reach {i : Int} {S : List Int} (h : Ext t i [] S) : ReachS t i S := by
  refine ⟨h.nd, fun k => ⟨fun hk => (h.cl k hk (by simp)).2, fun hk => ?_⟩⟩
  exact hk.closed h.next fun x hx => (h.cl x hx (by simp)).1
theorem store_func (a : Addr) (f : Fn) (r : Array Value) (cs : Array Value) (m : Mode) (w : World) : (store a (.func f r cs) m).run Try.prog w = stored Try.prog w a (.func f r cs) m := run_store Try.prog w a _ m rfl
set_option maxRecDepth 100000 in
set_option maxHeartbeats 4000000 in
theorem reach21 {w : World} (hT : TabAt w v t) (hF : Fits t) (i : Int) :
    Calls Try.prog 21 #[v, .int .i64 i] w fun e w' => ∃ mb S, e = .returned (.map (some mb)) ∧ SepK w w' [] (star (seenM mb S) emp) ∧ ReachS t i S := by
  have hmm := @run_makeMap Try.prog
  obtain ⟨A, c, rfl, -⟩ := id hT
  have H1 := ((SepK.start w).alloc (.cells #[.slice A t.length c] 22)).map0 (Value.int .i64) Value.bool okI
  rw [alloc_size] at H1
  have H2 := H1.alloc (.cells #[.map (some (w.heap.size + 1))] 46)
  rw [alloc_size, alloc_size] at H2
  have H4 := H2.alloc (capF w.heap.size (w.heap.size + 1 + 1) (w.heap.size + 1 + 1 + 1))
  rw [alloc_size, alloc_size, alloc_size] at H4
  clear H1 H2
  have hf := H4.blk (b := w.heap.size + 1 + 1 + 1) List.mem_cons_self
  have hs := H4.blk (b := w.heap.size + 1 + 1) (o := capS (w.heap.size + 1)) (List.mem_cons_of_mem _ List.mem_cons_self)
  have c2 := cell_of hf 0
  have l2 := lt_of_heap hf
  have l1 := lt_of_heap hs
  simp only [capF, List.getElem?_toArray, List.getElem?_cons_zero, List.getElem?_cons_succ] at c2
  clear hf hs
  have hst := store_func
  go_enter Try.func21, Try.ntmps21
  go_wp2_with fail
  refine (walk35 (bl := w.heap.size) (bs := w.heap.size + 1 + 1) (bf := w.heap.size + 1 + 1 + 1) (mb := w.heap.size + 1) hT hF (by simp [capL]) (by simp [capS]) (by simp) t.length emp i [] _ (by simp) List.nodup_nil (by simp) H4).mono ?_
  rintro e w9 hd
  obtain ⟨rfl, S, H5, hE⟩ := (Iff.of_eq (WalkDid.eq_1 ..)).1 hd
  have c3 := cell_of (H5.blk (b := w.heap.size + 1 + 1) (o := capS (w.heap.size + 1)) (List.mem_cons_of_mem _ List.mem_cons_self)) 0
  have l5 := lt_of_heap (H5.blk (b := w.heap.size + 1 + 1) (o := capS (w.heap.size + 1)) (List.mem_cons_of_mem _ List.mem_cons_self))
  simp only [capS, List.getElem?_toArray, List.getElem?_cons_zero, List.getElem?_cons_succ] at c3
  clear hd H4 c2 l1 l2
  go_wp2_with fail
  go_ret
  exact ⟨_, S, rfl, H5.drop [] (fun p hp => by cases hp), hE.reach⟩
end
end Go.Proofs.Ytojjjkeciiieeaa
