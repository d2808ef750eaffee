/- Maps of a program's memory as lists of pairs; which blocks a call may turn. -/
import Derived.Maps.OwnSet
import Derived.WalkKit
import Derived.Deep.Draws
import Derived.StillTailTactics
namespace Go.Proofs.Ytgleceijdedlkaa
open Go.RowKit Go.MapKept Go.ChangeMaps
set_option linter.unusedVariables false
set_option linter.unusedSimpArgs false
set_option linter.unusedSectionVars false
theorem still_tail {P : Program} {id : Nat} {Q : Exit → Act → World → Prop} {a : Act} {w : World} {l : List Oper} (n : Nat) (hm : P.follows .mixedOrders = true) (hB : Region.lexTailB .any l.toArray n = true)
    (h : wpStill P l.toArray w.drew (fun a' => wpList P l.toArray Q (l.drop n) a' w.drew) (l.take n) a) : (Code.region id l.toArray true).wp P Q a w :=
  wp_region_still_tail n hm hB h
/-! ### Which blocks may have turned -/
/-- Of what was there in w, w' differs at the blocks of S alone. -/
structure Upd (S : List Nat) (w w' : World) : Prop where
  os : w'.os = w.os
  tape : w'.tape = w.tape
  output : w'.output = w.output
  size : w.heap.size ≤ w'.heap.size
  block : ∀ i, i < w.heap.size → i ∉ S → w'.heap[i]? = w.heap[i]?
theorem Upd.refl (S : List Nat) (w : World) : Upd S w w := ⟨rfl, rfl, rfl, Nat.le_refl _, fun _ _ _ => rfl⟩
theorem Upd.step {S T : List Nat} {w w1 w2 : World} (h : Upd S w w1) (g : Upd T w1 w2) (hT : ∀ i ∈ T, i ∈ S ∨ w.heap.size ≤ i) : Upd S w w2 :=
  ⟨g.os.trans h.os, g.tape.trans h.tape, g.output.trans h.output, Nat.le_trans h.size g.size, fun i hi hS =>
    (g.block i (Nat.lt_of_lt_of_le hi h.size) (fun hm => by rcases hT i hm with h' | h'; exact hS h'; omega)).trans (h.block i hi hS)⟩
theorem Upd.mono {S T : List Nat} {w w' : World} (h : Upd S w w') (hT : ∀ i ∈ S, i ∈ T ∨ w.heap.size ≤ i) : Upd T w w' :=
  (Upd.refl T w).step h hT
theorem Upd.trans {S : List Nat} {w w1 w2 : World} (h : Upd S w w1) (g : Upd S w1 w2) : Upd S w w2 := h.step g fun _ h => .inl h
theorem Upd.below {S : List Nat} {w w' : World} {B : Nat} (h : Upd S w w') (hB : ∀ i ∈ S, B ≤ i) (hs : B ≤ w.heap.size) : Below B w w' :=
  ⟨h.os, h.tape, h.output, h.size, fun k hk => h.block k (by omega) (fun hm => by have := hB k hm; omega)⟩
theorem Upd.of_below {w w' : World} (h : Below w.heap.size w w') (S : List Nat) : Upd S w w' :=
  ⟨h.os, h.tape, h.output, h.size, fun k hk _ => h.block k hk⟩
theorem Upd.of_grown {w w' : World} {b : Nat} (h : w.grownBy w' (some b)) : Upd [b] w w' :=
  ⟨h.os, h.tape, h.output, h.size, fun k hk hm => h.block k hk (fun e => hm (by simp at e; simp [e]))⟩
theorem Upd.drewN {S : List Nat} {w w' : World} (h : Upd S w w') (n : Nat) : Upd S w (w'.drewN n) := ⟨h.os, h.tape, h.output, h.size, h.block⟩
theorem Upd.drew {S : List Nat} {w w' : World} (h : Upd S w w') : Upd S w w'.drew := ⟨h.os, h.tape, h.output, h.size, h.block⟩
theorem Upd.alloc {S : List Nat} {w w' : World} (h : Upd S w w') (o : Obj) : Upd S w (w'.alloc o) :=
  h.step (T := []) ⟨rfl, rfl, rfl, by simp, fun k hk _ => Below.heap_alloc _ _ _ hk⟩ (by simp)
theorem Upd.setCell {S : List Nat} {w w' : World} (h : Upd S w w') (a : Addr) (u : Value) (ha : a.block ∈ S ∨ w.heap.size ≤ a.block) : Upd S w (w'.setCell a u) :=
  h.step (T := [a.block]) ⟨rfl, rfl, rfl, by simp [World.setCell], fun k hk hm => Below.heap_setCell _ _ _ _ (by simpa using hm)⟩ (by simpa using ha)
theorem Upd.heap {S : List Nat} {w w' : World} (h : Upd S w w') {b : Nat} {o : Obj} (hb : w.heap[b]? = some o) (hS : b ∉ S) : w'.heap[b]? = some o :=
  (h.block b (Array.getElem?_eq_some_iff.1 hb).1 hS).trans hb
theorem Upd.cell {S : List Nat} {w w' : World} (h : Upd S w w') {a : Addr} {v : Value} (ha : w.cell? a = some v) (hS : a.block ∉ S) : w'.cell? a = some v := by
  have hlt : a.block < w.heap.size := by
    unfold World.cell? at ha
    split at ha
    · exact (Array.getElem?_eq_some_iff.1 ‹_›).1
    · cases ha
  rw [World.cell?_of_block (w := w) (h.block _ hlt hS)]
  exact ha
theorem Upd.rcell {b : Nat} {w w' : World} (h : Upd [b] w w') : ∀ c o, c < w.heap.size → c ≠ b → w'.cell? ⟨c, o, none⟩ = w.cell? ⟨c, o, none⟩ := fun c o hc hb =>
  World.cell?_of_block (w := w) (h.block c hc (by simpa using hb))
theorem Upd.rfrozen {b : Nat} {w w' : World} (h : Upd [b] w w') : ∀ c o, c < w.heap.size → c ≠ b → w'.frozen? ⟨c, o, none⟩ = w.frozen? ⟨c, o, none⟩ := fun c o hc hb =>
  World.frozen?_of_block (w := w) (h.block c hc (by simpa using hb))
theorem frozen_of {w : World} {b : Nat} {c : Array Value} {T : TypeId} (h : w.heap[b]? = some (.cells c T (0, 0))) (o : Nat) : w.frozen? ⟨b, o, none⟩ = false := by
  simp [World.frozen?, h]
theorem cell_of {w : World} {b : Nat} {c : Array Value} {T : TypeId} {f : Nat × Nat} (h : w.heap[b]? = some (.cells c T f)) (o : Nat) : w.cell? ⟨b, o, none⟩ = c[o]? := by
  simp [World.cell?, h]
theorem alloc_size (w : World) (o : Obj) : (w.alloc o).heap.size = w.heap.size + 1 := by simp
theorem Upd.size1 {S : List Nat} {w w' : World} {o : Obj} (h : Upd S (w.alloc o) w') : w.heap.size + 1 ≤ w'.heap.size := by have := h.size; simpa using this
theorem heap_setCell_same {w : World} {b : Nat} {c : Array Value} {T : TypeId} {f : Nat × Nat} (h : w.heap[b]? = some (.cells c T f)) (o : Nat) (v : Value) : (w.setCell ⟨b, o, none⟩ v).heap[b]? = some (.cells (c.setIfInBounds o v) T f) := by
  simp [World.setCell, Array.getElem?_modify, h]
theorem lt_of_heap {w : World} {b : Nat} {o : Obj} (h : w.heap[b]? = some o) : b < w.heap.size := (Array.getElem?_eq_some_iff.1 h).1
theorem heap_alloc_new (w : World) (o : Obj) : (w.alloc o).heap[w.heap.size]? = some o := (heap_alloc w o).1
theorem heap_alloc_old {w : World} {b : Nat} {o : Obj} (h : w.heap[b]? = some o) (o' : Obj) : (w.alloc o').heap[b]? = some o := by
  rw [Below.heap_alloc _ _ _ (lt_of_heap h)]; exact h
/-! ### Lists of pairs -/
section
variable {K V : Type} [DecidableEq K]
def aget : List (K × V) → K → Option V
  | [], _ => none
  | (k, v) :: l, x => if k = x then some v else aget l x
def aput : List (K × V) → K → V → List (K × V)
  | [], x, v => [(x, v)]
  | (k, u) :: l, x, v => if k = x then (x, v) :: l else (k, u) :: aput l x v
def adel (l : List (K × V)) (x : K) : List (K × V) := l.filter fun p => decide (p.1 ≠ x)
theorem aget_aput_self (l : List (K × V)) (x : K) (v : V) : aget (aput l x v) x = some v := by
  induction l with
  | nil => simp [aput, aget]
  | cons p l ih => obtain ⟨k, u⟩ := p; unfold aput; split <;> simp_all [aget]
theorem aget_aput_ne (l : List (K × V)) {x y : K} (v : V) (h : x ≠ y) : aget (aput l x v) y = aget l y := by
  induction l with
  | nil => simp [aput, aget, h]
  | cons p l ih =>
    obtain ⟨k, u⟩ := p
    unfold aput
    split
    · rename_i e; subst e; simp [aget, h]
    · simp [aget, ih]
theorem aget_aput (l : List (K × V)) (x y : K) (v : V) : aget (aput l x v) y = if x = y then some v else aget l y := by
  split
  · rename_i h; subst h; exact aget_aput_self l x v
  · rename_i h; exact aget_aput_ne l v h
theorem aget_adel (l : List (K × V)) (x y : K) : aget (adel l x) y = if x = y then none else aget l y := by
  induction l with
  | nil => simp [adel, aget]
  | cons p l ih =>
    obtain ⟨k, u⟩ := p
    unfold adel at ih ⊢
    by_cases hk : k = x
    · subst hk
      rw [List.filter_cons_of_neg (by simp), ih]
      split
      · rfl
      · rename_i h; rw [aget, if_neg h]
    · rw [List.filter_cons_of_pos (by simp [hk])]
      by_cases hy : x = y
      · subst hy; rw [aget, if_neg hk, ih, if_pos rfl, if_pos rfl]
      · simp only [aget, ih, hy, if_false]
theorem aget_none_iff (l : List (K × V)) (x : K) : aget l x = none ↔ x ∉ l.map (·.1) := by
  induction l with
  | nil => simp [aget]
  | cons p l ih => obtain ⟨k, u⟩ := p; by_cases h : k = x <;> simp_all [aget, eq_comm]
theorem aget_mem {l : List (K × V)} {x : K} {v : V} (h : aget l x = some v) : (x, v) ∈ l := by
  induction l with
  | nil => simp [aget] at h
  | cons p l ih =>
    obtain ⟨k, u⟩ := p
    unfold aget at h
    split at h
    · rename_i e; cases h; subst e; simp
    · simp [ih h]
theorem aget_of_mem {l : List (K × V)} (hn : (l.map (·.1)).Nodup) {x : K} {v : V} (h : (x, v) ∈ l) : aget l x = some v := by
  induction l with
  | nil => simp at h
  | cons p l ih =>
    obtain ⟨k, u⟩ := p
    simp only [List.map_cons, List.nodup_cons] at hn
    rcases List.mem_cons.1 h with h | h
    · cases h; simp [aget]
    · unfold aget
      rw [if_neg (fun e : k = x => hn.1 (List.mem_map.2 ⟨_, h, e.symm⟩))]
      exact ih hn.2 h
theorem aput_new {l : List (K × V)} {x : K} (v : V) (h : x ∉ l.map (·.1)) : aput l x v = l ++ [(x, v)] := by
  induction l with
  | nil => rfl
  | cons p l ih =>
    obtain ⟨k, u⟩ := p
    simp only [List.map_cons, List.mem_cons, not_or] at h
    unfold aput
    rw [if_neg (Ne.symm h.1), ih h.2]; rfl
theorem aput_at {l : List (K × V)} (hn : (l.map (·.1)).Nodup) {x : K} {u : V} (v : V) {j : Nat} (hj : l[j]? = some (x, u)) : aput l x v = l.set j (x, v) := by
  induction l generalizing j with
  | nil => simp at hj
  | cons p l ih =>
    obtain ⟨k, t⟩ := p
    simp only [List.map_cons, List.nodup_cons] at hn
    unfold aput
    cases j with
    | zero => simp at hj; rw [if_pos hj.1]; rfl
    | succ j =>
      simp only [List.getElem?_cons_succ] at hj
      have hm : (x, u) ∈ l := List.mem_of_getElem? hj
      rw [if_neg (fun e : k = x => hn.1 (List.mem_map.2 ⟨_, hm, e.symm⟩)), ih hn.2 hj]; rfl
theorem adel_none {l : List (K × V)} {x : K} (h : x ∉ l.map (·.1)) : adel l x = l := by
  unfold adel
  rw [List.filter_eq_self]
  intro p hp
  simp only [decide_eq_true_eq]
  exact fun e => h (e ▸ List.mem_map.2 ⟨p, hp, rfl⟩)
theorem adel_at {l : List (K × V)} (hn : (l.map (·.1)).Nodup) {x : K} {u : V} {j : Nat} (hj : l[j]? = some (x, u)) : adel l x = l.eraseIdx j := by
  induction l generalizing j with
  | nil => simp at hj
  | cons p l ih =>
    obtain ⟨k, t⟩ := p
    simp only [List.map_cons, List.nodup_cons] at hn
    cases j with
    | zero =>
      simp only [List.getElem?_cons_zero, Option.some.injEq, Prod.mk.injEq] at hj
      obtain ⟨rfl, rfl⟩ := hj
      have : adel ((k, t) :: l) k = adel l k := by unfold adel; rw [List.filter_cons_of_neg (by simp)]
      rw [this, adel_none hn.1]; rfl
    | succ j =>
      simp only [List.getElem?_cons_succ] at hj
      have hm : (x, u) ∈ l := List.mem_of_getElem? hj
      have hne : k ≠ x := fun e => hn.1 (e ▸ List.mem_map.2 ⟨_, hm, rfl⟩)
      have : adel ((k, t) :: l) x = (k, t) :: adel l x := by unfold adel; rw [List.filter_cons_of_pos (by simp [hne])]
      rw [this, ih hn.2 hj]; rfl
theorem keys_aput (l : List (K × V)) (x : K) (v : V) : (aput l x v).map (·.1) = if x ∈ l.map (·.1) then l.map (·.1) else l.map (·.1) ++ [x] := by
  induction l with
  | nil => simp [aput]
  | cons p l ih =>
    obtain ⟨k, u⟩ := p
    unfold aput
    by_cases h : k = x
    · subst h; simp
    · simp only [if_neg h, List.map_cons, ih, List.mem_cons, Ne.symm h, false_or]
      split <;> simp
theorem mem_aput {l : List (K × V)} {x : K} {v : V} {p : K × V} (h : p ∈ aput l x v) : p = (x, v) ∨ p ∈ l := by
  induction l with
  | nil => simp [aput] at h; exact .inl h
  | cons q l ih =>
    obtain ⟨k, u⟩ := q
    unfold aput at h
    split at h
    · rcases List.mem_cons.1 h with h | h
      · exact .inl h
      · exact .inr (by simp [h])
    · rcases List.mem_cons.1 h with h | h
      · exact .inr (by simp [h])
      · rcases ih h with h | h
        · exact .inl h
        · exact .inr (by simp [h])
theorem aput_map_eq {B : Type} {l : List (K × V)} {x : K} {v v' : V} (h : aget l x = some v) (f : K × V → B) (hf : f (x, v') = f (x, v)) : (aput l x v').map f = l.map f := by
  induction l with
  | nil => simp [aget] at h
  | cons p l ih =>
    obtain ⟨k, u⟩ := p
    unfold aget at h
    unfold aput
    split at h
    · rename_i e; cases h; subst e; simp [hf]
    · rename_i e; simp [e, ih h]
theorem mem_aput_ne {l : List (K × V)} (hn : (l.map (·.1)).Nodup) {x : K} {v : V} {p : K × V} (h : p ∈ aput l x v) : p = (x, v) ∨ (p ∈ l ∧ p.1 ≠ x) := by
  induction l with
  | nil => simp [aput] at h; exact .inl h
  | cons q l ih =>
    obtain ⟨k, u⟩ := q
    simp only [List.map_cons, List.nodup_cons] at hn
    unfold aput at h
    split at h
    · rename_i e
      subst e
      rcases List.mem_cons.1 h with h | h
      · exact .inl h
      · exact .inr ⟨by simp [h], fun e => hn.1 (List.mem_map.2 ⟨p, h, e⟩)⟩
    · rename_i e
      rcases List.mem_cons.1 h with h | h
      · exact .inr ⟨by simp [h], by rw [h]; exact e⟩
      · rcases ih hn.2 h with h | ⟨h, h'⟩
        · exact .inl h
        · exact .inr ⟨by simp [h], h'⟩
theorem inj_of_nodup {A B : Type} {l : List A} {f : A → B} (hn : (l.map f).Nodup) {a b : A} (ha : a ∈ l) (hb : b ∈ l) (h : f a = f b) : a = b := by
  induction l with
  | nil => simp at ha
  | cons c l ih =>
    simp only [List.map_cons, List.nodup_cons] at hn
    rcases List.mem_cons.1 ha with ha | ha <;> rcases List.mem_cons.1 hb with hb | hb
    · rw [ha, hb]
    · rw [ha] at h; exact absurd (List.mem_map.2 ⟨b, hb, h.symm⟩) hn.1
    · rw [hb] at h; exact absurd (List.mem_map.2 ⟨a, ha, h⟩) hn.1
    · exact ih hn.2 ha hb
theorem mem_adel {l : List (K × V)} {x : K} {p : K × V} (h : p ∈ adel l x) : p ∈ l ∧ p.1 ≠ x := by
  unfold adel at h
  obtain ⟨h1, h2⟩ := List.mem_filter.1 h
  exact ⟨h1, by simpa using h2⟩
end
/-! ### A map of memory -/
/-- What an operation on a map asks of its keys. -/
structure Kops (P : Program) (k : TypeId) {K : Type} (ek : K → Value) (ok : K → Prop) : Prop where
  inj : ∀ x y, ek x = ek y → x = y
  check : ∀ (w : World) (em : Bool) (x : K), ok x → (Instr.checkKey em 10000 k (ek x)).run P w = .ok () w
  find : ∀ (w : World) (x : K), ok x → ∀ es : List MapEntry, (∀ e ∈ es, ∃ y, ok y ∧ e.key = ek y) →
    ((Instr.findKey k (ek x) es).run P w = .ok none w ∧ ∀ e ∈ es, e.key ≠ ek x) ∨ ∃ j e, (Instr.findKey k (ek x) es).run P w = .ok (some (j, e.val)) w ∧ es[j]? = some e ∧ e.key = ek x
  stays : ∀ (w : World) (x : K), ok x → (Instr.keyThatStays (ek x) (ek x)).run P w = .ok (ek x) w
theorem Kops.of {P : Program} {k : TypeId} {K : Type} {ek : K → Value} {ok : K → Prop} (Y : Maps.Keyed P k) (hi : ∀ x y, ek x = ek y → x = y) (hr : ∀ x, ok x → ∃ l, keyOf P k (ek x) = some l) : Kops P k ek ok where
  inj := hi
  check w em x hx := by obtain ⟨l, hl⟩ := hr x hx; exact Y.check w em hl
  find w x hx es hes := by
    obtain ⟨l, hl⟩ := hr x hx
    exact Y.find w hl es (fun e he => by obtain ⟨y, hy, e1⟩ := hes e he; rw [e1]; exact hr y hy)
  stays w x hx := by obtain ⟨l, hl⟩ := hr x hx; exact Y.stays w hl
theorem kops_int {P : Program} {k : TypeId} (hk : P.underlying k = some (.int .i64)) : Kops P k (Value.int .i64) (fun a : Int => (Lit.int .i64 a).wf = true) :=
  Kops.of (Maps.int_keyed hk) (fun _ _ h => by cases h; rfl) (fun _ h => ⟨_, Maps.keyOf_int_mk hk h⟩)
section
variable {K V : Type} [DecidableEq K]
/-- Block b is a map that holds the pairs l. -/
def MapAt (ek : K → Value) (ev : V → Value) (ok : K → Prop) (w : World) (b : Nat) (l : List (K × V)) : Prop :=
  ∃ es clock, w.heap[b]? = some (.map es clock) ∧ Stamped es clock ∧ es.toList.map (fun e => (e.key, e.val)) = l.map (fun p => (ek p.1, ev p.2)) ∧ ∀ p ∈ l, ok p.1
/-- .. and n is the stamp of x's entry. -/
def MapStamp (ek : K → Value) (ev : V → Value) (ok : K → Prop) (w : World) (b : Nat) (l : List (K × V)) (x : K) (n : Nat) : Prop :=
  ∃ es clock, w.heap[b]? = some (.map es clock) ∧ Stamped es clock ∧ es.toList.map (fun e => (e.key, e.val)) = l.map (fun p => (ek p.1, ev p.2)) ∧ (∀ p ∈ l, ok p.1) ∧ ∃ e ∈ es.toList, e.born = n ∧ e.key = ek x
variable {ek : K → Value} {ev : V → Value} {ok : K → Prop} {w w' : World} {b : Nat} {l : List (K × V)} {P : Program} {k t e : TypeId}
theorem MapStamp.map {x : K} {n : Nat} (h : MapStamp ek ev ok w b l x n) : MapAt ek ev ok w b l := by
  obtain ⟨es, c, h1, h2, h3, h4, _⟩ := h
  exact ⟨es, c, h1, h2, h3, h4⟩
theorem MapAt.same_ev {x : K} {v v' : V} (h : MapAt ek ev ok w b l) (hg : aget l x = some v) (he : ev v' = ev v) : MapAt ek ev ok w b (aput l x v') := by
  obtain ⟨es, c, h1, h2, h3, h4⟩ := h
  exact ⟨es, c, h1, h2, by rw [aput_map_eq hg (fun p => (ek p.1, ev p.2)) (by simp [he])]; exact h3, fun p hp => by
    rcases mem_aput hp with rfl | hp
    · exact h4 (x, v) (aget_mem hg)
    · exact h4 p hp⟩
theorem MapAt.lt (h : MapAt ek ev ok w b l) : b < w.heap.size := by
  obtain ⟨es, c, h1, _⟩ := h
  exact lt_of_heap h1
theorem MapAt.of_heap (h : MapAt ek ev ok w b l) (hb : w'.heap[b]? = w.heap[b]?) : MapAt ek ev ok w' b l := by
  obtain ⟨es, c, h1, h2⟩ := h
  exact ⟨es, c, hb.trans h1, h2⟩
theorem MapStamp.of_heap {x : K} {n : Nat} (h : MapStamp ek ev ok w b l x n) (hb : w'.heap[b]? = w.heap[b]?) : MapStamp ek ev ok w' b l x n := by
  obtain ⟨es, c, h1, h2⟩ := h
  exact ⟨es, c, hb.trans h1, h2⟩
theorem MapAt.kept {S : List Nat} (h : MapAt ek ev ok w b l) (u : Upd S w w') (hb : b ∉ S) : MapAt ek ev ok w' b l :=
  h.of_heap (u.block b h.lt hb)
theorem MapStamp.kept {S : List Nat} {x : K} {n : Nat} (h : MapStamp ek ev ok w b l x n) (u : Upd S w w') (hb : b ∉ S) : MapStamp ek ev ok w' b l x n :=
  h.of_heap (u.block b h.map.lt hb)
theorem MapAt.alloc (h : MapAt ek ev ok w b l) (o : Obj) : MapAt ek ev ok (w.alloc o) b l := h.kept ((Upd.refl [] w).alloc o) (by simp)
theorem MapAt.setCell (h : MapAt ek ev ok w b l) (a : Addr) (u : Value) (ha : a.block ≠ b) : MapAt ek ev ok (w.setCell a u) b l :=
  h.of_heap (Below.heap_setCell _ _ _ _ (Ne.symm ha))
theorem MapAt.drew (h : MapAt ek ev ok w b l) : MapAt ek ev ok w.drew b l := h
theorem MapAt.drewN (h : MapAt ek ev ok w b l) (n : Nat) : MapAt ek ev ok (w.drewN n) b l := h
theorem MapAt.made (ek : K → Value) (ev : V → Value) (ok : K → Prop) (w : World) : MapAt ek ev ok (w.alloc (.map #[] 0)) w.heap.size [] :=
  ⟨#[], 0, (heap_alloc w _).1, stamped_empty 0, rfl, by simp⟩
theorem MapAt.oks (h : MapAt ek ev ok w b l) : ∀ p ∈ l, ok p.1 := by
  obtain ⟨es, c, _, _, _, h4⟩ := h
  exact h4
theorem keys_of {es : Array MapEntry} (h : es.toList.map (fun e => (e.key, e.val)) = l.map (fun p => (ek p.1, ev p.2))) : es.toList.map (·.key) = l.map (fun p => ek p.1) := by
  have := congrArg (List.map Prod.fst) h
  simpa [List.map_map, Function.comp_def] using this
theorem nodup_of (hi : ∀ x y, ek x = ek y → x = y) {es : Array MapEntry} {c : Nat} (hs : Stamped es c) (h : es.toList.map (fun e => (e.key, e.val)) = l.map (fun p => (ek p.1, ev p.2))) : (l.map (·.1)).Nodup := by
  have h3 := hs.2.2
  rw [keys_of h] at h3
  rw [List.nodup_iff_pairwise_ne, List.pairwise_map] at h3 ⊢
  exact h3.imp fun hne e => hne (by rw [e])
theorem MapAt.nodup (h : MapAt ek ev ok w b l) (Y : Kops P k ek ok) : (l.map (·.1)).Nodup := by
  obtain ⟨es, c, _, h2, h3, _⟩ := h
  exact nodup_of Y.inj h2 h3
theorem MapAt.find (Y : Kops P k ek ok) {es : Array MapEntry} {c : Nat} (hs : Stamped es c) (hl : es.toList.map (fun e => (e.key, e.val)) = l.map (fun p => (ek p.1, ev p.2))) (hok : ∀ p ∈ l, ok p.1) (w : World) {x : K} (hx : ok x) :
    ((Instr.findKey k (ek x) es.toList).run P w = .ok none w ∧ x ∉ l.map (·.1) ∧ ∀ e ∈ es.toList, e.key ≠ ek x) ∨
    ∃ j e v, (Instr.findKey k (ek x) es.toList).run P w = .ok (some (j, e.val)) w ∧ es[j]? = some e ∧ e.key = ek x ∧ e.val = ev v ∧ l[j]? = some (x, v) ∧ aget l x = some v := by
  have hes : ∀ e ∈ es.toList, ∃ y, ok y ∧ e.key = ek y := fun e he => by
    have : e.key ∈ es.toList.map (·.key) := List.mem_map.2 ⟨e, he, rfl⟩
    rw [keys_of hl] at this
    obtain ⟨p, hp, e1⟩ := List.mem_map.1 this
    exact ⟨p.1, hok p hp, e1.symm⟩
  rcases Y.find w x hx es.toList hes with ⟨h1, h2⟩ | ⟨j, e, h1, h2, h3⟩
  · refine .inl ⟨h1, fun hm => ?_, h2⟩
    obtain ⟨p, hp, rfl⟩ := List.mem_map.1 hm
    have : ek p.1 ∈ l.map (fun p => ek p.1) := List.mem_map.2 ⟨p, hp, rfl⟩
    rw [← keys_of hl] at this
    obtain ⟨e, he, e1⟩ := List.mem_map.1 this
    exact h2 e he e1
  · have hj : (l.map (fun p => (ek p.1, ev p.2)))[j]? = some (e.key, e.val) := by
      rw [← hl, List.getElem?_map, h2]; rfl
    rw [List.getElem?_map] at hj
    cases hlj : l[j]? with
    | none => rw [hlj] at hj; cases hj
    | some p =>
      obtain ⟨y, v⟩ := p
      rw [hlj] at hj
      simp only [Option.map_some, Option.some.injEq, Prod.mk.injEq] at hj
      obtain rfl : y = x := Y.inj _ _ (hj.1.trans h3)
      exact .inr ⟨j, e, v, h1, by simpa using h2, h3, hj.2.symm, hlj.symm ▸ rfl, aget_of_mem (nodup_of Y.inj hs hl) (List.mem_of_getElem? hlj)⟩
/-- What a look-up answers. -/
def lookV (ev : V → Value) (z : Value) (c : Bool) (o : Option V) : Value :=
  match o with
  | some v => if c then .tuple #[ev v, .bool true] else ev v
  | none => if c then .tuple #[z, .bool false] else z
theorem MapAt.lookup (h : MapAt ek ev ok w b l) (Y : Kops P k ek ok) (ht : P.underlying t = some (.map k e)) {z : Value} (hz : (zeroValue e).run P w = .ok z w) {x : K} (hx : ok x) (c : Bool) :
    (Instr.lookup t (.map (some b)) (ek x) c).run P w = .ok (lookV ev z c (aget l x)) w := by
  obtain ⟨es, cl, h1, h2, h3, h4⟩ := h
  rcases MapAt.find Y h2 h3 h4 w hx with ⟨f1, f2, _⟩ | ⟨j, e0, v, f1, f2, f3, f4, f5, f6⟩
  · have hg : aget l x = none := (aget_none_iff l x).2 f2
    simp [Instr.lookup, run_underlying ht, MapKept.run_getObj_map h1, Y.check w _ x hx, f1, hz, hg, lookV, Result.andThen]
  · simp [Instr.lookup, run_underlying ht, MapKept.run_getObj_map h1, Y.check w _ x hx, f1, f6, lookV, Result.andThen, f4]
theorem toList_modify_set {es : Array MapEntry} {j : Nat} {e0 : MapEntry} (hj : es[j]? = some e0) (f : MapEntry → MapEntry) : (es.modify j f).toList = es.toList.set j (f e0) := by
  apply List.ext_getElem?
  intro i
  simp only [Array.getElem?_toList, Array.getElem?_modify, List.getElem?_set]
  have hlt : j < es.toList.length := by simpa using (Array.getElem?_eq_some_iff.1 hj).1
  by_cases hij : j = i
  · subst hij; simp only [if_pos rfl, hj, Option.map_some, hlt, if_true]
  · simp [hij]
theorem set_same {α : Type} {l : List α} {j : Nat} {a : α} (h : l[j]? = some a) : l.set j a = l := by
  apply List.ext_getElem?
  intro i
  rw [List.getElem?_set]
  split
  · rename_i e; subst e
    obtain ⟨hl, rfl⟩ := List.getElem?_eq_some_iff.1 h
    simp [hl]
  · rfl
theorem setBlock_upd {w : World} {b : Nat} {o o' : Obj} (hb : w.heap[b]? = some o) : Upd [b] w (setBlock w b o') :=
  ⟨rfl, rfl, rfl, by simp [setBlock], fun i hi hm => (heap_set hb).2 i (by simpa using hm)⟩
theorem MapAt.update (h : MapAt ek ev ok w b l) (Y : Kops P k ek ok) (ht : P.underlying t = some (.map k e)) {x : K} (hx : ok x) (v : V) :
    ∃ w', (Instr.mapUpdate t (.map (some b)) (ek x) (ev v)).run P w = .ok () w' ∧ MapAt ek ev ok w' b (aput l x v) ∧ Upd [b] w w' ∧ w'.heap.size = w.heap.size := by
  obtain ⟨es, cl, h1, h2, h3, h4⟩ := h
  have hok : ∀ p ∈ aput l x v, ok p.1 := fun p hp => by
    rcases mem_aput hp with rfl | hp
    · exact hx
    · exact h4 p hp
  rcases MapAt.find Y h2 h3 h4 w hx with ⟨f1, f2, f2'⟩ | ⟨j, e0, u, f1, f2, f3, f4, f5, f6⟩
  · refine ⟨setBlock w b (.map (es.push { key := ek x, val := ev v, born := cl }) (cl + 1)), ?_, ⟨_, _, (heap_set h1).1, stamped_push h2 f2', ?_, hok⟩, setBlock_upd h1, by simp [setBlock]⟩
    · simp [Instr.mapUpdate, run_underlying ht, MapKept.run_getObj_map h1, Y.check w _ x hx, f1, Result.andThen, MapKept.run_setObj_map _ h1, setBlock]
    · rw [aput_new v f2]; simp [h3]
  · refine ⟨setBlock w b (.map (es.modify j fun e => { e with key := ek x, val := ev v }) cl), ?_, ⟨_, _, (heap_set h1).1, ?_, ?_, hok⟩, setBlock_upd h1, by simp [setBlock]⟩
    · simp [Instr.mapUpdate, run_underlying ht, MapKept.run_getObj_map h1, Y.check w _ x hx, f1, Result.andThen, MapKept.run_setObj_map _ h1, setBlock, f2, f3, Y.stays w x hx]
    · exact stamped_modify h2 j _ (fun _ _ => rfl) (fun e' _ he' => by rw [f2] at he'; cases he'; exact f3.symm)
    · rw [toList_modify_set f2, aput_at (nodup_of Y.inj h2 h3) v f5, List.map_set, List.map_set, h3]
theorem MapAt.drop (h : MapAt ek ev ok w b l) (Y : Kops P k ek ok) (ht : P.underlying t = some (.map k e)) {x : K} (hx : ok x) (tys : Array TypeId) (hty : tys[0]? = some t) (ty : TypeId) :
    ∃ w', (Builtin.delete_ tys ty #[.map (some b), ek x]).run P w = .ok (.tuple #[]) w' ∧ MapAt ek ev ok w' b (adel l x) ∧ Upd [b] w w' ∧ w'.heap.size = w.heap.size := by
  obtain ⟨es, cl, h1, h2, h3, h4⟩ := h
  have hok : ∀ p ∈ adel l x, ok p.1 := fun p hp => h4 p (mem_adel hp).1
  rcases MapAt.find Y h2 h3 h4 w hx with ⟨f1, f2, f2'⟩ | ⟨j, e0, u, f1, f2, f3, f4, f5, f6⟩
  · refine ⟨setBlock w b (.map es cl), ?_, ⟨_, _, (heap_set h1).1, h2, ?_, hok⟩, setBlock_upd h1, by simp [setBlock]⟩
    · simp [Builtin.delete_, hty, run_underlying ht, MapKept.run_getObj_map h1, Y.check w _ x hx, f1, Result.andThen, MapKept.run_setObj_map _ h1, setBlock]
    · rw [adel_none f2]; exact h3
  · refine ⟨setBlock w b (.map (es.eraseIdxIfInBounds j) cl), ?_, ⟨_, _, (heap_set h1).1, stamped_erase h2 j, ?_, hok⟩, setBlock_upd h1, by simp [setBlock]⟩
    · simp [Builtin.delete_, hty, run_underlying ht, MapKept.run_getObj_map h1, Y.check w _ x hx, f1, Result.andThen, MapKept.run_setObj_map _ h1, setBlock]
    · have hlt := (Array.getElem?_eq_some_iff.1 f2).1
      rw [adel_at (nodup_of Y.inj h2 h3) f5]
      unfold Array.eraseIdxIfInBounds
      rw [dif_pos hlt, Array.toList_eraseIdx, map_eraseIdx, map_eraseIdx, h3]
theorem MapAt.len (h : MapAt ek ev ok w b l) (ht : P.underlying t = some (.map k e)) (ty : TypeId) : (Builtin.len_ #[t] ty #[.map (some b)]).run P w = .ok (.int .i64 l.length) w := by
  obtain ⟨es, cl, h1, h2, h3, h4⟩ := h
  have hs : es.size = l.length := by have := congrArg List.length h3; simpa using this
  simp [Builtin.len_, run_underlying ht, MapKept.run_getObj_map h1, Result.andThen, hs, goInt]
theorem MapAt.entry (h : MapAt ek ev ok w b l) (Y : Kops P k ek ok) (ht : P.underlying t = some (.map k e)) {z : V} (hz : ∀ w, (zeroValue e).run P w = .ok (ev z) w) {x : K} (hx : ok x) :
    ∃ w' n, (Instr.mapEntry t (.map (some b)) (ek x)).run P w = .ok (.tuple #[ev ((aget l x).getD z), goInt (n : Nat)]) w' ∧ MapStamp ek ev ok w' b (aput l x ((aget l x).getD z)) x n ∧ Upd [b] w w' ∧ w'.heap.size = w.heap.size := by
  obtain ⟨es, cl, h1, h2, h3, h4⟩ := h
  have hok : ∀ v, ∀ p ∈ aput l x v, ok p.1 := fun v p hp => by
    rcases mem_aput hp with rfl | hp
    · exact hx
    · exact h4 p hp
  rcases MapAt.find Y h2 h3 h4 w hx with ⟨f1, f2, f2'⟩ | ⟨j, e0, u, f1, f2, f3, f4, f5, f6⟩
  · have hg : aget l x = none := (aget_none_iff l x).2 f2
    refine ⟨setBlock w b (.map (es.push { key := ek x, val := ev z, born := cl }) (cl + 1)), cl, ?_, ⟨_, _, (heap_set h1).1, stamped_push h2 f2', ?_, hok _, ?_⟩, setBlock_upd h1, by simp [setBlock]⟩
    · simp [Instr.mapEntry, run_underlying ht, MapKept.run_getObj_map h1, Y.check w _ x hx, f1, Result.andThen, MapKept.run_setObj_map _ h1, setBlock, hz, hg]
    · rw [aput_new _ f2]; simp [h3, hg]
    · exact ⟨_, by simp; exact .inr rfl, rfl, rfl⟩
  · refine ⟨setBlock w b (.map (es.modify j fun e => { e with key := ek x }) cl), e0.born, ?_, ⟨_, _, (heap_set h1).1, ?_, ?_, hok _, ?_⟩, setBlock_upd h1, by simp [setBlock]⟩
    · simp [Instr.mapEntry, run_underlying ht, MapKept.run_getObj_map h1, Y.check w _ x hx, f1, Result.andThen, MapKept.run_setObj_map _ h1, setBlock, f2, f3, f4, f6, Y.stays w x hx]
    · exact stamped_modify h2 j _ (fun _ _ => rfl) (fun e' _ he' => by rw [f2] at he'; cases he'; exact f3.symm)
    · rw [toList_modify_set f2, aput_at (nodup_of Y.inj h2 h3) _ f5, List.map_set, List.map_set, h3, f6]
      simp only [Option.getD_some, f4]
    · refine ⟨{ e0 with key := ek x }, ?_, rfl, rfl⟩
      rw [toList_modify_set f2]
      exact List.mem_iff_getElem?.2 ⟨j, by rw [List.getElem?_set]; simp [(Array.getElem?_eq_some_iff.1 f2).1]⟩
theorem MapStamp.store {x : K} {n : Nat} (h : MapStamp ek ev ok w b l x n) (Y : Kops P k ek ok) (hx : ok x) (v : V) :
    ∃ w', (Instr.entryStore t (.map (some b)) (goInt n) (ev v)).run P w = .ok () w' ∧ MapAt ek ev ok w' b (aput l x v) ∧ Upd [b] w w' ∧ w'.heap.size = w.heap.size := by
  obtain ⟨es, cl, h1, h2, h3, h4, e0, he0, hb0, hk0⟩ := h
  have hok : ∀ p ∈ aput l x v, ok p.1 := fun p hp => by
    rcases mem_aput hp with rfl | hp
    · exact hx
    · exact h4 p hp
  obtain ⟨j, hj⟩ := List.mem_iff_getElem?.1 he0
  have hj' : es[j]? = some e0 := by simpa using hj
  have hlt := (Array.getElem?_eq_some_iff.1 hj').1
  have hfi : es.findIdx? (fun e => (e.born : Int) == (n : Int)) = some j := by
    rw [Array.findIdx?_eq_some_iff_getElem]
    refine ⟨hlt, ?_, fun i hij => ?_⟩
    · have : es[j] = e0 := by simpa [Array.getElem?_eq_getElem hlt] using hj'
      rw [this, hb0]; simp
    · have hne : es[i].born ≠ n := fun e1 => by
        have hd := h2.2.1
        rw [List.nodup_iff_pairwise_ne, List.pairwise_iff_getElem] at hd
        have := hd i j (by simp; omega) (by simp; omega) hij
        simp only [List.getElem_map, Array.getElem_toList] at this
        have e2 : es[j] = e0 := by simpa [Array.getElem?_eq_getElem hlt] using hj'
        rw [e1, e2, hb0] at this
        exact this rfl
      simp; omega
  have hlj : ∃ u, l[j]? = some (x, u) := by
    have : (l.map (fun p => (ek p.1, ev p.2)))[j]? = some (e0.key, e0.val) := by rw [← h3, List.getElem?_map, hj]; rfl
    rw [List.getElem?_map] at this
    cases hq : l[j]? with
    | none => rw [hq] at this; cases this
    | some p =>
      rw [hq] at this
      simp only [Option.map_some, Option.some.injEq, Prod.mk.injEq] at this
      obtain ⟨y, u⟩ := p
      obtain rfl : y = x := Y.inj _ _ (this.1.trans hk0)
      exact ⟨u, rfl⟩
  obtain ⟨u, hu⟩ := hlj
  refine ⟨setBlock w b (.map (es.modify j fun e => { e with val := ev v }) cl), ?_, ⟨_, _, (heap_set h1).1, ?_, ?_, hok⟩, setBlock_upd h1, by simp [setBlock]⟩
  · simp [Instr.entryStore, MapKept.run_getObj_map h1, Result.andThen, MapKept.run_setObj_map _ h1, setBlock, hfi, goInt, asInt, asIntOf]
  · exact stamped_modify h2 j _ (fun _ _ => rfl) (fun _ _ _ => rfl)
  · rw [toList_modify_set hj', aput_at (nodup_of Y.inj h2 h3) v hu, List.map_set, List.map_set, h3, hk0]
/-! ### .. at the operation -/
theorem wl_mapUpdate {ops : Array Oper} {rest : List Oper} {o : Oper} {a : Act} {Q : Exit → Act → World → Prop} (hg : o.guard = none) (m x v : Operand) (hop : o.op = Op.mapUpdate t m x v) (Y : Kops P k ek ok) (ht : P.underlying t = some (.map k e))
    (hm : a.eval m = .map (some b)) (H : MapAt ek ev ok w b l) (key : K) (val : V) (hx : a.eval x = ek key) (hv : a.eval v = ev val) (hok : ok key)
    (hK : ∀ w', MapAt ek ev ok w' b (aput l key val) → Upd [b] w w' → w'.heap.size = w.heap.size → wpList P ops Q rest (a.put o.dst undef) w') : wpList P ops Q (o :: rest) a w := by
  refine wpList_plain hg fun K' hK' => ?_
  obtain ⟨w', hrun, r1, r2, r3⟩ := H.update Y ht hok val
  unfold Oper.wp
  simp [execOp, hop, hm, hx, hv, hrun, Result.andThen]
  exact hK' _ _ (hK w' r1 r2 r3)
theorem wl_delete {ops : Array Oper} {rest : List Oper} {o : Oper} {a : Act} {Q : Exit → Act → World → Prop} (hg : o.guard = none) (m x : Operand) (tys : Array TypeId) (hty : tys[0]? = some t) (hop : o.op = Op.call { callee := Callee.builtin Builtin.delete, args := #[m, x], argTypes := tys }) (Y : Kops P k ek ok) (ht : P.underlying t = some (.map k e))
    (hm : a.eval m = .map (some b)) (H : MapAt ek ev ok w b l) (key : K) (hx : a.eval x = ek key) (hok : ok key)
    (hK : ∀ w', MapAt ek ev ok w' b (adel l key) → Upd [b] w w' → w'.heap.size = w.heap.size → wpList P ops Q rest (a.put o.dst (.tuple #[])) w') : wpList P ops Q (o :: rest) a w := by
  refine wpList_plain hg fun K' hK' => ?_
  obtain ⟨w', hrun, r1, r2, r3⟩ := H.drop Y ht hok tys hty o.type
  unfold Oper.wp
  simp [execOp, hop, resolve, invoke, builtin, hm, hx, hrun, Result.andThen]
  exact hK' _ _ (hK w' r1 r2 r3)
theorem wl_lookup {ops : Array Oper} {rest : List Oper} {o : Oper} {a : Act} {Q : Exit → Act → World → Prop} (hg : o.guard = none) (m x : Operand) (c : Bool) (hop : o.op = Op.lookup t m x c) (Y : Kops P k ek ok) (ht : P.underlying t = some (.map k e)) {z : Value} (hz : (zeroValue e).run P w = .ok z w)
    (hm : a.eval m = .map (some b)) (H : MapAt ek ev ok w b l) (key : K) (hx : a.eval x = ek key) (hok : ok key)
    (hK : wpList P ops Q rest (a.put o.dst (lookV ev z c (aget l key))) w) : wpList P ops Q (o :: rest) a w := by
  refine wpList_plain hg fun K' hK' => ?_
  have hrun := H.lookup Y ht hz hok c
  unfold Oper.wp
  simp [execOp, hop, hm, hx, hrun, Result.andThen]
  exact hK' _ _ hK
end
end Go.Proofs.Ytgleceijdedlkaa
