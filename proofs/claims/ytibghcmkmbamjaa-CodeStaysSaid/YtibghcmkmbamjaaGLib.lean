/- Own texts, laid one behind the other: MapLib, LawLib, SepLib, PartLib, ByteLib, OpenLib, RoundLib. -/
import Derived.Maps.OwnSet
import Derived.WalkKit
import Derived.Deep.Draws
import Derived.StillTailTactics
import Derived.ProofKit
import Derived.OpenShut
import Derived.ShutString
import Derived.ChangeOld
import Derived.ChangeSame
import Derived.Below
import Derived.SizedLaws
import Derived.Deep.Slices
import Derived.Deep.Fields
import Derived.Carry
import Derived.Maps.AppendAt
import Derived.Laws.OwnMore
import Derived.Laws.MakeOwn
import Derived.Laws.BytesArg
import Derived.Laws.CopyRow
import Derived.OrdersIn
import Derived.Deep.Quiet
import Derived.RangeFuncCalls
import Derived.Deep.RegionHeld3
section
namespace Go.Proofs.Ytibghcmkmbamjaa
open Go.RowKit Go.MapKept Go.ChangeMaps
set_option linter.unusedVariables false
set_option linter.unusedSimpArgs false
set_option linter.unusedSectionVars false
theorem still_tail {P : Program} {id : Nat} {Q : Exit → Act → World → Prop} {a : Act} {w : World} {l : List Oper} (n : Nat) (hm : P.follows .mixedOrders = true) (hB : Region.lexTailB .any l.toArray n = true)
    (h : wpStill P l.toArray w.drew (fun a' => wpList P l.toArray Q (l.drop n) a' w.drew) (l.take n) a) : (Code.region id l.toArray true).wp P Q a w :=
  wp_region_still_tail n hm hB h
/-! ### Which blocks may have turned -/
/-- Of what was there in w, w' differs at the blocks of S alone. -/
structure Upd (S : List Nat) (w w' : World) : Prop where
  os : w'.os = w.os
  tape : w'.tape = w.tape
  output : w'.output = w.output
  size : w.heap.size ≤ w'.heap.size
  block : ∀ i, i < w.heap.size → i ∉ S → w'.heap[i]? = w.heap[i]?
theorem Upd.refl (S : List Nat) (w : World) : Upd S w w := ⟨rfl, rfl, rfl, Nat.le_refl _, fun _ _ _ => rfl⟩
theorem Upd.step {S T : List Nat} {w w1 w2 : World} (h : Upd S w w1) (g : Upd T w1 w2) (hT : ∀ i ∈ T, i ∈ S ∨ w.heap.size ≤ i) : Upd S w w2 :=
  ⟨g.os.trans h.os, g.tape.trans h.tape, g.output.trans h.output, Nat.le_trans h.size g.size, fun i hi hS =>
    (g.block i (Nat.lt_of_lt_of_le hi h.size) (fun hm => by rcases hT i hm with h' | h'; exact hS h'; omega)).trans (h.block i hi hS)⟩
theorem Upd.mono {S T : List Nat} {w w' : World} (h : Upd S w w') (hT : ∀ i ∈ S, i ∈ T ∨ w.heap.size ≤ i) : Upd T w w' :=
  (Upd.refl T w).step h hT
theorem Upd.trans {S : List Nat} {w w1 w2 : World} (h : Upd S w w1) (g : Upd S w1 w2) : Upd S w w2 := h.step g fun _ h => .inl h
theorem Upd.below {S : List Nat} {w w' : World} {B : Nat} (h : Upd S w w') (hB : ∀ i ∈ S, B ≤ i) (hs : B ≤ w.heap.size) : Below B w w' :=
  ⟨h.os, h.tape, h.output, h.size, fun k hk => h.block k (by omega) (fun hm => by have := hB k hm; omega)⟩
theorem Upd.of_below {w w' : World} (h : Below w.heap.size w w') (S : List Nat) : Upd S w w' :=
  ⟨h.os, h.tape, h.output, h.size, fun k hk _ => h.block k hk⟩
theorem Upd.of_grown {w w' : World} {b : Nat} (h : w.grownBy w' (some b)) : Upd [b] w w' :=
  ⟨h.os, h.tape, h.output, h.size, fun k hk hm => h.block k hk (fun e => hm (by simp at e; simp [e]))⟩
theorem Upd.drewN {S : List Nat} {w w' : World} (h : Upd S w w') (n : Nat) : Upd S w (w'.drewN n) := ⟨h.os, h.tape, h.output, h.size, h.block⟩
theorem Upd.drew {S : List Nat} {w w' : World} (h : Upd S w w') : Upd S w w'.drew := ⟨h.os, h.tape, h.output, h.size, h.block⟩
theorem Upd.alloc {S : List Nat} {w w' : World} (h : Upd S w w') (o : Obj) : Upd S w (w'.alloc o) :=
  h.step (T := []) ⟨rfl, rfl, rfl, by simp, fun k hk _ => Below.heap_alloc _ _ _ hk⟩ (by simp)
theorem Upd.setCell {S : List Nat} {w w' : World} (h : Upd S w w') (a : Addr) (u : Value) (ha : a.block ∈ S ∨ w.heap.size ≤ a.block) : Upd S w (w'.setCell a u) :=
  h.step (T := [a.block]) ⟨rfl, rfl, rfl, by simp [World.setCell], fun k hk hm => Below.heap_setCell _ _ _ _ (by simpa using hm)⟩ (by simpa using ha)
theorem Upd.heap {S : List Nat} {w w' : World} (h : Upd S w w') {b : Nat} {o : Obj} (hb : w.heap[b]? = some o) (hS : b ∉ S) : w'.heap[b]? = some o :=
  (h.block b (Array.getElem?_eq_some_iff.1 hb).1 hS).trans hb
theorem Upd.cell {S : List Nat} {w w' : World} (h : Upd S w w') {a : Addr} {v : Value} (ha : w.cell? a = some v) (hS : a.block ∉ S) : w'.cell? a = some v := by
  have hlt : a.block < w.heap.size := by
    unfold World.cell? at ha
    split at ha
    · exact (Array.getElem?_eq_some_iff.1 ‹_›).1
    · cases ha
  rw [World.cell?_of_block (w := w) (h.block _ hlt hS)]
  exact ha
theorem Upd.rcell {b : Nat} {w w' : World} (h : Upd [b] w w') : ∀ c o, c < w.heap.size → c ≠ b → w'.cell? ⟨c, o, none⟩ = w.cell? ⟨c, o, none⟩ := fun c o hc hb =>
  World.cell?_of_block (w := w) (h.block c hc (by simpa using hb))
theorem Upd.rfrozen {b : Nat} {w w' : World} (h : Upd [b] w w') : ∀ c o, c < w.heap.size → c ≠ b → w'.frozen? ⟨c, o, none⟩ = w.frozen? ⟨c, o, none⟩ := fun c o hc hb =>
  World.frozen?_of_block (w := w) (h.block c hc (by simpa using hb))
theorem frozen_of {w : World} {b : Nat} {c : Array Value} {T : TypeId} (h : w.heap[b]? = some (.cells c T (0, 0))) (o : Nat) : w.frozen? ⟨b, o, none⟩ = false := by
  simp [World.frozen?, h]
theorem cell_of {w : World} {b : Nat} {c : Array Value} {T : TypeId} {f : Nat × Nat} (h : w.heap[b]? = some (.cells c T f)) (o : Nat) : w.cell? ⟨b, o, none⟩ = c[o]? := by
  simp [World.cell?, h]
theorem alloc_size (w : World) (o : Obj) : (w.alloc o).heap.size = w.heap.size + 1 := by simp
theorem Upd.size1 {S : List Nat} {w w' : World} {o : Obj} (h : Upd S (w.alloc o) w') : w.heap.size + 1 ≤ w'.heap.size := by have := h.size; simpa using this
theorem heap_setCell_same {w : World} {b : Nat} {c : Array Value} {T : TypeId} {f : Nat × Nat} (h : w.heap[b]? = some (.cells c T f)) (o : Nat) (v : Value) : (w.setCell ⟨b, o, none⟩ v).heap[b]? = some (.cells (c.setIfInBounds o v) T f) := by
  simp [World.setCell, Array.getElem?_modify, h]
theorem lt_of_heap {w : World} {b : Nat} {o : Obj} (h : w.heap[b]? = some o) : b < w.heap.size := (Array.getElem?_eq_some_iff.1 h).1
theorem heap_alloc_new (w : World) (o : Obj) : (w.alloc o).heap[w.heap.size]? = some o := (heap_alloc w o).1
theorem heap_alloc_old {w : World} {b : Nat} {o : Obj} (h : w.heap[b]? = some o) (o' : Obj) : (w.alloc o').heap[b]? = some o := by
  rw [Below.heap_alloc _ _ _ (lt_of_heap h)]; exact h
/-! ### Lists of pairs -/
section
variable {K V : Type} [DecidableEq K]
def aget : List (K × V) → K → Option V
  | [], _ => none
  | (k, v) :: l, x => if k = x then some v else aget l x
def aput : List (K × V) → K → V → List (K × V)
  | [], x, v => [(x, v)]
  | (k, u) :: l, x, v => if k = x then (x, v) :: l else (k, u) :: aput l x v
def adel (l : List (K × V)) (x : K) : List (K × V) := l.filter fun p => decide (p.1 ≠ x)
theorem aget_aput_self (l : List (K × V)) (x : K) (v : V) : aget (aput l x v) x = some v := by
  induction l with
  | nil => simp [aput, aget]
  | cons p l ih => obtain ⟨k, u⟩ := p; unfold aput; split <;> simp_all [aget]
theorem aget_aput_ne (l : List (K × V)) {x y : K} (v : V) (h : x ≠ y) : aget (aput l x v) y = aget l y := by
  induction l with
  | nil => simp [aput, aget, h]
  | cons p l ih =>
    obtain ⟨k, u⟩ := p
    unfold aput
    split
    · rename_i e; subst e; simp [aget, h]
    · simp [aget, ih]
theorem aget_aput (l : List (K × V)) (x y : K) (v : V) : aget (aput l x v) y = if x = y then some v else aget l y := by
  split
  · rename_i h; subst h; exact aget_aput_self l x v
  · rename_i h; exact aget_aput_ne l v h
theorem aget_adel (l : List (K × V)) (x y : K) : aget (adel l x) y = if x = y then none else aget l y := by
  induction l with
  | nil => simp [adel, aget]
  | cons p l ih =>
    obtain ⟨k, u⟩ := p
    unfold adel at ih ⊢
    by_cases hk : k = x
    · subst hk
      rw [List.filter_cons_of_neg (by simp), ih]
      split
      · rfl
      · rename_i h; rw [aget, if_neg h]
    · rw [List.filter_cons_of_pos (by simp [hk])]
      by_cases hy : x = y
      · subst hy; rw [aget, if_neg hk, ih, if_pos rfl, if_pos rfl]
      · simp only [aget, ih, hy, if_false]
theorem aget_none_iff (l : List (K × V)) (x : K) : aget l x = none ↔ x ∉ l.map (·.1) := by
  induction l with
  | nil => simp [aget]
  | cons p l ih => obtain ⟨k, u⟩ := p; by_cases h : k = x <;> simp_all [aget, eq_comm]
theorem aget_mem {l : List (K × V)} {x : K} {v : V} (h : aget l x = some v) : (x, v) ∈ l := by
  induction l with
  | nil => simp [aget] at h
  | cons p l ih =>
    obtain ⟨k, u⟩ := p
    unfold aget at h
    split at h
    · rename_i e; cases h; subst e; simp
    · simp [ih h]
theorem aget_of_mem {l : List (K × V)} (hn : (l.map (·.1)).Nodup) {x : K} {v : V} (h : (x, v) ∈ l) : aget l x = some v := by
  induction l with
  | nil => simp at h
  | cons p l ih =>
    obtain ⟨k, u⟩ := p
    simp only [List.map_cons, List.nodup_cons] at hn
    rcases List.mem_cons.1 h with h | h
    · cases h; simp [aget]
    · unfold aget
      rw [if_neg (fun e : k = x => hn.1 (List.mem_map.2 ⟨_, h, e.symm⟩))]
      exact ih hn.2 h
theorem aput_new {l : List (K × V)} {x : K} (v : V) (h : x ∉ l.map (·.1)) : aput l x v = l ++ [(x, v)] := by
  induction l with
  | nil => rfl
  | cons p l ih =>
    obtain ⟨k, u⟩ := p
    simp only [List.map_cons, List.mem_cons, not_or] at h
    unfold aput
    rw [if_neg (Ne.symm h.1), ih h.2]; rfl
theorem aput_at {l : List (K × V)} (hn : (l.map (·.1)).Nodup) {x : K} {u : V} (v : V) {j : Nat} (hj : l[j]? = some (x, u)) : aput l x v = l.set j (x, v) := by
  induction l generalizing j with
  | nil => simp at hj
  | cons p l ih =>
    obtain ⟨k, t⟩ := p
    simp only [List.map_cons, List.nodup_cons] at hn
    unfold aput
    cases j with
    | zero => simp at hj; rw [if_pos hj.1]; rfl
    | succ j =>
      simp only [List.getElem?_cons_succ] at hj
      have hm : (x, u) ∈ l := List.mem_of_getElem? hj
      rw [if_neg (fun e : k = x => hn.1 (List.mem_map.2 ⟨_, hm, e.symm⟩)), ih hn.2 hj]; rfl
theorem adel_none {l : List (K × V)} {x : K} (h : x ∉ l.map (·.1)) : adel l x = l := by
  unfold adel
  rw [List.filter_eq_self]
  intro p hp
  simp only [decide_eq_true_eq]
  exact fun e => h (e ▸ List.mem_map.2 ⟨p, hp, rfl⟩)
theorem adel_at {l : List (K × V)} (hn : (l.map (·.1)).Nodup) {x : K} {u : V} {j : Nat} (hj : l[j]? = some (x, u)) : adel l x = l.eraseIdx j := by
  induction l generalizing j with
  | nil => simp at hj
  | cons p l ih =>
    obtain ⟨k, t⟩ := p
    simp only [List.map_cons, List.nodup_cons] at hn
    cases j with
    | zero =>
      simp only [List.getElem?_cons_zero, Option.some.injEq, Prod.mk.injEq] at hj
      obtain ⟨rfl, rfl⟩ := hj
      have : adel ((k, t) :: l) k = adel l k := by unfold adel; rw [List.filter_cons_of_neg (by simp)]
      rw [this, adel_none hn.1]; rfl
    | succ j =>
      simp only [List.getElem?_cons_succ] at hj
      have hm : (x, u) ∈ l := List.mem_of_getElem? hj
      have hne : k ≠ x := fun e => hn.1 (e ▸ List.mem_map.2 ⟨_, hm, rfl⟩)
      have : adel ((k, t) :: l) x = (k, t) :: adel l x := by unfold adel; rw [List.filter_cons_of_pos (by simp [hne])]
      rw [this, ih hn.2 hj]; rfl
theorem keys_aput (l : List (K × V)) (x : K) (v : V) : (aput l x v).map (·.1) = if x ∈ l.map (·.1) then l.map (·.1) else l.map (·.1) ++ [x] := by
  induction l with
  | nil => simp [aput]
  | cons p l ih =>
    obtain ⟨k, u⟩ := p
    unfold aput
    by_cases h : k = x
    · subst h; simp
    · simp only [if_neg h, List.map_cons, ih, List.mem_cons, Ne.symm h, false_or]
      split <;> simp
theorem mem_aput {l : List (K × V)} {x : K} {v : V} {p : K × V} (h : p ∈ aput l x v) : p = (x, v) ∨ p ∈ l := by
  induction l with
  | nil => simp [aput] at h; exact .inl h
  | cons q l ih =>
    obtain ⟨k, u⟩ := q
    unfold aput at h
    split at h
    · rcases List.mem_cons.1 h with h | h
      · exact .inl h
      · exact .inr (by simp [h])
    · rcases List.mem_cons.1 h with h | h
      · exact .inr (by simp [h])
      · rcases ih h with h | h
        · exact .inl h
        · exact .inr (by simp [h])
theorem aput_map_eq {B : Type} {l : List (K × V)} {x : K} {v v' : V} (h : aget l x = some v) (f : K × V → B) (hf : f (x, v') = f (x, v)) : (aput l x v').map f = l.map f := by
  induction l with
  | nil => simp [aget] at h
  | cons p l ih =>
    obtain ⟨k, u⟩ := p
    unfold aget at h
    unfold aput
    split at h
    · rename_i e; cases h; subst e; simp [hf]
    · rename_i e; simp [e, ih h]
theorem mem_aput_ne {l : List (K × V)} (hn : (l.map (·.1)).Nodup) {x : K} {v : V} {p : K × V} (h : p ∈ aput l x v) : p = (x, v) ∨ (p ∈ l ∧ p.1 ≠ x) := by
  induction l with
  | nil => simp [aput] at h; exact .inl h
  | cons q l ih =>
    obtain ⟨k, u⟩ := q
    simp only [List.map_cons, List.nodup_cons] at hn
    unfold aput at h
    split at h
    · rename_i e
      subst e
      rcases List.mem_cons.1 h with h | h
      · exact .inl h
      · exact .inr ⟨by simp [h], fun e => hn.1 (List.mem_map.2 ⟨p, h, e⟩)⟩
    · rename_i e
      rcases List.mem_cons.1 h with h | h
      · exact .inr ⟨by simp [h], by rw [h]; exact e⟩
      · rcases ih hn.2 h with h | ⟨h, h'⟩
        · exact .inl h
        · exact .inr ⟨by simp [h], h'⟩
theorem inj_of_nodup {A B : Type} {l : List A} {f : A → B} (hn : (l.map f).Nodup) {a b : A} (ha : a ∈ l) (hb : b ∈ l) (h : f a = f b) : a = b := by
  induction l with
  | nil => simp at ha
  | cons c l ih =>
    simp only [List.map_cons, List.nodup_cons] at hn
    rcases List.mem_cons.1 ha with ha | ha <;> rcases List.mem_cons.1 hb with hb | hb
    · rw [ha, hb]
    · rw [ha] at h; exact absurd (List.mem_map.2 ⟨b, hb, h.symm⟩) hn.1
    · rw [hb] at h; exact absurd (List.mem_map.2 ⟨a, ha, h⟩) hn.1
    · exact ih hn.2 ha hb
theorem mem_adel {l : List (K × V)} {x : K} {p : K × V} (h : p ∈ adel l x) : p ∈ l ∧ p.1 ≠ x := by
  unfold adel at h
  obtain ⟨h1, h2⟩ := List.mem_filter.1 h
  exact ⟨h1, by simpa using h2⟩
end
/-! ### A map of memory -/
/-- What an operation on a map asks of its keys. -/
structure Kops (P : Program) (k : TypeId) {K : Type} (ek : K → Value) (ok : K → Prop) : Prop where
  inj : ∀ x y, ek x = ek y → x = y
  check : ∀ (w : World) (em : Bool) (x : K), ok x → (Instr.checkKey em 10000 k (ek x)).run P w = .ok () w
  find : ∀ (w : World) (x : K), ok x → ∀ es : List MapEntry, (∀ e ∈ es, ∃ y, ok y ∧ e.key = ek y) →
    ((Instr.findKey k (ek x) es).run P w = .ok none w ∧ ∀ e ∈ es, e.key ≠ ek x) ∨ ∃ j e, (Instr.findKey k (ek x) es).run P w = .ok (some (j, e.val)) w ∧ es[j]? = some e ∧ e.key = ek x
  stays : ∀ (w : World) (x : K), ok x → (Instr.keyThatStays (ek x) (ek x)).run P w = .ok (ek x) w
theorem Kops.of {P : Program} {k : TypeId} {K : Type} {ek : K → Value} {ok : K → Prop} (Y : Maps.Keyed P k) (hi : ∀ x y, ek x = ek y → x = y) (hr : ∀ x, ok x → ∃ l, keyOf P k (ek x) = some l) : Kops P k ek ok where
  inj := hi
  check w em x hx := by obtain ⟨l, hl⟩ := hr x hx; exact Y.check w em hl
  find w x hx es hes := by
    obtain ⟨l, hl⟩ := hr x hx
    exact Y.find w hl es (fun e he => by obtain ⟨y, hy, e1⟩ := hes e he; rw [e1]; exact hr y hy)
  stays w x hx := by obtain ⟨l, hl⟩ := hr x hx; exact Y.stays w hl
theorem kops_int {P : Program} {k : TypeId} (hk : P.underlying k = some (.int .i64)) : Kops P k (Value.int .i64) (fun a : Int => (Lit.int .i64 a).wf = true) :=
  Kops.of (Maps.int_keyed hk) (fun _ _ h => by cases h; rfl) (fun _ h => ⟨_, Maps.keyOf_int_mk hk h⟩)
section
variable {K V : Type} [DecidableEq K]
/-- Block b is a map that holds the pairs l. -/
def MapAt (ek : K → Value) (ev : V → Value) (ok : K → Prop) (w : World) (b : Nat) (l : List (K × V)) : Prop :=
  ∃ es clock, w.heap[b]? = some (.map es clock) ∧ Stamped es clock ∧ es.toList.map (fun e => (e.key, e.val)) = l.map (fun p => (ek p.1, ev p.2)) ∧ ∀ p ∈ l, ok p.1
/-- .. and n is the stamp of x's entry. -/
def MapStamp (ek : K → Value) (ev : V → Value) (ok : K → Prop) (w : World) (b : Nat) (l : List (K × V)) (x : K) (n : Nat) : Prop :=
  ∃ es clock, w.heap[b]? = some (.map es clock) ∧ Stamped es clock ∧ es.toList.map (fun e => (e.key, e.val)) = l.map (fun p => (ek p.1, ev p.2)) ∧ (∀ p ∈ l, ok p.1) ∧ ∃ e ∈ es.toList, e.born = n ∧ e.key = ek x
variable {ek : K → Value} {ev : V → Value} {ok : K → Prop} {w w' : World} {b : Nat} {l : List (K × V)} {P : Program} {k t e : TypeId}
theorem MapStamp.map {x : K} {n : Nat} (h : MapStamp ek ev ok w b l x n) : MapAt ek ev ok w b l := by
  obtain ⟨es, c, h1, h2, h3, h4, _⟩ := h
  exact ⟨es, c, h1, h2, h3, h4⟩
theorem MapAt.same_ev {x : K} {v v' : V} (h : MapAt ek ev ok w b l) (hg : aget l x = some v) (he : ev v' = ev v) : MapAt ek ev ok w b (aput l x v') := by
  obtain ⟨es, c, h1, h2, h3, h4⟩ := h
  exact ⟨es, c, h1, h2, by rw [aput_map_eq hg (fun p => (ek p.1, ev p.2)) (by simp [he])]; exact h3, fun p hp => by
    rcases mem_aput hp with rfl | hp
    · exact h4 (x, v) (aget_mem hg)
    · exact h4 p hp⟩
theorem MapAt.lt (h : MapAt ek ev ok w b l) : b < w.heap.size := by
  obtain ⟨es, c, h1, _⟩ := h
  exact lt_of_heap h1
theorem MapAt.of_heap (h : MapAt ek ev ok w b l) (hb : w'.heap[b]? = w.heap[b]?) : MapAt ek ev ok w' b l := by
  obtain ⟨es, c, h1, h2⟩ := h
  exact ⟨es, c, hb.trans h1, h2⟩
theorem MapStamp.of_heap {x : K} {n : Nat} (h : MapStamp ek ev ok w b l x n) (hb : w'.heap[b]? = w.heap[b]?) : MapStamp ek ev ok w' b l x n := by
  obtain ⟨es, c, h1, h2⟩ := h
  exact ⟨es, c, hb.trans h1, h2⟩
theorem MapAt.kept {S : List Nat} (h : MapAt ek ev ok w b l) (u : Upd S w w') (hb : b ∉ S) : MapAt ek ev ok w' b l :=
  h.of_heap (u.block b h.lt hb)
theorem MapStamp.kept {S : List Nat} {x : K} {n : Nat} (h : MapStamp ek ev ok w b l x n) (u : Upd S w w') (hb : b ∉ S) : MapStamp ek ev ok w' b l x n :=
  h.of_heap (u.block b h.map.lt hb)
theorem MapAt.alloc (h : MapAt ek ev ok w b l) (o : Obj) : MapAt ek ev ok (w.alloc o) b l := h.kept ((Upd.refl [] w).alloc o) (by simp)
theorem MapAt.setCell (h : MapAt ek ev ok w b l) (a : Addr) (u : Value) (ha : a.block ≠ b) : MapAt ek ev ok (w.setCell a u) b l :=
  h.of_heap (Below.heap_setCell _ _ _ _ (Ne.symm ha))
theorem MapAt.drew (h : MapAt ek ev ok w b l) : MapAt ek ev ok w.drew b l := h
theorem MapAt.drewN (h : MapAt ek ev ok w b l) (n : Nat) : MapAt ek ev ok (w.drewN n) b l := h
theorem MapAt.made (ek : K → Value) (ev : V → Value) (ok : K → Prop) (w : World) : MapAt ek ev ok (w.alloc (.map #[] 0)) w.heap.size [] :=
  ⟨#[], 0, (heap_alloc w _).1, stamped_empty 0, rfl, by simp⟩
theorem MapAt.oks (h : MapAt ek ev ok w b l) : ∀ p ∈ l, ok p.1 := by
  obtain ⟨es, c, _, _, _, h4⟩ := h
  exact h4
theorem keys_of {es : Array MapEntry} (h : es.toList.map (fun e => (e.key, e.val)) = l.map (fun p => (ek p.1, ev p.2))) : es.toList.map (·.key) = l.map (fun p => ek p.1) := by
  have := congrArg (List.map Prod.fst) h
  simpa [List.map_map, Function.comp_def] using this
theorem nodup_of (hi : ∀ x y, ek x = ek y → x = y) {es : Array MapEntry} {c : Nat} (hs : Stamped es c) (h : es.toList.map (fun e => (e.key, e.val)) = l.map (fun p => (ek p.1, ev p.2))) : (l.map (·.1)).Nodup := by
  have h3 := hs.2.2
  rw [keys_of h] at h3
  rw [List.nodup_iff_pairwise_ne, List.pairwise_map] at h3 ⊢
  exact h3.imp fun hne e => hne (by rw [e])
theorem MapAt.nodup (h : MapAt ek ev ok w b l) (Y : Kops P k ek ok) : (l.map (·.1)).Nodup := by
  obtain ⟨es, c, _, h2, h3, _⟩ := h
  exact nodup_of Y.inj h2 h3
theorem MapAt.find (Y : Kops P k ek ok) {es : Array MapEntry} {c : Nat} (hs : Stamped es c) (hl : es.toList.map (fun e => (e.key, e.val)) = l.map (fun p => (ek p.1, ev p.2))) (hok : ∀ p ∈ l, ok p.1) (w : World) {x : K} (hx : ok x) :
    ((Instr.findKey k (ek x) es.toList).run P w = .ok none w ∧ x ∉ l.map (·.1) ∧ ∀ e ∈ es.toList, e.key ≠ ek x) ∨
    ∃ j e v, (Instr.findKey k (ek x) es.toList).run P w = .ok (some (j, e.val)) w ∧ es[j]? = some e ∧ e.key = ek x ∧ e.val = ev v ∧ l[j]? = some (x, v) ∧ aget l x = some v := by
  have hes : ∀ e ∈ es.toList, ∃ y, ok y ∧ e.key = ek y := fun e he => by
    have : e.key ∈ es.toList.map (·.key) := List.mem_map.2 ⟨e, he, rfl⟩
    rw [keys_of hl] at this
    obtain ⟨p, hp, e1⟩ := List.mem_map.1 this
    exact ⟨p.1, hok p hp, e1.symm⟩
  rcases Y.find w x hx es.toList hes with ⟨h1, h2⟩ | ⟨j, e, h1, h2, h3⟩
  · refine .inl ⟨h1, fun hm => ?_, h2⟩
    obtain ⟨p, hp, rfl⟩ := List.mem_map.1 hm
    have : ek p.1 ∈ l.map (fun p => ek p.1) := List.mem_map.2 ⟨p, hp, rfl⟩
    rw [← keys_of hl] at this
    obtain ⟨e, he, e1⟩ := List.mem_map.1 this
    exact h2 e he e1
  · have hj : (l.map (fun p => (ek p.1, ev p.2)))[j]? = some (e.key, e.val) := by
      rw [← hl, List.getElem?_map, h2]; rfl
    rw [List.getElem?_map] at hj
    cases hlj : l[j]? with
    | none => rw [hlj] at hj; cases hj
    | some p =>
      obtain ⟨y, v⟩ := p
      rw [hlj] at hj
      simp only [Option.map_some, Option.some.injEq, Prod.mk.injEq] at hj
      obtain rfl : y = x := Y.inj _ _ (hj.1.trans h3)
      exact .inr ⟨j, e, v, h1, by simpa using h2, h3, hj.2.symm, hlj.symm ▸ rfl, aget_of_mem (nodup_of Y.inj hs hl) (List.mem_of_getElem? hlj)⟩
/-- What a look-up answers. -/
def lookV (ev : V → Value) (z : Value) (c : Bool) (o : Option V) : Value :=
  match o with
  | some v => if c then .tuple #[ev v, .bool true] else ev v
  | none => if c then .tuple #[z, .bool false] else z
theorem MapAt.lookup (h : MapAt ek ev ok w b l) (Y : Kops P k ek ok) (ht : P.underlying t = some (.map k e)) {z : Value} (hz : (zeroValue e).run P w = .ok z w) {x : K} (hx : ok x) (c : Bool) :
    (Instr.lookup t (.map (some b)) (ek x) c).run P w = .ok (lookV ev z c (aget l x)) w := by
  obtain ⟨es, cl, h1, h2, h3, h4⟩ := h
  rcases MapAt.find Y h2 h3 h4 w hx with ⟨f1, f2, _⟩ | ⟨j, e0, v, f1, f2, f3, f4, f5, f6⟩
  · have hg : aget l x = none := (aget_none_iff l x).2 f2
    simp [Instr.lookup, run_underlying ht, MapKept.run_getObj_map h1, Y.check w _ x hx, f1, hz, hg, lookV, Result.andThen]
  · simp [Instr.lookup, run_underlying ht, MapKept.run_getObj_map h1, Y.check w _ x hx, f1, f6, lookV, Result.andThen, f4]
theorem toList_modify_set {es : Array MapEntry} {j : Nat} {e0 : MapEntry} (hj : es[j]? = some e0) (f : MapEntry → MapEntry) : (es.modify j f).toList = es.toList.set j (f e0) := by
  apply List.ext_getElem?
  intro i
  simp only [Array.getElem?_toList, Array.getElem?_modify, List.getElem?_set]
  have hlt : j < es.toList.length := by simpa using (Array.getElem?_eq_some_iff.1 hj).1
  by_cases hij : j = i
  · subst hij; simp only [if_pos rfl, hj, Option.map_some, hlt, if_true]
  · simp [hij]
theorem set_same {α : Type} {l : List α} {j : Nat} {a : α} (h : l[j]? = some a) : l.set j a = l := by
  apply List.ext_getElem?
  intro i
  rw [List.getElem?_set]
  split
  · rename_i e; subst e
    obtain ⟨hl, rfl⟩ := List.getElem?_eq_some_iff.1 h
    simp [hl]
  · rfl
theorem setBlock_upd {w : World} {b : Nat} {o o' : Obj} (hb : w.heap[b]? = some o) : Upd [b] w (setBlock w b o') :=
  ⟨rfl, rfl, rfl, by simp [setBlock], fun i hi hm => (heap_set hb).2 i (by simpa using hm)⟩
theorem MapAt.update (h : MapAt ek ev ok w b l) (Y : Kops P k ek ok) (ht : P.underlying t = some (.map k e)) {x : K} (hx : ok x) (v : V) :
    ∃ w', (Instr.mapUpdate t (.map (some b)) (ek x) (ev v)).run P w = .ok () w' ∧ MapAt ek ev ok w' b (aput l x v) ∧ Upd [b] w w' ∧ w'.heap.size = w.heap.size := by
  obtain ⟨es, cl, h1, h2, h3, h4⟩ := h
  have hok : ∀ p ∈ aput l x v, ok p.1 := fun p hp => by
    rcases mem_aput hp with rfl | hp
    · exact hx
    · exact h4 p hp
  rcases MapAt.find Y h2 h3 h4 w hx with ⟨f1, f2, f2'⟩ | ⟨j, e0, u, f1, f2, f3, f4, f5, f6⟩
  · refine ⟨setBlock w b (.map (es.push { key := ek x, val := ev v, born := cl }) (cl + 1)), ?_, ⟨_, _, (heap_set h1).1, stamped_push h2 f2', ?_, hok⟩, setBlock_upd h1, by simp [setBlock]⟩
    · simp [Instr.mapUpdate, run_underlying ht, MapKept.run_getObj_map h1, Y.check w _ x hx, f1, Result.andThen, MapKept.run_setObj_map _ h1, setBlock]
    · rw [aput_new v f2]; simp [h3]
  · refine ⟨setBlock w b (.map (es.modify j fun e => { e with key := ek x, val := ev v }) cl), ?_, ⟨_, _, (heap_set h1).1, ?_, ?_, hok⟩, setBlock_upd h1, by simp [setBlock]⟩
    · simp [Instr.mapUpdate, run_underlying ht, MapKept.run_getObj_map h1, Y.check w _ x hx, f1, Result.andThen, MapKept.run_setObj_map _ h1, setBlock, f2, f3, Y.stays w x hx]
    · exact stamped_modify h2 j _ (fun _ _ => rfl) (fun e' _ he' => by rw [f2] at he'; cases he'; exact f3.symm)
    · rw [toList_modify_set f2, aput_at (nodup_of Y.inj h2 h3) v f5, List.map_set, List.map_set, h3]
theorem MapAt.drop (h : MapAt ek ev ok w b l) (Y : Kops P k ek ok) (ht : P.underlying t = some (.map k e)) {x : K} (hx : ok x) (tys : Array TypeId) (hty : tys[0]? = some t) (ty : TypeId) :
    ∃ w', (Builtin.delete_ tys ty #[.map (some b), ek x]).run P w = .ok (.tuple #[]) w' ∧ MapAt ek ev ok w' b (adel l x) ∧ Upd [b] w w' ∧ w'.heap.size = w.heap.size := by
  obtain ⟨es, cl, h1, h2, h3, h4⟩ := h
  have hok : ∀ p ∈ adel l x, ok p.1 := fun p hp => h4 p (mem_adel hp).1
  rcases MapAt.find Y h2 h3 h4 w hx with ⟨f1, f2, f2'⟩ | ⟨j, e0, u, f1, f2, f3, f4, f5, f6⟩
  · refine ⟨setBlock w b (.map es cl), ?_, ⟨_, _, (heap_set h1).1, h2, ?_, hok⟩, setBlock_upd h1, by simp [setBlock]⟩
    · simp [Builtin.delete_, hty, run_underlying ht, MapKept.run_getObj_map h1, Y.check w _ x hx, f1, Result.andThen, MapKept.run_setObj_map _ h1, setBlock]
    · rw [adel_none f2]; exact h3
  · refine ⟨setBlock w b (.map (es.eraseIdxIfInBounds j) cl), ?_, ⟨_, _, (heap_set h1).1, stamped_erase h2 j, ?_, hok⟩, setBlock_upd h1, by simp [setBlock]⟩
    · simp [Builtin.delete_, hty, run_underlying ht, MapKept.run_getObj_map h1, Y.check w _ x hx, f1, Result.andThen, MapKept.run_setObj_map _ h1, setBlock]
    · have hlt := (Array.getElem?_eq_some_iff.1 f2).1
      rw [adel_at (nodup_of Y.inj h2 h3) f5]
      unfold Array.eraseIdxIfInBounds
      rw [dif_pos hlt, Array.toList_eraseIdx, map_eraseIdx, map_eraseIdx, h3]
theorem MapAt.len (h : MapAt ek ev ok w b l) (ht : P.underlying t = some (.map k e)) (ty : TypeId) : (Builtin.len_ #[t] ty #[.map (some b)]).run P w = .ok (.int .i64 l.length) w := by
  obtain ⟨es, cl, h1, h2, h3, h4⟩ := h
  have hs : es.size = l.length := by have := congrArg List.length h3; simpa using this
  simp [Builtin.len_, run_underlying ht, MapKept.run_getObj_map h1, Result.andThen, hs, goInt]
theorem MapAt.entry (h : MapAt ek ev ok w b l) (Y : Kops P k ek ok) (ht : P.underlying t = some (.map k e)) {z : V} (hz : ∀ w, (zeroValue e).run P w = .ok (ev z) w) {x : K} (hx : ok x) :
    ∃ w' n, (Instr.mapEntry t (.map (some b)) (ek x)).run P w = .ok (.tuple #[ev ((aget l x).getD z), goInt (n : Nat)]) w' ∧ MapStamp ek ev ok w' b (aput l x ((aget l x).getD z)) x n ∧ Upd [b] w w' ∧ w'.heap.size = w.heap.size := by
  obtain ⟨es, cl, h1, h2, h3, h4⟩ := h
  have hok : ∀ v, ∀ p ∈ aput l x v, ok p.1 := fun v p hp => by
    rcases mem_aput hp with rfl | hp
    · exact hx
    · exact h4 p hp
  rcases MapAt.find Y h2 h3 h4 w hx with ⟨f1, f2, f2'⟩ | ⟨j, e0, u, f1, f2, f3, f4, f5, f6⟩
  · have hg : aget l x = none := (aget_none_iff l x).2 f2
    refine ⟨setBlock w b (.map (es.push { key := ek x, val := ev z, born := cl }) (cl + 1)), cl, ?_, ⟨_, _, (heap_set h1).1, stamped_push h2 f2', ?_, hok _, ?_⟩, setBlock_upd h1, by simp [setBlock]⟩
    · simp [Instr.mapEntry, run_underlying ht, MapKept.run_getObj_map h1, Y.check w _ x hx, f1, Result.andThen, MapKept.run_setObj_map _ h1, setBlock, hz, hg]
    · rw [aput_new _ f2]; simp [h3, hg]
    · exact ⟨_, by simp; exact .inr rfl, rfl, rfl⟩
  · refine ⟨setBlock w b (.map (es.modify j fun e => { e with key := ek x }) cl), e0.born, ?_, ⟨_, _, (heap_set h1).1, ?_, ?_, hok _, ?_⟩, setBlock_upd h1, by simp [setBlock]⟩
    · simp [Instr.mapEntry, run_underlying ht, MapKept.run_getObj_map h1, Y.check w _ x hx, f1, Result.andThen, MapKept.run_setObj_map _ h1, setBlock, f2, f3, f4, f6, Y.stays w x hx]
    · exact stamped_modify h2 j _ (fun _ _ => rfl) (fun e' _ he' => by rw [f2] at he'; cases he'; exact f3.symm)
    · rw [toList_modify_set f2, aput_at (nodup_of Y.inj h2 h3) _ f5, List.map_set, List.map_set, h3, f6]
      simp only [Option.getD_some, f4]
    · refine ⟨{ e0 with key := ek x }, ?_, rfl, rfl⟩
      rw [toList_modify_set f2]
      exact List.mem_iff_getElem?.2 ⟨j, by rw [List.getElem?_set]; simp [(Array.getElem?_eq_some_iff.1 f2).1]⟩
theorem MapStamp.store {x : K} {n : Nat} (h : MapStamp ek ev ok w b l x n) (Y : Kops P k ek ok) (hx : ok x) (v : V) :
    ∃ w', (Instr.entryStore t (.map (some b)) (goInt n) (ev v)).run P w = .ok () w' ∧ MapAt ek ev ok w' b (aput l x v) ∧ Upd [b] w w' ∧ w'.heap.size = w.heap.size := by
  obtain ⟨es, cl, h1, h2, h3, h4, e0, he0, hb0, hk0⟩ := h
  have hok : ∀ p ∈ aput l x v, ok p.1 := fun p hp => by
    rcases mem_aput hp with rfl | hp
    · exact hx
    · exact h4 p hp
  obtain ⟨j, hj⟩ := List.mem_iff_getElem?.1 he0
  have hj' : es[j]? = some e0 := by simpa using hj
  have hlt := (Array.getElem?_eq_some_iff.1 hj').1
  have hfi : es.findIdx? (fun e => (e.born : Int) == (n : Int)) = some j := by
    rw [Array.findIdx?_eq_some_iff_getElem]
    refine ⟨hlt, ?_, fun i hij => ?_⟩
    · have : es[j] = e0 := by simpa [Array.getElem?_eq_getElem hlt] using hj'
      rw [this, hb0]; simp
    · have hne : es[i].born ≠ n := fun e1 => by
        have hd := h2.2.1
        rw [List.nodup_iff_pairwise_ne, List.pairwise_iff_getElem] at hd
        have := hd i j (by simp; omega) (by simp; omega) hij
        simp only [List.getElem_map, Array.getElem_toList] at this
        have e2 : es[j] = e0 := by simpa [Array.getElem?_eq_getElem hlt] using hj'
        rw [e1, e2, hb0] at this
        exact this rfl
      simp; omega
  have hlj : ∃ u, l[j]? = some (x, u) := by
    have : (l.map (fun p => (ek p.1, ev p.2)))[j]? = some (e0.key, e0.val) := by rw [← h3, List.getElem?_map, hj]; rfl
    rw [List.getElem?_map] at this
    cases hq : l[j]? with
    | none => rw [hq] at this; cases this
    | some p =>
      rw [hq] at this
      simp only [Option.map_some, Option.some.injEq, Prod.mk.injEq] at this
      obtain ⟨y, u⟩ := p
      obtain rfl : y = x := Y.inj _ _ (this.1.trans hk0)
      exact ⟨u, rfl⟩
  obtain ⟨u, hu⟩ := hlj
  refine ⟨setBlock w b (.map (es.modify j fun e => { e with val := ev v }) cl), ?_, ⟨_, _, (heap_set h1).1, ?_, ?_, hok⟩, setBlock_upd h1, by simp [setBlock]⟩
  · simp [Instr.entryStore, MapKept.run_getObj_map h1, Result.andThen, MapKept.run_setObj_map _ h1, setBlock, hfi, goInt, asInt, asIntOf]
  · exact stamped_modify h2 j _ (fun _ _ => rfl) (fun _ _ _ => rfl)
  · rw [toList_modify_set hj', aput_at (nodup_of Y.inj h2 h3) v hu, List.map_set, List.map_set, h3, hk0]
/-! ### .. at the operation -/
theorem wl_mapUpdate {ops : Array Oper} {rest : List Oper} {o : Oper} {a : Act} {Q : Exit → Act → World → Prop} (hg : o.guard = none) (m x v : Operand) (hop : o.op = Op.mapUpdate t m x v) (Y : Kops P k ek ok) (ht : P.underlying t = some (.map k e))
    (hm : a.eval m = .map (some b)) (H : MapAt ek ev ok w b l) (key : K) (val : V) (hx : a.eval x = ek key) (hv : a.eval v = ev val) (hok : ok key)
    (hK : ∀ w', MapAt ek ev ok w' b (aput l key val) → Upd [b] w w' → w'.heap.size = w.heap.size → wpList P ops Q rest (a.put o.dst undef) w') : wpList P ops Q (o :: rest) a w := by
  refine wpList_plain hg fun K' hK' => ?_
  obtain ⟨w', hrun, r1, r2, r3⟩ := H.update Y ht hok val
  unfold Oper.wp
  simp [execOp, hop, hm, hx, hv, hrun, Result.andThen]
  exact hK' _ _ (hK w' r1 r2 r3)
theorem wl_delete {ops : Array Oper} {rest : List Oper} {o : Oper} {a : Act} {Q : Exit → Act → World → Prop} (hg : o.guard = none) (m x : Operand) (tys : Array TypeId) (hty : tys[0]? = some t) (hop : o.op = Op.call { callee := Callee.builtin Builtin.delete, args := #[m, x], argTypes := tys }) (Y : Kops P k ek ok) (ht : P.underlying t = some (.map k e))
    (hm : a.eval m = .map (some b)) (H : MapAt ek ev ok w b l) (key : K) (hx : a.eval x = ek key) (hok : ok key)
    (hK : ∀ w', MapAt ek ev ok w' b (adel l key) → Upd [b] w w' → w'.heap.size = w.heap.size → wpList P ops Q rest (a.put o.dst (.tuple #[])) w') : wpList P ops Q (o :: rest) a w := by
  refine wpList_plain hg fun K' hK' => ?_
  obtain ⟨w', hrun, r1, r2, r3⟩ := H.drop Y ht hok tys hty o.type
  unfold Oper.wp
  simp [execOp, hop, resolve, invoke, builtin, hm, hx, hrun, Result.andThen]
  exact hK' _ _ (hK w' r1 r2 r3)
theorem wl_lookup {ops : Array Oper} {rest : List Oper} {o : Oper} {a : Act} {Q : Exit → Act → World → Prop} (hg : o.guard = none) (m x : Operand) (c : Bool) (hop : o.op = Op.lookup t m x c) (Y : Kops P k ek ok) (ht : P.underlying t = some (.map k e)) {z : Value} (hz : (zeroValue e).run P w = .ok z w)
    (hm : a.eval m = .map (some b)) (H : MapAt ek ev ok w b l) (key : K) (hx : a.eval x = ek key) (hok : ok key)
    (hK : wpList P ops Q rest (a.put o.dst (lookV ev z c (aget l key))) w) : wpList P ops Q (o :: rest) a w := by
  refine wpList_plain hg fun K' hK' => ?_
  have hrun := H.lookup Y ht hz hok c
  unfold Oper.wp
  simp [execOp, hop, hm, hx, hrun, Result.andThen]
  exact hK' _ _ hK
end
end Go.Proofs.Ytibghcmkmbamjaa
end
section
namespace Go.Proofs.Ytibghcmkmbamjaa
open Go.RowKit Go.ChangeShapes Go.WideShapes Go.ChangeAt
set_option linter.unusedVariables false
set_option linter.unusedSectionVars false
/-- The cells of a slice's rows, of k cells each. -/
def RowsAt (w : World) (A : Option Addr) (k : Nat) (l : List (List Value)) : Prop :=
  ∀ i r, l[i]? = some r → ∃ b off, A = some ⟨b, off, none⟩ ∧ ∀ j v, r[j]? = some v → w.cell? ⟨b, off + i * k + j, none⟩ = some v
theorem RowsAt.kept {w w' : World} {A : Option Addr} {k : Nat} {l : List (List Value)} {S : List Nat} (h : RowsAt w A k l) (u : Upd S w w') (hS : ∀ b off, A = some ⟨b, off, none⟩ → b ∉ S) : RowsAt w' A k l := by
  intro i r hi
  obtain ⟨b, off, hA, hc⟩ := h i r hi
  exact ⟨b, off, hA, fun j v hj => u.cell (hc j v hj) (hS b off hA)⟩
theorem RowsAt.keep {w w' : World} {A : Option Addr} {k : Nat} {l : List (List Value)} (h : RowsAt w A k l) (u : Upd [] w w') : RowsAt w' A k l := h.kept u (by simp)
theorem exists_list {α : Type} (p : Nat → α → Prop) : ∀ n : Nat, (∀ i, i < n → ∃ x, p i x) → ∃ l : List α, l.length = n ∧ ∀ i x, l[i]? = some x → p i x
  | 0, _ => ⟨[], rfl, fun i x h => by simp at h⟩
  | n + 1, h => by
    obtain ⟨l, h1, h2⟩ := exists_list p n (fun i hi => h i (by omega))
    obtain ⟨x, hx⟩ := h n (by omega)
    refine ⟨l ++ [x], by simp [h1], fun i y hy => ?_⟩
    by_cases hi : i < n
    · rw [List.getElem?_append_left (by omega)] at hy
      exact h2 i y hy
    · have hlt : i < (l ++ [x]).length := (List.getElem?_eq_some_iff.1 hy).1
      obtain rfl : i = n := by simp [h1] at hlt; omega
      rw [List.getElem?_append_right (by omega)] at hy
      simp [h1] at hy
      exact hy ▸ hx
theorem addr_add (b off m : Nat) : (⟨b, off, none⟩ : Addr).add m = ⟨b, off + m, none⟩ := by
  unfold Addr.add
  split
  · rename_i h; subst h; rfl
  · rfl
theorem spot_none {w : World} {a : Addr} {v : Value} (h : w.cell? a = some v) : a.spot = none := by
  unfold World.cell? at h
  split at h
  · split at h
    · cases h
    · cases hs : a.spot <;> simp_all
  · cases h
section
variable {H : Type} {enc : TypeId × Value → H} {P : Program} {w : World} {base : Nat} {spare : Nat → Bool} {held : Bool}
open Go.Deep in
theorem open_rows {t e : TypeId} {fs : Array Field} {fuel : Nat} {cs : List Value} {x : DataW H × List MemPlace} (ht : P.underlying t = some (.slice e)) (he : P.underlying e = some (.struct fs))
    (hone : oneCellFields P fs = true) (hC : P.cellsOf e = fs.size) (hpos : 0 < fs.size) (h : DataW.trod enc P w base spare held fuel t cs = some x) :
    ∃ (A : Option Addr) (len cap : Nat), cs = [.slice A len cap] ∧ len ≤ cap ∧ cap ≤ maxLen ∧ ∀ i, i < len → ∃ (b off : Nat) (n : Nat), A = some ⟨b, off, none⟩ ∧
        ∀ (j : Nat) (f : Field), fs[j]? = some f → ∃ (v : Value) (y : DataW H × List MemPlace), w.cell? ⟨b, off + i * fs.size + j, none⟩ = some v ∧ DataW.trod enc P w base spare held n f.type [v] = some y := by
  rcases open_slice ht h with ⟨rfl, rfl⟩ | ⟨a, len, cap, m, n, D, Pl, hcs, hb, hl, hm, hmm, hx, hi⟩
  · exact ⟨none, 0, 0, rfl, Nat.le_refl _, by unfold maxLen; omega, fun i hi => absurd hi (by omega)⟩
  · refine ⟨some a, len, cap, hcs, hl, hm, fun i hil => ?_⟩
    have hsp : a.spot = none := by
      have h0m : 0 < m := by rw [hmm]; split <;> omega
      obtain ⟨cs', hc, _⟩ := hi 0 h0m
      rw [hC] at hc
      obtain ⟨_, hcl, hat⟩ := World.cells?_some hc
      have h2 := hat 0 hpos
      have h3 : w.cell? a = cs'[0]? := by simpa [Addr.add] using h2
      have h4 : cs'[0]? = some (cs'[0]'(by omega)) := List.getElem?_eq_getElem (by omega)
      exact spot_none (h3.trans h4)
    obtain ⟨b, off, sp⟩ := a
    simp only at hsp
    subst hsp
    have him : i < m := by rw [hmm]; split <;> omega
    obtain ⟨cs', hc, ht'⟩ := hi i him
    rw [hC] at hc
    obtain ⟨ys, n', hn', hy, hlen, hyl, hf⟩ := DataW.trod_struct he ht'
    obtain ⟨_, hcl, hat⟩ := World.cells?_some hc
    refine ⟨b, off, n', rfl, fun j f hj => ?_⟩
    obtain ⟨ho, hk⟩ := hone_of hone j f hj
    have hjl : j < fs.size := (Array.getElem?_eq_some_iff.1 hj).1
    have hcell := hat j hjl
    have hv : cs'[j]? = some (cs'[j]'(by omega)) := List.getElem?_eq_getElem (by omega)
    have h1 := hf j f hj
    rw [ho, hk] at h1
    have hone' : (cs'.drop j).take 1 = [cs'[j]'(by omega)] := by
      rw [List.drop_eq_getElem_cons (by omega)]
      rfl
    rw [hone'] at h1
    have hys : ys[j]? = some (ys[j]'(by omega)) := List.getElem?_eq_getElem (by omega)
    refine ⟨_, _, ?_, h1.trans hys⟩
    rw [addr_add, addr_add] at hcell
    rw [hcell, hv]
end
section
variable {H : Type} {enc : TypeId × Value → H} {P : Program} {w : World} {base : Nat} {spare : Nat → Bool} {held : Bool}
open Go.Deep in
/-- A slice of bytes that came in. -/
theorem open_byteslice {t e : TypeId} {fuel : Nat} {cs : List Value} {x : DataW H × List MemPlace} (ht : P.underlying t = some (.slice e)) (he : P.underlying e = some (.int .u8))
    (hC : P.cellsOf e = 1) (h : DataW.trod enc P w base spare held fuel t cs = some x) :
    ∃ (A : Option Addr) (cap : Nat) (l : List UInt8), cs = [.slice A l.length cap] ∧ l.length ≤ cap ∧ cap ≤ maxLen ∧ ∀ i b, l[i]? = some b → ∃ g off, A = some ⟨g, off, none⟩ ∧ w.cell? ⟨g, off + i, none⟩ = some (.int .u8 (b.toNat : Int)) := by
  rcases open_slice ht h with ⟨rfl, rfl⟩ | ⟨a, len, cap, m, n, D, Pl, hcs, hb, hl, hm, hmm, hx, hi⟩
  · exact ⟨none, 0, [], rfl, Nat.le_refl _, by unfold maxLen; omega, fun i b hi => by simp at hi⟩
  · obtain ⟨l, hlen, hl'⟩ := exists_list (α := UInt8) (fun i b => a.spot = none ∧ w.cell? (a.add i) = some (.int .u8 (b.toNat : Int))) len (fun i hil => by
      have him : i < m := by rw [hmm]; split <;> omega
      have h0m : 0 < m := by omega
      have hcell : ∀ j, j < m → ∃ q, w.cell? (a.add j) = some (.int .u8 q) ∧ (Lit.int .u8 q).wf = true := fun j hj => by
        obtain ⟨cs', hc, ht'⟩ := hi j hj
        rw [hC, Nat.mul_one] at hc
        obtain ⟨q, hq, _, hw⟩ := DataW.trod_int he ht'
        obtain ⟨_, hcl, hat⟩ := World.cells?_some hc
        have h2 := hat 0 (by omega)
        rw [hq] at h2
        have h3 : (a.add j).add 0 = a.add j := by simp [Addr.add]
        rw [h3] at h2
        exact ⟨q, h2, hw⟩
      obtain ⟨q0, h0, _⟩ := hcell 0 h0m
      obtain ⟨q, h1, hw⟩ := hcell i him
      have hsp : a.spot = none := by
        have : a.add 0 = a := by simp [Addr.add]
        rw [this] at h0
        exact spot_none h0
      have hq : 0 ≤ q ∧ q ≤ 255 := by
        have w2' : IntKind.u8.min ≤ q ∧ q ≤ IntKind.u8.max := by simpa [Lit.wf] using hw
        exact w2'
      refine ⟨UInt8.ofNat q.toNat, hsp, ?_⟩
      rw [h1]
      have : ((UInt8.ofNat q.toNat).toNat : Int) = q := by simp [UInt8.toNat_ofNat']; omega
      rw [this])
    subst hlen
    refine ⟨some a, cap, l, hcs, hl, hm, fun i b hb' => ?_⟩
    obtain ⟨h1, h2⟩ := hl' i b hb'
    obtain ⟨g, off, sp⟩ := a
    simp only at h1
    subst h1
    rw [addr_add] at h2
    exact ⟨g, off, rfl, h2⟩
end
section
variable {H : Type} {enc : TypeId × Value → H} {P : Program}
theorem trodAll_below (hl : laidOutB P = true) {W W' : World} (hb : Below W.heap.size W W') : ∀ (ts : List TypeId) (vs : List Value) (ds : List (DataW H)) (ps : List MemPlace), (∀ t ∈ ts, P.readableRec t = true ∧ t < P.types.size) →
    DataW.TrodAll enc P W 0 (fun _ => true) true ts vs ds ps → (∀ x ∈ ps, x.block < W.heap.size) → DataW.TrodAll enc P W' 0 (fun b => decide (b < W.heap.size)) true ts vs ds ps
  | [], vs, ds, ps, _, h, _ => by
    obtain ⟨rfl, rfl, rfl⟩ := trodAll_nil h
    exact trodAll_mk0
  | t :: ts, vs, ds, ps, ht, h, hlt => by
    obtain ⟨v, vs', d, ds', p, q, rfl, rfl, rfl, h0, r0⟩ := trodAll_cons h
    have h1 := ht t (by simp)
    exact trodAll_cons_mk (Below.trod hl h1.1 h1.2 h0 hb (fun x hx => hlt x (by simp [hx]))) (trodAll_below hl hb ts vs' ds' q (fun t h => ht t (by simp [h])) r0 (fun x hx => hlt x (by simp [hx])))
/-- The end of a law's row: it answers true, and nothing that was there has turned. -/
theorem law_post {f : Func} {s : ChangeSpec} {fresh handsOn : Bool} {W W' : World} {args : Array Value} {ds gs : List (DataW H)} {before : List MemPlace} (hl : laidOutB P = true)
    (hW : DataW.Whole enc P f.params.toList s.vars false W args.toList ds gs before) (hv : s.vars = []) (ht : f.params.toList.all (fun t => P.readableRec t && decide (t < P.types.size)) = true)
    {b : TypeId} (hr : f.resultTypes = #[b]) (hbt : P.underlying b = some .bool) (hs : s.fn H (ds ++ gs) = { results := [.lit (.bool true)], args := ds }) (hb : Below W.heap.size W W') :
    s.post enc P f false fresh handsOn false W args (.bool true) W' := by
  have hW' := hW
  obtain ⟨p, q, hA0, hV, rfl, hfz, hnd⟩ := hW
  rw [hv] at hV
  obtain ⟨rfl, rfl⟩ := trodVars_none hV
  have hlt : ∀ x ∈ p ++ [], x.block < W.heap.size := fun x hx => hW'.lt x hx
  refine ⟨_, _, _, [], p, [], hW', ?_, ?_, ?_, hb.frame _, fun h => by cases h⟩
  · rw [hr, hs]; exact trodAll_mk1 (shut_bool hbt _)
  · rw [hs]; exact trodAll_below hl hb _ _ _ _ (fun t h => by simpa using List.all_eq_true.1 ht t h) hA0 (fun x hx => hlt x (by simp [hx]))
  · rw [hv, hs]; exact rfl
end
end Go.Proofs.Ytibghcmkmbamjaa
end
section
namespace Go.Proofs.Ytibghcmkmbamjaa
open Go.RowKit Go.MapKept Go.ChangeMaps
set_option linter.unusedVariables false
set_option linter.unusedSimpArgs false
set_option linter.unusedSectionVars false
/-- What a call may turn. -/
def Turns (N : Nat → Prop) (w w' : World) : Prop := ∃ S : List Nat, (∀ b ∈ S, N b) ∧ Upd S w w'
section
variable {w w' : World} {N : Nat → Prop}
theorem Turns.of (h : Upd [] w w') : Turns N w w' := ⟨[], by simp, h⟩
theorem Turns.of1 {b : Nat} (h : Upd [b] w w') (hb : N b) : Turns N w w' := ⟨[b], by simpa using hb, h⟩
theorem Turns.heap (h : Turns N w w') {b : Nat} {o : Obj} (hb : w.heap[b]? = some o) (hN : ¬ N b) : w'.heap[b]? = some o := by
  obtain ⟨S, hS, u⟩ := h
  exact u.heap hb (fun hm => hN (hS b hm))
theorem Turns.size (h : Turns N w w') : w.heap.size ≤ w'.heap.size := by
  obtain ⟨S, _, u⟩ := h
  exact u.size
theorem Turns.upd {w0 : World} (h : Turns N w w') (h0 : Upd [] w0 w) (hN : ∀ b, N b → w0.heap.size ≤ b) : Upd [] w0 w' := by
  obtain ⟨S, hS, u⟩ := h
  exact h0.step u (fun b hb => .inr (hN b (hS b hb)))
theorem Turns.mono {M : Nat → Prop} (h : Turns N w w') (hM : ∀ b, N b → M b) : Turns M w w' := by
  obtain ⟨S, hS, u⟩ := h
  exact ⟨S, fun b hb => hM b (hS b hb), u⟩
theorem Turns.trans {w2 : World} (h : Turns N w w') (g : Turns N w' w2) : Turns N w w2 := by
  obtain ⟨S, hS, u⟩ := h
  obtain ⟨T, hT, v⟩ := g
  exact ⟨S ++ T, fun b hb => (List.mem_append.1 hb).elim (hS b) (hT b), (u.mono (fun i hi => .inl (List.mem_append_left _ hi))).step v fun i hi => .inl (List.mem_append_right _ hi)⟩
end
abbrev Res := World → (Nat → Prop) → Prop
class Good (R : Res) : Prop where
  kept : ∀ {w w' : World} {N : Nat → Prop} {S : List Nat}, R w N → Upd S w w' → (∀ b ∈ S, ¬ N b) → R w' N
  mono : ∀ {w : World} {N M : Nat → Prop}, R w N → (∀ b, b < w.heap.size → N b → M b) → R w M
theorem Good.turn {R : Res} [Good R] {w w' : World} {N M : Nat → Prop} (h : R w N) (t : Turns M w w') (hd : ∀ b, M b → ¬ N b) : R w' N := by
  obtain ⟨S, hS, u⟩ := t
  exact Good.kept h u fun b hb => hd b (hS b hb)
/-- Both, apart. -/
def star (R T : Res) : Res := fun w N => ∃ A B : Nat → Prop, R w A ∧ T w B ∧ (∀ b, A b → N b) ∧ (∀ b, B b → N b) ∧ ∀ b, A b → ¬ B b
instance {R T : Res} [Good R] [Good T] : Good (star R T) where
  kept := fun ⟨A, B, h1, h2, h3, h4, h5⟩ u hS => ⟨A, B, Good.kept h1 u (fun b hb hA => hS b hb (h3 b hA)), Good.kept h2 u (fun b hb hB => hS b hb (h4 b hB)), h3, h4, h5⟩
  mono := fun {w N M} ⟨A, B, h1, h2, h3, h4, h5⟩ hM =>
    ⟨fun b => A b ∧ b < w.heap.size, fun b => B b ∧ b < w.heap.size, Good.mono h1 (fun b hb h => ⟨h, hb⟩), Good.mono h2 (fun b hb h => ⟨h, hb⟩), fun b h => hM b h.2 (h3 b h.1), fun b h => hM b h.2 (h4 b h.1), fun b h g => h5 b h.1 g.1⟩
/-- One block. -/
def blk (b : Nat) (o : Obj) : Res := fun w N => w.heap[b]? = some o ∧ N b
instance {b : Nat} {o : Obj} : Good (blk b o) where
  kept := fun ⟨h1, h2⟩ u hS => ⟨u.heap h1 (fun hm => hS b hm h2), h2⟩
  mono := fun ⟨h1, h2⟩ hM => ⟨h1, hM b (Array.getElem?_eq_some_iff.1 h1).1 h2⟩
/-- Nothing. -/
def emp : Res := fun _ _ => True
instance : Good emp where
  kept := fun _ _ _ => trivial
  mono := fun _ _ => trivial
/-- A map's block. -/
def mapR {K V : Type} [DecidableEq K] (ek : K → Value) (ev : V → Value) (ok : K → Prop) (b : Nat) (l : List (K × V)) : Res := fun w N => MapAt ek ev ok w b l ∧ N b
instance {K V : Type} [DecidableEq K] {ek : K → Value} {ev : V → Value} {ok : K → Prop} {b : Nat} {l : List (K × V)} : Good (mapR ek ev ok b l) where
  kept := fun ⟨h1, h2⟩ u hS => ⟨h1.kept u (fun hm => hS b hm h2), h2⟩
  mono := fun ⟨h1, h2⟩ hM => ⟨h1, hM b h1.lt h2⟩
/-- A slice that grows by append: rows of k cells. -/
def rowR (e : TypeId) (k : Nat) (v : Value) (l : List (List Value)) : Res := fun w N => w.ownsRow 0 e k v l.length l.flatten ∧ (∀ r ∈ l, r.length = k) ∧ ∀ g, v.ownBlock = some g → N g
theorem ownsRow_lt {w : World} {base k n : Nat} {e : TypeId} {v : Value} {xs : List Value} (h : w.ownsRow base e k v n xs) {g : Nat} (hg : v.ownBlock = some g) : g < w.heap.size := by
  rcases h.2 with ⟨rfl, _⟩ | ⟨g', cap, cur, rfl, _, h2, _⟩
  · cases hg
  · cases hg
    exact (Array.getElem?_eq_some_iff.1 h2).1
theorem ownsRow_upd {w w' : World} {base k n : Nat} {e : TypeId} {v : Value} {xs : List Value} {S : List Nat} (h : w.ownsRow base e k v n xs) (u : Upd S w w') (hS : ∀ g, v.ownBlock = some g → g ∉ S) : w'.ownsRow base e k v n xs := by
  refine ⟨h.1, ?_⟩
  rcases h.2 with h2 | ⟨g', cap, cur, rfl, h1, h2, h3⟩
  · exact .inl h2
  · exact .inr ⟨g', cap, cur, rfl, h1, u.heap h2 (hS g' rfl), h3⟩
instance {e : TypeId} {k : Nat} {v : Value} {l : List (List Value)} : Good (rowR e k v l) where
  kept := fun ⟨h1, h2, h3⟩ u hS => ⟨ownsRow_upd h1 u (fun g hg hm => hS g hm (h3 g hg)), h2, h3⟩
  mono := fun ⟨h1, h2, h3⟩ hM => ⟨h1, h2, fun g hg => hM g (ownsRow_lt h1 hg) (h3 g hg)⟩
theorem flatten_at {k : Nat} : ∀ {l : List (List Value)}, (∀ r ∈ l, r.length = k) → ∀ {i : Nat} {r : List Value}, l[i]? = some r → ∀ {j : Nat} {v : Value}, r[j]? = some v → l.flatten[i * k + j]? = some v
  | [], _, i, r, hi, _, _, _ => by simp at hi
  | x :: l, h, 0, r, hi, j, v, hj => by
    obtain rfl : x = r := by simpa using hi
    have : j < x.length := (List.getElem?_eq_some_iff.1 hj).1
    simp only [List.flatten_cons, Nat.zero_mul, Nat.zero_add]
    rw [List.getElem?_append_left this]
    exact hj
  | x :: l, h, i + 1, r, hi, j, v, hj => by
    have hx : x.length = k := h x (by simp)
    rw [List.flatten_cons, List.getElem?_append_right (by rw [hx, Nat.add_mul]; omega)]
    have e : (i + 1) * k + j - x.length = i * k + j := by rw [hx, Nat.add_mul]; omega
    rw [e]
    exact flatten_at (fun r hr => h r (by simp [hr])) (by simpa using hi) hj
/-- How it looks. -/
theorem rowR_look {e : TypeId} {k : Nat} {v : Value} {l : List (List Value)} {w : World} {N : Nat → Prop} (h : rowR e k v l w N) : ∃ A c, v = .slice A l.length c ∧ RowsAt w A k l := by
  obtain ⟨h1, h2, h3⟩ := h
  rcases h1.2 with ⟨rfl, hn⟩ | ⟨g, cap, cur, rfl, _, hg, _⟩
  · have : l = [] := List.eq_nil_of_length_eq_zero hn
    subst this
    exact ⟨none, 0, rfl, fun i r hi => by simp at hi⟩
  · refine ⟨_, _, rfl, fun i r hi => ⟨g, 0, rfl, fun j v hj => ?_⟩⟩
    have := h1.cells (g := g) rfl (i * k + j) v (flatten_at h2 hi hj)
    rw [addr_add] at this
    simpa [Nat.add_assoc] using this
theorem rowR_nil (e : TypeId) (k : Nat) (w : World) (N : Nat → Prop) : rowR e k (.slice none 0 0) [] w N := ⟨World.ownsRow_nil _ _ _ _, by simp, fun g hg => by cases hg⟩
/-- A call's own things, apart from each other, and all that was there before is as it was. -/
structure Sep (w0 w : World) (R : Res) : Prop where
  u : Upd [] w0 w
  r : R w (fun b => w0.heap.size ≤ b)
section
variable {w0 w w' : World} {R R' T U V : Res}
theorem Sep.step [Good R] [Good T] (h : Sep w0 w (star R T)) (f : ∀ N, R w N → (∀ b, w.heap.size ≤ b → N b) → R' w' N ∧ Turns N w w') : Sep w0 w' (star R' T) := by
  obtain ⟨u, A, B, h1, h2, h3, h4, h5⟩ := h
  have hs := u.size
  obtain ⟨g1, g2⟩ := f (fun b => (A b ∧ b < w.heap.size) ∨ w.heap.size ≤ b) (Good.mono h1 fun b hb h => .inl ⟨h, hb⟩) (fun b hb => .inr hb)
  have hA : ∀ b, ((A b ∧ b < w.heap.size) ∨ w.heap.size ≤ b) → w0.heap.size ≤ b := fun b hb => by
    rcases hb with hb | hb
    · exact h3 b hb.1
    · omega
  have hd : ∀ b, ((A b ∧ b < w.heap.size) ∨ w.heap.size ≤ b) → ¬ (B b ∧ b < w.heap.size) := fun b hb hB => by
    rcases hb with hb | hb
    · exact h5 b hb.1 hB.1
    · omega
  exact ⟨g2.upd u hA, _, fun b => B b ∧ b < w.heap.size, g1, Good.turn (Good.mono h2 fun b hb h => ⟨h, hb⟩) g2 hd, hA, fun b hb => h4 b hb.1, hd⟩
theorem Sep.call {P : Program} {fn : Nat} {args : Array Value} {α : Type} {Q : α → Ending → Prop} {S : α → Res} [Good R] [Good T] (h : Sep w0 w (star R T))
    (f : ∀ N, R w N → (∀ b, w.heap.size ≤ b → N b) → Calls P fn args w fun e w' => ∃ r, Q r e ∧ S r w' N ∧ Turns N w w') : Calls P fn args w fun e w' => ∃ r, Q r e ∧ Sep w0 w' (star (S r) T) := by
  obtain ⟨u, A, B, h1, h2, h3, h4, h5⟩ := h
  have hs := u.size
  have hA : ∀ b, ((A b ∧ b < w.heap.size) ∨ w.heap.size ≤ b) → w0.heap.size ≤ b := fun b hb => by
    rcases hb with hb | hb
    · exact h3 b hb.1
    · omega
  have hd : ∀ b, ((A b ∧ b < w.heap.size) ∨ w.heap.size ≤ b) → ¬ (B b ∧ b < w.heap.size) := fun b hb hB => by
    rcases hb with hb | hb
    · exact h5 b hb.1 hB.1
    · omega
  refine (f (fun b => (A b ∧ b < w.heap.size) ∨ w.heap.size ≤ b) (Good.mono h1 fun b hb h => .inl ⟨h, hb⟩) (fun b hb => .inr hb)).mono fun e w' ⟨r, hq, g1, g2⟩ => ⟨r, hq, ?_⟩
  exact ⟨g2.upd u hA, _, fun b => B b ∧ b < w.heap.size, g1, Good.turn (Good.mono h2 fun b hb h => ⟨h, hb⟩) g2 hd, hA, fun b hb => h4 b hb.1, hd⟩
theorem Sep.upd [Good R] (h : Sep w0 w R) (g : Upd [] w w') : Sep w0 w' R := ⟨h.u.trans g, Good.kept h.r g (by simp)⟩
theorem Sep.alloc [Good R] (h : Sep w0 w R) (o : Obj) : Sep w0 (w.alloc o) (star (blk w.heap.size o) R) := by
  have hs := h.u.size
  refine ⟨h.u.alloc o, fun b => b = w.heap.size, fun b => w0.heap.size ≤ b ∧ b < w.heap.size, ⟨heap_alloc_new _ _, rfl⟩, ?_, fun b hb => by omega, fun b hb => hb.1, fun b hb hB => by omega⟩
  exact Good.kept (Good.mono h.r (fun b hb h => ⟨h, hb⟩)) ((Upd.refl [] w).alloc o) (by simp)
theorem Sep.out [Good T] (h : Sep w0 w (star R T)) : Sep w0 w T := by
  obtain ⟨u, A, B, h1, h2, h3, h4, h5⟩ := h
  exact ⟨u, Good.mono h2 fun b _ hb => h4 b hb⟩
theorem Sep.fst [Good R] (h : Sep w0 w (star R T)) : Sep w0 w R := by
  obtain ⟨u, A, B, h1, h2, h3, h4, h5⟩ := h
  exact ⟨u, Good.mono h1 fun b _ hb => h3 b hb⟩
theorem Sep.swap (h : Sep w0 w (star R (star T U))) : Sep w0 w (star T (star R U)) := by
  obtain ⟨u, A, B, h1, ⟨C, D, k1, k2, k3, k4, k5⟩, h3, h4, h5⟩ := h
  refine ⟨u, C, fun b => A b ∨ D b, k1, ⟨A, D, h1, k2, fun b h => .inl h, fun b h => .inr h, fun b hA hD => h5 b hA (k4 b hD)⟩, fun b hb => h4 b (k3 b hb), fun b hb => hb.elim (h3 b) (fun h => h4 b (k4 b h)), fun b hC hb => ?_⟩
  rcases hb with hb | hb
  · exact h5 b hb (k3 b hC)
  · exact k5 b hC hb
theorem Sep.swap2 (h : Sep w0 w (star R (star T (star U V)))) : Sep w0 w (star U (star R (star T V))) := by
  obtain ⟨u, A, B, h1, h2, h3, h4, h5⟩ := h
  obtain ⟨C, D, k1, ⟨E, F, m1, m2, m3, m4, m5⟩, k3, k4, k5⟩ := h2
  refine ⟨u, E, fun b => A b ∨ C b ∨ F b, m1, ⟨A, fun b => C b ∨ F b, h1, ⟨C, F, k1, m2, fun b h => .inl h, fun b h => .inr h, fun b hC hF => k5 b hC (m4 b hF)⟩, fun b h => .inl h, fun b h => .inr h, fun b hA hb => ?_⟩, fun b hb => h4 b (k4 b (m3 b hb)), fun b hb => ?_, fun b hE hb => ?_⟩
  · rcases hb with hb | hb
    · exact h5 b hA (k3 b hb)
    · exact h5 b hA (k4 b (m4 b hb))
  · rcases hb with hb | hb | hb
    · exact h3 b hb
    · exact h4 b (k3 b hb)
    · exact h4 b (k4 b (m4 b hb))
  · rcases hb with hb | hb | hb
    · exact h5 b hb (k4 b (m3 b hE))
    · exact k5 b hb (m3 b hE)
    · exact m5 b hE hb
theorem Sep.comm (h : Sep w0 w (star R T)) : Sep w0 w (star T R) := by
  obtain ⟨u, A, B, h1, h2, h3, h4, h5⟩ := h
  exact ⟨u, B, A, h2, h1, h4, h3, fun b hB hA => h5 b hA hB⟩
theorem Sep.get (h : Sep w0 w (star R T)) : ∃ N, R w N := by
  obtain ⟨u, A, B, h1, h2, h3, h4, h5⟩ := h
  exact ⟨A, h1⟩
theorem Sep.blk {b : Nat} {o : Obj} (h : Sep w0 w (star (blk b o) T)) : w.heap[b]? = some o := by
  obtain ⟨N, h1, _⟩ := h.get
  exact h1
theorem Sep.start (w : World) : Sep w w emp := ⟨Upd.refl _ _, trivial⟩
theorem Sep.begin {R : Res} {w0 w : World} [Good R] (u : Upd [] w0 w) (h : R w (fun b => w0.heap.size ≤ b)) : Sep w0 w R := ⟨u, h⟩
end
/-- Blocks of the caller's own. -/
def own (K : List (Nat × Obj)) : Res := fun w N => ∀ p ∈ K, w.heap[p.1]? = some p.2 ∧ N p.1
instance {K : List (Nat × Obj)} : Good (own K) where
  kept := fun h u hS p hp => ⟨u.heap (h p hp).1 (fun hm => hS _ hm (h p hp).2), (h p hp).2⟩
  mono := fun h hM p hp => ⟨(h p hp).1, hM _ (Array.getElem?_eq_some_iff.1 (h p hp).1).1 (h p hp).2⟩
def SepK (w0 w : World) (K : List (Nat × Obj)) (R : Res) : Prop := Sep w0 w (star (own K) R)
section
variable {P : Program} {w0 w w' : World} {K : List (Nat × Obj)} {R R' T U V X : Res}
theorem star_swap {N : Nat → Prop} (h : (star R (star T U)) w N) : (star T (star R U)) w N := by
  obtain ⟨A, B, h1, ⟨C, D, k1, k2, k3, k4, k5⟩, h3, h4, h5⟩ := h
  refine ⟨C, fun b => A b ∨ D b, k1, ⟨A, D, h1, k2, fun b h => .inl h, fun b h => .inr h, fun b hA hD => h5 b hA (k4 b hD)⟩, fun b hb => h4 b (k3 b hb), fun b hb => hb.elim (h3 b) (fun h => h4 b (k4 b h)), fun b hC hb => ?_⟩
  rcases hb with hb | hb
  · exact h5 b hb (k3 b hC)
  · exact k5 b hC hb
theorem star_imp {N : Nat → Prop} (h : (star R T) w N) (f : ∀ M, T w M → U w M) : (star R U) w N := by
  obtain ⟨A, B, h1, h2, h3⟩ := h
  exact ⟨A, B, h1, f _ h2, h3⟩
theorem SepK.imp (h : SepK w0 w K R) (f : ∀ N, R w N → R' w N) : SepK w0 w K R' := ⟨h.u, star_imp h.r f⟩
theorem SepK.swap (h : SepK w0 w K (star R (star T U))) : SepK w0 w K (star T (star R U)) := h.imp fun _ => star_swap
theorem SepK.pull2 (h : SepK w0 w K (star R (star T (star U V)))) : SepK w0 w K (star U (star R (star T V))) := h.imp fun _ g => star_swap (star_imp g fun _ => star_swap)
theorem SepK.push2 (h : SepK w0 w K (star U (star R (star T V)))) : SepK w0 w K (star R (star T (star U V))) := h.imp fun _ g => star_imp (star_swap g) fun _ => star_swap
theorem SepK.pull3 (h : SepK w0 w K (star R (star T (star U (star V X))))) : SepK w0 w K (star V (star R (star T (star U X)))) := h.imp fun _ g => star_swap (star_imp g fun _ g => star_swap (star_imp g fun _ => star_swap))
theorem SepK.push3 (h : SepK w0 w K (star V (star R (star T (star U X))))) : SepK w0 w K (star R (star T (star U (star V X)))) := h.imp fun _ g => star_imp (star_swap g) fun _ g => star_imp (star_swap g) fun _ => star_swap
theorem SepK.get (h : SepK w0 w K (star R T)) : ∃ N, R w N := by
  obtain ⟨N, B, h1, h2, h3⟩ := (Sep.swap h).r
  exact ⟨N, h1⟩
theorem SepK.upd [Good R] (h : SepK w0 w K R) (g : Upd [] w w') : SepK w0 w' K R := Sep.upd (R := star (own K) R) h g
theorem SepK.blk (h : SepK w0 w K R) {b : Nat} {o : Obj} (hp : (b, o) ∈ K) : w.heap[b]? = some o := by
  obtain ⟨u, A, B, h1, h2⟩ := h
  exact (h1 _ hp).1
theorem SepK.drop (h : SepK w0 w K R) (K' : List (Nat × Obj)) (hK : ∀ p ∈ K', p ∈ K) : SepK w0 w K' R := by
  obtain ⟨u, A, B, h1, h2, h3⟩ := h
  exact ⟨u, A, B, fun p hp => h1 p (hK p hp), h2, h3⟩
theorem SepK.alloc [Good R] (h : SepK w0 w K R) (o : Obj) : SepK w0 (w.alloc o) ((w.heap.size, o) :: K) R := by
  have := Sep.alloc (R := star (own K) R) h o
  obtain ⟨u, A, B, h1, ⟨C, D, k1, k2, k3, k4, k5⟩, h3, h4, h5⟩ := this
  refine ⟨u, fun b => A b ∨ C b, D, fun p hp => ?_, k2, fun b hb => hb.elim (h3 b) (fun h => h4 b (k3 b h)), fun b hb => h4 b (k4 b hb), fun b hb hD => ?_⟩
  · rcases List.mem_cons.1 hp with rfl | hp
    · exact ⟨h1.1, .inl h1.2⟩
    · exact ⟨(k1 p hp).1, .inr (k1 p hp).2⟩
  · rcases hb with hb | hb
    · exact h5 b hb (k4 b hD)
    · exact k5 b hb hD
theorem SepK.step [Good R] [Good T] (h : SepK w0 w K (star R T)) (f : ∀ N, R w N → (∀ b, w.heap.size ≤ b → N b) → R' w' N ∧ Turns N w w') : SepK w0 w' K (star R' T) :=
  Sep.swap (Sep.step (R := R) (T := star (own K) T) (Sep.swap h) f)
theorem SepK.call {fn : Nat} {args : Array Value} {α : Type} {Q : α → Ending → Prop} {S : α → Res} [Good R] [Good T] (h : SepK w0 w K (star R T))
    (f : ∀ N, R w N → (∀ b, w.heap.size ≤ b → N b) → Calls P fn args w fun e w' => ∃ r, Q r e ∧ S r w' N ∧ Turns N w w') : Calls P fn args w fun e w' => ∃ r, Q r e ∧ SepK w0 w' K (star (S r) T) :=
  (Sep.call (R := R) (T := star (own K) T) (Sep.swap h) f).mono fun e w' ⟨r, h1, h2⟩ => ⟨r, h1, Sep.swap h2⟩
theorem SepK.call1 {fn : Nat} {args : Array Value} {r : Ending} [Good R] [Good T] (h : SepK w0 w K (star R T))
    (f : ∀ N, R w N → (∀ b, w.heap.size ≤ b → N b) → Calls P fn args w fun e w' => e = r ∧ R' w' N ∧ Turns N w w') : Calls P fn args w fun e w' => e = r ∧ SepK w0 w' K (star R' T) :=
  (SepK.call (α := Unit) (Q := fun _ e => e = r) (S := fun _ => R') h fun N hN hf => (f N hN hf).mono fun e w' ⟨a, b, c⟩ => ⟨(), a, b, c⟩).mono fun e w' ⟨_, a, b⟩ => ⟨a, b⟩
theorem SepK.call0 {fn : Nat} {args : Array Value} {r : Ending} [Good R] [Good T] (h : SepK w0 w K (star R T))
    (f : ∀ N, R w N → Calls P fn args w fun e w' => e = r ∧ R w' N ∧ Upd [] w w') : Calls P fn args w fun e w' => e = r ∧ SepK w0 w' K (star R T) :=
  SepK.call1 h fun N hN _ => (f N hN).mono fun e w' ⟨a, b, c⟩ => ⟨a, b, .of c⟩
theorem SepK.start (w : World) : SepK w w [] emp := ⟨Upd.refl _ _, fun _ => False, fun _ => False, fun p hp => by simp at hp, trivial, fun b hb => hb.elim, fun b hb => hb.elim, fun b hb => hb.elim⟩
/-- One thing more, of new blocks. -/
theorem SepK.more [Good R] {M : Nat → Prop} (h : SepK w0 w K R) (u : Upd [] w w') (hT : T w' M) (hM : ∀ b, M b → w.heap.size ≤ b) : SepK w0 w' K (star T R) := by
  have hs := h.u.size
  obtain ⟨u0, A, B, h1, h2, h3, h4, h5⟩ := h
  refine ⟨u0.trans u, fun b => A b ∧ b < w.heap.size, fun b => M b ∨ (B b ∧ b < w.heap.size), Good.kept (Good.mono h1 fun b hb h => ⟨h, hb⟩) u (by simp), ⟨M, fun b => B b ∧ b < w.heap.size, hT, Good.kept (Good.mono h2 fun b hb h => ⟨h, hb⟩) u (by simp), fun b h => .inl h, fun b h => .inr h, fun b hb hB => by have := hM b hb; omega⟩, fun b hb => h3 b hb.1, fun b hb => ?_, fun b hb hB => ?_⟩
  · rcases hb with hb | hb
    · have := hM b hb; omega
    · exact h4 b hb.1
  · rcases hB with hB | hB
    · have := hM b hB; omega
    · exact h5 b hb.1 hB.1
theorem SepK.row0 (e : TypeId) (k : Nat) [Good R] (h : SepK w0 w K R) : SepK w0 w K (star (rowR e k (.slice none 0 0) []) R) := h.more (Upd.refl _ _) (M := fun _ => False) (rowR_nil _ _ _ _) (fun _ hb => hb.elim)
theorem SepK.map0 {A B : Type} [DecidableEq A] (ek : A → Value) (ev : B → Value) (ok : A → Prop) [Good R] (h : SepK w0 w K R) : SepK w0 (w.alloc (.map #[] 0)) K (star (mapR ek ev ok w.heap.size []) R) :=
  h.more ((Upd.refl _ _).alloc _) (M := fun b => b = w.heap.size) ⟨.made ek ev ok w, rfl⟩ (fun _ hb => by omega)
/-- A cell of a block of the caller's own is set. -/
theorem SepK.set [Good R] {b : Nat} {o : Obj} (h : SepK w0 w ((b, o) :: K) R) (u : Upd [b] w w') {o' : Obj} (hb : w'.heap[b]? = some o') (hK : ∀ p ∈ K, p.1 ≠ b) : SepK w0 w' ((b, o') :: K) R := by
  obtain ⟨u0, A, B, h1, h2, h3, h4, h5⟩ := h
  have hA := (h1 (b, o) (by simp)).2
  refine ⟨u0.step u (fun i hi => ?_), A, B, fun p hp => ?_, Good.kept h2 u (fun c hc => ?_), h3, h4, h5⟩
  · obtain rfl := List.mem_singleton.1 hi
    exact .inr (h3 _ hA)
  · rcases List.mem_cons.1 hp with rfl | hp'
    · exact ⟨hb, hA⟩
    · exact ⟨u.heap (h1 p (by simp [hp'])).1 (by simpa using hK p hp'), (h1 p (by simp [hp'])).2⟩
  · obtain rfl := List.mem_singleton.1 hc
    exact h5 _ hA
theorem SepK.gain [Good T] (h : SepK w0 w K T) (g : Upd [] w w') {r : Nat} {o : Obj} (hr : w.heap.size ≤ r) (hb : w'.heap[r]? = some o) : SepK w0 w' ((r, o) :: K) T := by
  have hs := h.u.size
  obtain ⟨u, A, B, h1, h2, h3, h4, h5⟩ := h
  refine ⟨u.trans g, fun b => (A b ∧ b < w.heap.size) ∨ b = r, fun b => B b ∧ b < w.heap.size, fun p hp => ?_, Good.kept (Good.mono h2 fun b hb h => ⟨h, hb⟩) g (by simp), fun b hb => ?_, fun b hb => h4 b hb.1, fun b hb hB => ?_⟩
  · rcases List.mem_cons.1 hp with rfl | hp
    · exact ⟨hb, .inr rfl⟩
    · have := h1 p hp
      exact ⟨g.heap this.1 (by simp), .inl ⟨this.2, lt_of_heap this.1⟩⟩
  · rcases hb with hb | rfl
    · exact h3 b hb.1
    · omega
  · rcases hb with hb | rfl
    · exact h5 b hb.1 hB.1
    · omega
/-- An empty slice that has a block. -/
theorem SepK.row1 [Good T] (e : TypeId) (k : Nat) (t : Array Value) (h : SepK w0 w K T) (ht : t = #[]) : SepK w0 (w.alloc (.cells t e (0, 0))) K (star (rowR e k (.slice (some ⟨w.heap.size, 0, none⟩) 0 0) []) T) := by
  subst ht
  refine h.more ((Upd.refl _ _).alloc _) (M := fun b => b = w.heap.size) ⟨⟨by simp, .inr ⟨w.heap.size, 0, #[], rfl, Nat.zero_le _, heap_alloc_new _ _, Nat.le_refl _, Nat.zero_le _, by simp, by simp⟩⟩, by simp, fun g hg => ?_⟩ (fun _ hb => by omega)
  cases hg
  rfl
end
section
variable {P : Program} {w0 w : World} {KK : List (Nat × Obj)} {T : Res}
theorem wl_append {ops : Array Oper} {rest : List Oper} {o : Oper} {a : Act} {Q : Exit → Act → World → Prop} [Good T] (hgd : o.guard = none) (s x : Operand) (t : TypeId)
    (ho : o.op = .call { callee := .builtin .append, args := #[s, x], argTypes := #[t, t] })
    (e : TypeId) (i : TypeInfo) (z : Value) (k bytes : Nat) (ht : P.underlying t = some (.slice e)) (hi : P.info? e = some i) (hz : i.zero = some z)
    (hsize : i.size = k) (hby : i.bytes = bytes) (hzs : z.cells.size = k) (hk : 0 < k)
    (v : Value) (l : List (List Value)) (hs : a.eval s = v) (H : SepK w0 w KK (star (rowR e k v l) T))
    (ad : Addr) (c : Nat) (r : List Value) (hx : a.eval x = .slice (some ad) 1 c) (hl : r.length = k) (hnews : ∀ j u, r[j]? = some u → w.cell? (ad.add j) = some u) (h1 : ∀ u ∈ r, u.oneCell' = true)
    (h63 : l.length + 1 ≤ maxLen) (hbytes : (l.length + 1) * bytes ≤ 140737488355328)
    (h : ∀ v' w', SepK w0 w' KK (star (rowR e k v' (l ++ [r])) T) → wpList P ops Q rest (a.put o.dst v') w') : wpList P ops Q (o :: rest) a w := by
  refine wpList_plain hgd fun K hK => ?_
  have hown : w.ownsRow 0 e k v l.length l.flatten := by
    obtain ⟨N, hN, _⟩ := H.get
    exact hN
  obtain ⟨v', w', hr, h2, h3, h4, h5⟩ := run_append_own_at (P := P) w 0 t o.type e i z k bytes ht hi hz hsize hby hzs hk v l.length l.flatten hown ad 1 c r (by omega) hnews h1 h63 hbytes (Nat.zero_le _)
  unfold Oper.wp execOp
  simp only [ho, resolve, invoke, builtin, Sem.run_bind, Sem.run_pure, Result.andThen_ok, List.map_toArray, List.map_cons, List.map_nil, hs, hx, hr]
  refine hK _ _ (h v' w' (H.step fun N hR hN => ?_))
  obtain ⟨g1, g2, g3⟩ := hR
  refine ⟨⟨by simpa using h2, fun y hy => ?_, fun g hg => ?_⟩, ?_⟩
  · rcases List.mem_append.1 hy with hy | hy
    · exact g2 y hy
    · obtain rfl := List.mem_singleton.1 hy
      exact hl
  · rcases h5 with h5 | h5
    · exact g3 g (h5 ▸ hg)
    · rw [h5] at hg
      cases hg
      exact hN _ (Nat.le_refl _)
  · cases hv : v.ownBlock with
    | none => exact .of ⟨h3.os, h3.tape, h3.output, h3.size, fun k hk _ => h3.block k hk (by rw [hv]; simp)⟩
    | some g => exact .of1 (.of_grown (hv ▸ h3)) (g3 g hv)
theorem SepK.row {e : TypeId} {k : Nat} {v : Value} {l : List (List Value)} (h : SepK w0 w KK (star (rowR e k v l) T)) : ∃ A c, v = .slice A l.length c ∧ RowsAt w A k l := by
  obtain ⟨N, hN⟩ := h.get
  exact rowR_look hN
variable {K V : Type} [DecidableEq K] {ek : K → Value} {ev : V → Value} {ok : K → Prop} {b : Nat} {l : List (K × V)} {t k e : TypeId}
theorem SepK.map (h : SepK w0 w KK (star (mapR ek ev ok b l) T)) : MapAt ek ev ok w b l := by
  obtain ⟨N, hN⟩ := h.get
  exact hN.1
theorem wl_put {ops : Array Oper} {rest : List Oper} {o : Oper} {a : Act} {Q : Exit → Act → World → Prop} [Good T] (hg : o.guard = none) (m x v : Operand) (hop : o.op = Op.mapUpdate t m x v) (Y : Kops P k ek ok) (ht : P.underlying t = some (.map k e))
    (hm : a.eval m = .map (some b)) (H : SepK w0 w KK (star (mapR ek ev ok b l) T)) (key : K) (val : V) (hx : a.eval x = ek key) (hv : a.eval v = ev val) (hok : ok key)
    (hK : ∀ w', SepK w0 w' KK (star (mapR ek ev ok b (aput l key val)) T) → wpList P ops Q rest (a.put o.dst undef) w') : wpList P ops Q (o :: rest) a w := by
  refine wl_mapUpdate hg m x v hop Y ht hm H.map key val hx hv hok fun w' h1 h2 h3 => hK w' (H.step fun N hR hN => ⟨⟨h1, hR.2⟩, .of1 h2 hR.2⟩)
theorem wl_del {ops : Array Oper} {rest : List Oper} {o : Oper} {a : Act} {Q : Exit → Act → World → Prop} [Good T] (hg : o.guard = none) (m x : Operand) (tys : Array TypeId) (hty : tys[0]? = some t) (hop : o.op = Op.call { callee := Callee.builtin Builtin.delete, args := #[m, x], argTypes := tys }) (Y : Kops P k ek ok) (ht : P.underlying t = some (.map k e))
    (hm : a.eval m = .map (some b)) (H : SepK w0 w KK (star (mapR ek ev ok b l) T)) (key : K) (hx : a.eval x = ek key) (hok : ok key)
    (hK : ∀ w', SepK w0 w' KK (star (mapR ek ev ok b (adel l key)) T) → wpList P ops Q rest (a.put o.dst (.tuple #[])) w') : wpList P ops Q (o :: rest) a w := by
  refine wl_delete hg m x tys hty hop Y ht hm H.map key hx hok fun w' h1 h2 h3 => hK w' (H.step fun N hR hN => ⟨⟨h1, hR.2⟩, .of1 h2 hR.2⟩)
end
end Go.Proofs.Ytibghcmkmbamjaa
end
section
namespace Go.Proofs.Ytibghcmkmbamjaa
open Go.RowKit Go.MapKept Go.ChangeMaps
set_option linter.unusedVariables false
set_option linter.unusedSimpArgs false
set_option linter.unusedSectionVars false
theorem flatten_inv {k : Nat} : ∀ {l : List (List Value)}, (∀ r ∈ l, r.length = k) → ∀ {j : Nat} {u : Value}, l.flatten[j]? = some u → ∃ i r row, j = i * k + r ∧ l[i]? = some row ∧ row[r]? = some u
  | [], _, j, u, h => by simp at h
  | x :: l, h, j, u, hj => by
    have hx : x.length = k := h x (by simp)
    rw [List.flatten_cons] at hj
    by_cases hlt : j < x.length
    · rw [List.getElem?_append_left hlt] at hj
      exact ⟨0, j, x, by simp, rfl, hj⟩
    · rw [List.getElem?_append_right (by omega)] at hj
      obtain ⟨i, r, row, e, h1, h2⟩ := flatten_inv (fun r hr => h r (by simp [hr])) hj
      exact ⟨i + 1, r, row, by rw [Nat.add_mul]; omega, by simpa using h1, h2⟩
theorem flatten_len {k : Nat} : ∀ {l : List (List Value)}, (∀ r ∈ l, r.length = k) → l.flatten.length = l.length * k
  | [], _ => by simp
  | x :: l, h => by
    have hx : x.length = k := h x (by simp)
    rw [List.flatten_cons, List.length_append, flatten_len (fun r hr => h r (by simp [hr])), List.length_cons, Nat.add_mul]
    omega
/-- A slice value that reads as rows; a nil one is nil. -/
def PartAt (w : World) (v : Value) (k : Nat) (l : List (List Value)) : Prop := ∃ A c, v = .slice A l.length c ∧ RowsAt w A k l ∧ (A = none → c = 0)
theorem PartAt.keep {w w' : World} {v : Value} {k : Nat} {l : List (List Value)} (h : PartAt w v k l) (u : Upd [] w w') : PartAt w' v k l := by
  obtain ⟨A, c, h1, h2, h3⟩ := h
  exact ⟨A, c, h1, h2.keep u, h3⟩
section
variable {P : Program} {w0 w : World} {KK : List (Nat × Obj)} {T : Res}
theorem run_append_part (t ty e : TypeId) (i : TypeInfo) (z : Value) (k bytes : Nat) (ht : P.underlying t = some (.slice e)) (hi : P.info? e = some i) (hz : i.zero = some z)
    (hsize : i.size = k) (hby : i.bytes = bytes) (hzs : z.cells.size = k) (hk : 0 < k) [Good T]
    (v : Value) (l : List (List Value)) (H : SepK w0 w KK (star (rowR e k v l) T)) (s : Value) (l2 : List (List Value)) (hs : PartAt w s k l2) (hr : ∀ r ∈ l2, r.length = k) (h1 : ∀ r ∈ l2, ∀ u ∈ r, u.oneCell' = true)
    (h63 : l.length + l2.length ≤ maxLen) (hbytes : (l.length + l2.length) * bytes ≤ 140737488355328) :
    ∃ v' w', (Builtin.append_ #[t, t] ty #[v, s]).run P w = .ok v' w' ∧ SepK w0 w' KK (star (rowR e k v' (l ++ l2)) T) := by
  have hown : w.ownsRow 0 e k v l.length l.flatten := by
    obtain ⟨N, hN, _⟩ := H.get
    exact hN
  obtain ⟨A, c, rfl, hA, hc⟩ := hs
  cases A with
  | none =>
    have hl2 : l2 = [] := by
      cases l2 with
      | nil => rfl
      | cons r l2 =>
        obtain ⟨b, off, e, _⟩ := hA 0 r rfl
        cases e
    subst hl2
    rw [hc rfl]
    refine ⟨v, w, run_append_owned_none (P := P) w 0 t ty e i k ht hi v l.length l.flatten hown, ?_⟩
    rw [List.append_nil]
    exact H
  | some a =>
    obtain ⟨v', w', hrun, h2, h3, h4, h5⟩ := run_append_own_at (P := P) w 0 t ty e i z k bytes ht hi hz hsize hby hzs hk v l.length l.flatten hown a l2.length c l2.flatten (flatten_len hr) (fun j u hj => by
        obtain ⟨i', r, row, e1, e2, e3⟩ := flatten_inv hr hj
        obtain ⟨b, off, e4, hc'⟩ := hA i' row e2
        cases e4
        rw [addr_add, e1]
        have := hc' r u e3
        rwa [Nat.add_assoc] at this) (fun u hu => by
        obtain ⟨r, hr', hu'⟩ := List.mem_flatten.1 hu
        exact h1 r hr' u hu') h63 hbytes (Nat.zero_le _)
    refine ⟨v', w', hrun, H.step fun N hR hN => ?_⟩
    obtain ⟨g1, g2, g3⟩ := hR
    refine ⟨⟨by simpa using h2, fun y hy => ?_, fun g hg => ?_⟩, ?_⟩
    · rcases List.mem_append.1 hy with hy | hy
      · exact g2 y hy
      · exact hr y hy
    · rcases h5 with h5 | h5
      · exact g3 g (h5 ▸ hg)
      · rw [h5] at hg
        cases hg
        exact hN _ (Nat.le_refl _)
    · cases hv : v.ownBlock with
      | none => exact .of ⟨h3.os, h3.tape, h3.output, h3.size, fun k hk _ => h3.block k hk (by rw [hv]; simp)⟩
      | some g => exact .of1 (.of_grown (hv ▸ h3)) (g3 g hv)
theorem wl_part {ops : Array Oper} {rest : List Oper} {o : Oper} {a : Act} {Q : Exit → Act → World → Prop} [Good T] (hgd : o.guard = none) (s x : Operand) (t : TypeId)
    (ho : o.op = .call { callee := .builtin .append, args := #[s, x], argTypes := #[t, t] })
    (e : TypeId) (i : TypeInfo) (z : Value) (k bytes : Nat) (ht : P.underlying t = some (.slice e)) (hi : P.info? e = some i) (hz : i.zero = some z)
    (hsize : i.size = k) (hby : i.bytes = bytes) (hzs : z.cells.size = k) (hk : 0 < k)
    (v : Value) (l : List (List Value)) (hs : a.eval s = v) (H : SepK w0 w KK (star (rowR e k v l) T))
    (y : Value) (l2 : List (List Value)) (hx : a.eval x = y) (hp : PartAt w y k l2) (hr : ∀ r ∈ l2, r.length = k) (h1 : ∀ r ∈ l2, ∀ u ∈ r, u.oneCell' = true)
    (h63 : l.length + l2.length ≤ maxLen) (hbytes : (l.length + l2.length) * bytes ≤ 140737488355328)
    (h : ∀ v' w', SepK w0 w' KK (star (rowR e k v' (l ++ l2)) T) → wpList P ops Q rest (a.put o.dst v') w') : wpList P ops Q (o :: rest) a w := by
  refine wpList_plain hgd fun K hK => ?_
  obtain ⟨v', w', hr, H'⟩ := run_append_part (P := P) t o.type e i z k bytes ht hi hz hsize hby hzs hk v l H y l2 hp hr h1 h63 hbytes
  unfold Oper.wp execOp
  simp only [ho, resolve, invoke, builtin, Sem.run_bind, Sem.run_pure, Result.andThen_ok, List.map_toArray, List.map_cons, List.map_nil, hs, hx, hr]
  exact hK _ _ (h v' w' H')
/-- How a row looks: the first ones of it, the last ones. -/
theorem SepK.parts {e : TypeId} {k : Nat} {v : Value} {l : List (List Value)} (h : SepK w0 w KK (star (rowR e k v l) T)) :
    ∃ A c, v = .slice A l.length c ∧ RowsAt w A k l ∧ l.length ≤ c ∧ c ≤ maxLen ∧ (A = none → c = 0) := by
  obtain ⟨N, h1, h2, h3⟩ := h.get
  have hlook := rowR_look ⟨h1, h2, h3⟩
  rcases h1.2 with ⟨rfl, hn⟩ | ⟨g, cap, cur, rfl, _, hg, hc, hm, _⟩
  · obtain ⟨A, c, e, hr⟩ := hlook
    simp only [Value.slice.injEq] at e
    obtain ⟨rfl, -, rfl⟩ := e
    exact ⟨none, 0, by rw [hn], hr, by omega, by unfold maxLen; omega, fun _ => rfl⟩
  · obtain ⟨A, c, e, hr⟩ := hlook
    simp only [Value.slice.injEq] at e
    obtain ⟨rfl, -, rfl⟩ := e
    exact ⟨_, _, rfl, hr, hc, hm, fun e => by cases e⟩
theorem part_take {A : Option Addr} {k m c : Nat} {l : List (List Value)} (hr : RowsAt w A k l) (hm : m ≤ l.length) (hc : A = none → c = 0) : PartAt w (.slice A m c) k (l.take m) := by
  have e : (l.take m).length = m := by simp; omega
  refine ⟨A, c, by rw [e], fun i r hi => ?_, hc⟩
  rw [List.getElem?_take] at hi
  split at hi
  · exact hr i r hi
  · cases hi
theorem part_drop {A : Option Addr} {k m c : Nat} {l : List (List Value)} (hr : RowsAt w A k l) (hm : m ≤ l.length) (hlc : l.length ≤ c) (hc : A = none → c = 0) : PartAt w (.slice (if c = m then A else A.map fun a => a.add (m * k)) (l.length - m) (c - m)) k (l.drop m) := by
  have e : (l.drop m).length = l.length - m := by simp
  refine ⟨_, _, by rw [e], fun i r hi => ?_, fun h => ?_⟩
  · rw [List.getElem?_drop] at hi
    have hlt := (List.getElem?_eq_some_iff.1 hi).1
    obtain ⟨b, off, hA, hcell⟩ := hr (m + i) r hi
    rw [if_neg (by omega), hA]
    refine ⟨b, off + m * k, by simp [addr_add], fun j v hj => ?_⟩
    have := hcell j v hj
    rw [Nat.add_mul] at this
    rwa [show off + m * k + i * k + j = off + (m * k + i * k) + j by omega]
  · split at h
    · rename_i e2
      omega
    · cases A with
      | none => have := hc rfl; omega
      | some a => cases h
end
end Go.Proofs.Ytibghcmkmbamjaa
end
section
namespace Go.Proofs.Ytibghcmkmbamjaa
open Go.RowKit
set_option linter.unusedVariables false
set_option linter.unusedSimpArgs false
/-- A byte in memory. -/
def bcell (b : UInt8) : Value := .int .u8 (b.toNat : Int)
/-- Bytes as a string. -/
def bstr (l : List UInt8) : ByteArray := ⟨l.toArray⟩
theorem bstr_data (s : ByteArray) : bstr s.data.toList = s := by cases s; simp [bstr]
theorem bstr_inj {l m : List UInt8} (h : bstr l = bstr m) : l = m := by
  have := congrArg (fun s : ByteArray => s.data.toList) h
  simpa [bstr] using this
theorem bstr_size (l : List UInt8) : (bstr l).size = l.length := by simp [bstr, ByteArray.size]
/-- Block b holds these bytes (its elements are of type e). -/
def BytesAt (e : TypeId) (w : World) (b : Nat) (l : List UInt8) : Prop := w.heap[b]? = some (.cells (l.map bcell).toArray e (0, 0))
variable {e : TypeId} {w w' : World} {b : Nat} {l : List UInt8} {P : Program}
theorem BytesAt.cell (h : BytesAt e w b l) (i : Nat) : w.cell? ⟨b, i, none⟩ = (l[i]?).map bcell := by
  rw [cell_of h]; simp
theorem BytesAt.lt (h : BytesAt e w b l) : b < w.heap.size := lt_of_heap h
theorem BytesAt.kept {S : List Nat} (h : BytesAt e w b l) (u : Upd S w w') (hb : b ∉ S) : BytesAt e w' b l := u.heap h hb
theorem strOfNums_bytes (l : List UInt8) : strOfNums (l.map fun b => (b.toNat : Int)) = bstr l := by
  simp [strOfNums, bstr, Function.comp_def]
theorem BytesAt.conv (h : BytesAt e w b l) {src dst : TypeId} (hs : P.underlying src = some (.slice e)) (he : P.underlying e = some (.int .u8)) (hd : P.underlying dst = some .string) (off len cap : Nat) (hl : off + len ≤ l.length) :
    (convert src dst (.slice (some ⟨b, off, none⟩) len cap)).run P w = .ok (.string (bstr ((l.drop off).take len))) w := by
  have := run_convert_bytes_arg w src e hs he b off len cap (((l.drop off).take len).map fun b => (b.toNat : Int)) (by simp; omega) (fun i hi => by
    rw [h.cell]
    have h1 : l[off + i]? = some (l[off + i]'(by omega)) := List.getElem?_eq_getElem (by omega)
    rw [h1]
    have h2 : ((l.drop off).take len)[i]? = some (l[off + i]'(by omega)) := by
      rw [List.getElem?_take, if_pos hi, List.getElem?_drop, h1]
    show _ = some (Value.int .u8 _)
    rw [List.getD_eq_getElem?_getD, List.getElem?_map, h2]
    rfl) dst hd
  rw [this, strOfNums_bytes]
/-- Bytes written over others, from o on. -/
def over (l : List UInt8) (o : Nat) (m : List UInt8) : List UInt8 := l.take o ++ m ++ l.drop (o + m.length)
theorem over_length (l : List UInt8) (o : Nat) (m : List UInt8) (h : o + m.length ≤ l.length) : (over l o m).length = l.length := by
  simp [over]; omega
theorem setRow_upd {w : World} {g : Nat} {cur cs : Array Value} {t : TypeId} {fr : Nat × Nat} (hg : w.heap[g]? = some (.cells cur t fr)) :
    Upd [g] w (w.setRow g cs) ∧ (w.setRow g cs).heap[g]? = some (.cells cs t fr) ∧ (w.setRow g cs).heap.size = w.heap.size := by
  have hlt := lt_of_heap hg
  refine ⟨⟨rfl, rfl, rfl, by simp [World.setRow], fun i hi hm => ?_⟩, ?_, by simp [World.setRow]⟩
  · simp only [List.mem_singleton] at hm
    simp [World.setRow, Array.getElem?_modify, Ne.symm hm]
  · simp [World.setRow, Array.getElem?_modify, hg]
theorem BytesAt.copy (h : BytesAt e w b l) {dT sT : TypeId} (hu : P.underlying dT = some (.slice e)) (hs : (P.info? e).map (·.size) = some 1) (ty : TypeId) (off len cap : Nat) (s : ByteArray) (hsz : s.size ≤ len) (hl : off + len ≤ l.length) :
    ∃ w', (Builtin.copy_ #[dT, sT] ty #[.slice (some ⟨b, off, none⟩) len cap, .string s]).run P w = .ok (.int .i64 (s.size : Int)) w' ∧ BytesAt e w' b (over l off s.data.toList) ∧ Upd [b] w w' ∧ w'.heap.size = w.heap.size := by
  have hsl : s.data.toList.length = s.size := rfl
  have hst := run_storeCells_at P b off e (s.data.toList.map bcell) 0 _ w h (by simp only [List.length_map, hsl, List.size_toArray]; omega) (fun v hv => by obtain ⟨x, _, rfl⟩ := List.mem_map.1 hv; rfl)
  have hmin : Nat.min s.size len = s.size := Nat.min_eq_left hsz
  obtain ⟨u1, u2, u3⟩ := setRow_upd (cs := (((l.map bcell).toArray).toList.take (off + 0) ++ s.data.toList.map bcell ++ ((l.map bcell).toArray).toList.drop (off + 0 + (s.data.toList.map bcell).length)).toArray) h
  refine ⟨_, ?_, ?_, u1, u3⟩
  · cases hq : P.info? e with
    | none => simp [hq] at hs
    | some i =>
      have hi : i.size = 1 := by simpa [hq] using hs
      have hx : (s.extract 0 s.size).data.map (fun b => Value.int .u8 (b.toNat : Int)) = (s.data.toList.map bcell).toArray := by
        rw [ByteArray.extract_zero_size]
        show s.data.map bcell = _
        rw [← List.map_toArray]
      simp only [Nat.add_zero] at hst
      simp only [Builtin.copy_, run_underlying hu, Builtin.lenOf, Builtin.firstCells, sizeOf, typeInfo, hq, hi, hmin, goInt, Sem.run_bind, Result.andThen_ok, Sem.run_pure, hx, List.getElem?_toArray, List.getElem?_cons_zero, List.getElem?_cons_succ, run_program, hst, Nat.add_zero]
  · unfold BytesAt
    rw [u2]
    simp [over, hsl, List.map_take, List.map_drop]
theorem made_bytes (n : Nat) : madeCells (Value.int .u8 0).cells n = ((List.replicate n (0 : UInt8)).map bcell).toArray := by
  apply Array.ext
  · simp [madeCells]
  · intro i h1 h2
    simp [madeCells, Value.cells, bcell, Nat.mod_one]
theorem make_bytes {t : TypeId} (ht : P.underlying t = some (.slice e)) (hi : (P.info? e).map (fun i => (i.zero, i.size, i.bytes)) = some (some (.int .u8 0), 1, 1)) (w : World) (n : Int) (h0 : 0 ≤ n) (h1 : n ≤ 281474976710656) :
    (Instr.makeSlice t (.int .i64 n) (.int .i64 n)).run P w = .ok (.slice (some ⟨w.heap.size, 0, none⟩) n.toNat n.toNat) (w.alloc (.cells ((List.replicate n.toNat (0 : UInt8)).map bcell).toArray e (0, 0))) := by
  cases hq : P.info? e with
  | none => simp [hq] at hi
  | some i =>
    simp only [hq, Option.map_some, Option.some.injEq, Prod.mk.injEq] at hi
    obtain ⟨hz, hs, hb⟩ := hi
    have := run_make (P := P) w t e i _ ht hq hz .i64 .i64 n n h0 (Int.le_refl _) (by rw [hb]; omega) (by omega)
    rw [this, hs, Nat.mul_one, made_bytes]
theorem BytesAt.made (w : World) (n : Nat) : BytesAt e (w.alloc (.cells ((List.replicate n (0 : UInt8)).map bcell).toArray e (0, 0))) w.heap.size (List.replicate n 0) := heap_alloc_new _ _
theorem BytesAt.set (h : BytesAt e w b l) (i : Nat) (c : UInt8) : BytesAt e (w.setCell ⟨b, i, none⟩ (bcell c)) b (l.set i c) := by
  have := heap_setCell_same h i (bcell c)
  unfold BytesAt
  rw [this, List.map_set]
  simp
theorem BytesAt.frozen (h : BytesAt e w b l) (i : Nat) : w.frozen? ⟨b, i, none⟩ = false := frozen_of h i
end Go.Proofs.Ytibghcmkmbamjaa
end
section
namespace Go.Proofs.Ytibghcmkmbamjaa
open Go.RowKit Go.ChangeShapes Go.WideShapes Go.ChangeAt
set_option linter.unusedVariables false
set_option linter.unusedSectionVars false
section
variable {H : Type} {enc : TypeId × Value → H} {P : Program} {w : World} {base : Nat} {spare : Nat → Bool} {held : Bool}
theorem weights_all {e : TypeId} : ∀ {ds : List (DataW H)} {d : DataW H}, d ∈ ds → ∀ k ∈ d.weights P e, k ∈ DataW.weightsAll P e ds
  | d0 :: ds, d, hd, k, hk => by
    simp only [DataW.weightsAll, List.mem_append]
    rcases List.mem_cons.1 hd with rfl | hd
    · exact .inl hk
    · exact .inr (weights_all hd k hk)
open Go.Deep in
theorem open_elems {t e : TypeId} {fuel : Nat} {cs : List Value} {x : DataW H × List MemPlace} (ht : P.underlying t = some (.slice e)) (hpos : 0 < P.cellsOf e) (h : DataW.trod enc P w base spare held fuel t cs = some x) :
    ∃ (A : Option Addr) (len cap : Nat), cs = [.slice A len cap] ∧ len ≤ cap ∧ cap ≤ maxLen ∧ ∀ i, i < len → ∃ (b off n : Nat) (cs' : List Value) (y : DataW H × List MemPlace), A = some ⟨b, off, none⟩ ∧ cs'.length = P.cellsOf e ∧
      (∀ j v, cs'[j]? = some v → w.cell? ⟨b, off + i * P.cellsOf e + j, none⟩ = some v) ∧ DataW.trod enc P w base spare held n e cs' = some y ∧ ∀ k ∈ y.1.weights P e, k ∈ x.1.weights P t := by
  rcases open_slice ht h with ⟨rfl, rfl⟩ | ⟨a, len, cap, m, n, D, Pl, hcs, hb, hl, hm, hmm, rfl, hi⟩
  · exact ⟨none, 0, 0, rfl, Nat.le_refl _, by unfold maxLen; omega, fun i hi => absurd hi (by omega)⟩
  · refine ⟨some a, len, cap, hcs, hl, hm, fun i hil => ?_⟩
    have hsp : a.spot = none := by
      have h0m : 0 < m := by rw [hmm]; split <;> omega
      obtain ⟨cs', hc, _⟩ := hi 0 h0m
      obtain ⟨_, hcl, hat⟩ := World.cells?_some hc
      have h2 := hat 0 hpos
      have h3 : w.cell? a = cs'[0]? := by simpa [Addr.add] using h2
      have h4 : cs'[0]? = some (cs'[0]'(by omega)) := List.getElem?_eq_getElem (by omega)
      exact spot_none (h3.trans h4)
    obtain ⟨b, off, sp⟩ := a
    simp only at hsp
    subst hsp
    have him : i < m := by rw [hmm]; split <;> omega
    obtain ⟨cs', hc, ht'⟩ := hi i him
    obtain ⟨_, hcl, hat⟩ := World.cells?_some hc
    refine ⟨b, off, n, cs', _, rfl, hcl, fun j v hj => ?_, ht', fun k hk => ?_⟩
    · have hjl : j < cs'.length := (List.getElem?_eq_some_iff.1 hj).1
      have hcell := hat j (by omega)
      rw [addr_add, addr_add] at hcell
      rw [hcell, hj]
    · simp only [DataW.weights, ht, List.mem_cons, List.mem_append]
      exact .inr (.inl (weights_all (List.mem_map.2 ⟨i, List.mem_range.2 hil, rfl⟩) k hk))
theorem open_part {e : TypeId} {fs : Array Field} {fuel : Nat} {cs : List Value} {x : DataW H × List MemPlace} (he : P.underlying e = some (.struct fs)) (h : DataW.trod enc P w base spare held fuel e cs = some x) {j : Nat} {f : Field} (hj : fs[j]? = some f) :
    ∃ (n : Nat) (y : DataW H × List MemPlace), DataW.trod enc P w base spare held n f.type ((cs.drop f.offset).take (P.cellsOf f.type)) = some y ∧ ∀ k ∈ y.1.weights P f.type, k ∈ x.1.weights P e := by
  obtain ⟨ys, n, hn, hx, hlen, hyl, hf⟩ := DataW.trod_struct he h
  have hjl : j < fs.size := (Array.getElem?_eq_some_iff.1 hj).1
  have hys : ys[j]? = some (ys[j]'(by omega)) := List.getElem?_eq_getElem (by omega)
  refine ⟨n, _, (hf j f hj).trans hys, fun k hk => ?_⟩
  subst hx
  simp only [DataW.weights, he]
  refine DataW.weights_mem_each (j := j) (t := f.type) (d := (ys[j]'(by omega)).1) ?_ ?_ k hk
  · rw [List.getElem?_map, Array.getElem?_toList, hj]; rfl
  · rw [List.getElem?_map, hys]; rfl
theorem open_field {e : TypeId} {fs : Array Field} {fuel : Nat} {cs : List Value} {x : DataW H × List MemPlace} (he : P.underlying e = some (.struct fs)) (h : DataW.trod enc P w base spare held fuel e cs = some x) {j : Nat} {f : Field} (hj : fs[j]? = some f)
    (hc : P.cellsOf f.type = 1) (hlt : f.offset < cs.length) :
    ∃ (n : Nat) (v : Value) (y : DataW H × List MemPlace), cs[f.offset]? = some v ∧ DataW.trod enc P w base spare held n f.type [v] = some y ∧ ∀ k ∈ y.1.weights P f.type, k ∈ x.1.weights P e := by
  obtain ⟨n, y, h1, h2⟩ := open_part he h hj
  rw [hc, List.drop_eq_getElem_cons hlt] at h1
  exact ⟨n, _, y, List.getElem?_eq_getElem hlt, h1, h2⟩
end
end Go.Proofs.Ytibghcmkmbamjaa
end
section
namespace Go.Proofs.Ytibghcmkmbamjaa
open Go.RowKit
set_option linter.unusedVariables false
set_option linter.unusedSimpArgs false
set_option linter.unusedSectionVars false
/-- What follows, and no other way out. -/
def OnlyNormal (K : Act → World → Prop) : Exit → Act → World → Prop
  | .normal, a, w => K a w
  | _, _, _ => False
theorem onlyNormal_lets {K : Act → World → Prop} (h : LetsOut (OnlyNormal K)) : False := by
  obtain ⟨a, w, h⟩ := h
  exact h
section
variable {P : Program} {ops : Array Oper} {md : Region.Mode} {K : Act → World → Prop} {n y : Nat}
theorem rowsIn_round {row : String} {args : Array Value} {w : World} {R : Value → World → Prop} (h : Rows P row args w R) : RowsIn (Fence.wide.inRound y) n P row args w R := fun c cs _ => by
  obtain ⟨v, w', r, s⟩ := h c cs
  exact ⟨v, w', r, stepsIn_wide.2 s⟩
theorem operIn_round {o : Oper} {a : Act} {w : World} {J J' : Act → World → Prop} (hd : ∀ c, o.op ≠ .defer c) (hJ : ∀ a w, J a w → J' a w) (h : Oper.wp P o a w J (OnlyNormal K)) : Oper.wpIn (Fence.wide.inRound y) n P o a w J' (OnlyNormal K) := by
  refine ⟨fun _ _ => trivial, ?_⟩
  rw [Oper.semAt_eq _ _ _ hd]
  unfold Oper.wp at h
  generalize (execOp a.eval o).run P w = r at h
  cases r with
  | ok x w' =>
    cases x with
    | value v => exact hJ _ _ h
    | skip => exact hJ _ _ h
    | defer d => exact hJ _ _ h
    | enter f args =>
      refine ⟨fun h => (Bool.noConfusion (h : false = true)), ?_⟩
      refine (CallsIn.inRound y (callsIn_wide.2 h)).mono fun e w'' he => ?_
      cases e with
      | returned v => exact hJ _ _ he
      | panicked c => exact he
      | outgrown => exact he
    | row row args => exact ⟨fun h => (Bool.noConfusion (h : false = true)), rowsIn_round (Rows.mono h fun v w'' he => hJ _ _ he)⟩
    | _ => exact h.elim
  | halt x w' => cases x <;> exact h
theorem wpAnyIn_round (hd : ∀ (j : Nat) (o : Oper) c, ops[j]? = some o → o.op ≠ .defer c) : ∀ (fuel : Nat) (listed : Array Bool) (a : Act) (w : World), wpAny P md ops (OnlyNormal K) fuel listed a w → wpAnyIn (Fence.wide.inRound y) n P md ops (OnlyNormal K) fuel listed a w
  | 0, listed, a, w, h => h
  | fuel + 1, listed, a, w, h => by
    refine ⟨h.1, fun i hi => ?_⟩
    have h2 := h.2 i hi
    unfold wpOp at h2
    unfold wpOpIn
    cases ho : ops[i]? with
    | none =>
      rw [ho] at h2
      exact wpAnyIn_round hd fuel _ _ _ h2
    | some o =>
      rw [ho] at h2
      simp only at h2 ⊢
      split
      · rename_i hw
        rw [if_pos hw] at h2
        rcases h2 with h2 | ⟨-, h2⟩
        · exact operIn_round (hd i o · ho) (fun a w h => wpAnyIn_round hd fuel _ a w h) h2
        · exact (onlyNormal_lets h2).elim
      · rename_i hw
        rw [if_neg hw] at h2
        exact ⟨fun _ _ => trivial, wpAnyIn_round hd fuel _ _ _ h2⟩
theorem wpIn_only {F : Fence} {c : Code} {Q : Exit → Act → World → Prop} {a : Act} {w : World} (h : c.wpIn F n P (OnlyNormal (Q .normal)) a w) : c.wpIn F n P Q a w := wpIn_mono h fun e a w q => by
  cases e <;> first | exact q | exact (q : False).elim
def noDefer (ops : Array Oper) : Bool := ops.all fun o => match o.op with | .defer _ => false | _ => true
theorem noDefer_spec (h : noDefer ops = true) : ∀ (j : Nat) (o : Oper) c, ops[j]? = some o → o.op ≠ .defer c := fun j o c ho e => by
  unfold noDefer at h
  rw [Array.all_eq_true] at h
  obtain ⟨hj, hje⟩ := Array.getElem?_eq_some_iff.1 ho
  have := h j hj
  rw [hje, e] at this
  cases this
/-- In a round: any order, as outside of it. -/
theorem wpIn_round_any {id : Nat} {Q : Exit → Act → World → Prop} {a : Act} {w : World} (hm : P.follows .mixedOrders = true) (hd : noDefer ops = true)
    (h : wpAny P .any ops (OnlyNormal (Q .normal)) ops.size (Array.replicate ops.size false) a w.drew) : (Code.region id ops true).wpIn (Fence.wide.inRound y) n P Q a w :=
  wpIn_only (wpIn_region_any hm (wpAnyIn_round (noDefer_spec hd) _ _ _ _ h))
/-- In a round: what is held stays. -/
theorem wpIn_round_held {S : World → Prop} {id : Nat} {Q : Exit → Act → World → Prop} {a : Act} {w : World} (hm : P.follows .mixedOrders = true) (hd : noDefer ops = true) (hS : S w.drew)
    (h : S w.drew → wpAnyH P .any ops (OnlyNormal (Q .normal)) S ops.size (Array.replicate ops.size false) a w.drew) : (Code.region id ops true).wpIn (Fence.wide.inRound y) n P Q a w :=
  wpIn_round_any hm hd (wpAny_of_held _ _ _ _ (h hS))
/-- In a round: a region that only reads. -/
theorem wpIn_round_quiet {id : Nat} {Q : Exit → Act → World → Prop} {a : Act} {w : World} {l : List Oper} (hm : P.follows .mixedOrders = true) (hB : Region.lexB .any l.toArray = true) (hd : noDefer l.toArray = true)
    (h : wpQuiet P l.toArray (fun w' => ∃ n, w' = w.drewN n) (fun a' => ∀ w', (∃ n, w' = w.drewN n) → Q .normal a' w') l a) : (Code.region id l.toArray true).wpIn (Fence.wide.inRound y) n P Q a w := by
  refine wpIn_round_any hm hd ?_
  simp only [Region.lexB, Bool.and_eq_true] at hB
  refine wpAny_of_quiet (Q' := OnlyNormal (Q .normal)) (C := fun w' => ∃ n, w' = w.drewN n) (Q := fun a' => ∀ w', (∃ n, w' = w.drewN n) → Q .normal a' w') (fun _ w' hw' h => h w' hw') _ _ _ _ ⟨1, rfl⟩ ?_
  have := wpAnyQ_lex (C := fun w' => ∃ n, w' = w.drewN n) (md := .any) hB.1 l 0 (Array.replicate l.toArray.size false) a (by simp) (by simpa using hB.2) (by simpa using h)
  simpa using this
end
end Go.Proofs.Ytibghcmkmbamjaa
end
