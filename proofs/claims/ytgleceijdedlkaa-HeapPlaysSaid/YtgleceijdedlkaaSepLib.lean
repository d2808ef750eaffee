/- Things apart from each other in a program's memory, each with the blocks it may lie in; a call turns one of them. -/
import Derived.Test.YtgleceijdedlkaaLawLib
import Derived.Maps.AppendAt
namespace Go.Proofs.Ytgleceijdedlkaa
open Go.RowKit Go.MapKept Go.ChangeMaps
set_option linter.unusedVariables false
set_option linter.unusedSimpArgs false
set_option linter.unusedSectionVars false
/-- What a call may turn. -/
def Turns (N : Nat → Prop) (w w' : World) : Prop := ∃ S : List Nat, (∀ b ∈ S, N b) ∧ Upd S w w'
section
variable {w w' : World} {N : Nat → Prop}
theorem Turns.of (h : Upd [] w w') : Turns N w w' := ⟨[], by simp, h⟩
theorem Turns.of1 {b : Nat} (h : Upd [b] w w') (hb : N b) : Turns N w w' := ⟨[b], by simpa using hb, h⟩
theorem Turns.heap (h : Turns N w w') {b : Nat} {o : Obj} (hb : w.heap[b]? = some o) (hN : ¬ N b) : w'.heap[b]? = some o := by
  obtain ⟨S, hS, u⟩ := h
  exact u.heap hb (fun hm => hN (hS b hm))
theorem Turns.size (h : Turns N w w') : w.heap.size ≤ w'.heap.size := by
  obtain ⟨S, _, u⟩ := h
  exact u.size
theorem Turns.upd {w0 : World} (h : Turns N w w') (h0 : Upd [] w0 w) (hN : ∀ b, N b → w0.heap.size ≤ b) : Upd [] w0 w' := by
  obtain ⟨S, hS, u⟩ := h
  exact h0.step u (fun b hb => .inr (hN b (hS b hb)))
theorem Turns.mono {M : Nat → Prop} (h : Turns N w w') (hM : ∀ b, N b → M b) : Turns M w w' := by
  obtain ⟨S, hS, u⟩ := h
  exact ⟨S, fun b hb => hM b (hS b hb), u⟩
theorem Turns.trans {w2 : World} (h : Turns N w w') (g : Turns N w' w2) : Turns N w w2 := by
  obtain ⟨S, hS, u⟩ := h
  obtain ⟨T, hT, v⟩ := g
  exact ⟨S ++ T, fun b hb => (List.mem_append.1 hb).elim (hS b) (hT b), (u.mono (fun i hi => .inl (List.mem_append_left _ hi))).step v fun i hi => .inl (List.mem_append_right _ hi)⟩
end
abbrev Res := World → (Nat → Prop) → Prop
class Good (R : Res) : Prop where
  kept : ∀ {w w' : World} {N : Nat → Prop} {S : List Nat}, R w N → Upd S w w' → (∀ b ∈ S, ¬ N b) → R w' N
  mono : ∀ {w : World} {N M : Nat → Prop}, R w N → (∀ b, b < w.heap.size → N b → M b) → R w M
theorem Good.turn {R : Res} [Good R] {w w' : World} {N M : Nat → Prop} (h : R w N) (t : Turns M w w') (hd : ∀ b, M b → ¬ N b) : R w' N := by
  obtain ⟨S, hS, u⟩ := t
  exact Good.kept h u fun b hb => hd b (hS b hb)
/-- Both, apart. -/
def star (R T : Res) : Res := fun w N => ∃ A B : Nat → Prop, R w A ∧ T w B ∧ (∀ b, A b → N b) ∧ (∀ b, B b → N b) ∧ ∀ b, A b → ¬ B b
instance {R T : Res} [Good R] [Good T] : Good (star R T) where
  kept := fun ⟨A, B, h1, h2, h3, h4, h5⟩ u hS => ⟨A, B, Good.kept h1 u (fun b hb hA => hS b hb (h3 b hA)), Good.kept h2 u (fun b hb hB => hS b hb (h4 b hB)), h3, h4, h5⟩
  mono := fun {w N M} ⟨A, B, h1, h2, h3, h4, h5⟩ hM =>
    ⟨fun b => A b ∧ b < w.heap.size, fun b => B b ∧ b < w.heap.size, Good.mono h1 (fun b hb h => ⟨h, hb⟩), Good.mono h2 (fun b hb h => ⟨h, hb⟩), fun b h => hM b h.2 (h3 b h.1), fun b h => hM b h.2 (h4 b h.1), fun b h g => h5 b h.1 g.1⟩
/-- One block. -/
def blk (b : Nat) (o : Obj) : Res := fun w N => w.heap[b]? = some o ∧ N b
instance {b : Nat} {o : Obj} : Good (blk b o) where
  kept := fun ⟨h1, h2⟩ u hS => ⟨u.heap h1 (fun hm => hS b hm h2), h2⟩
  mono := fun ⟨h1, h2⟩ hM => ⟨h1, hM b (Array.getElem?_eq_some_iff.1 h1).1 h2⟩
/-- Nothing. -/
def emp : Res := fun _ _ => True
instance : Good emp where
  kept := fun _ _ _ => trivial
  mono := fun _ _ => trivial
/-- A map's block. -/
def mapR {K V : Type} [DecidableEq K] (ek : K → Value) (ev : V → Value) (ok : K → Prop) (b : Nat) (l : List (K × V)) : Res := fun w N => MapAt ek ev ok w b l ∧ N b
instance {K V : Type} [DecidableEq K] {ek : K → Value} {ev : V → Value} {ok : K → Prop} {b : Nat} {l : List (K × V)} : Good (mapR ek ev ok b l) where
  kept := fun ⟨h1, h2⟩ u hS => ⟨h1.kept u (fun hm => hS b hm h2), h2⟩
  mono := fun ⟨h1, h2⟩ hM => ⟨h1, hM b h1.lt h2⟩
/-- A slice that grows by append: rows of k cells. -/
def rowR (e : TypeId) (k : Nat) (v : Value) (l : List (List Value)) : Res := fun w N => w.ownsRow 0 e k v l.length l.flatten ∧ (∀ r ∈ l, r.length = k) ∧ ∀ g, v.ownBlock = some g → N g
theorem ownsRow_lt {w : World} {base k n : Nat} {e : TypeId} {v : Value} {xs : List Value} (h : w.ownsRow base e k v n xs) {g : Nat} (hg : v.ownBlock = some g) : g < w.heap.size := by
  rcases h.2 with ⟨rfl, _⟩ | ⟨g', cap, cur, rfl, _, h2, _⟩
  · cases hg
  · cases hg
    exact (Array.getElem?_eq_some_iff.1 h2).1
theorem ownsRow_upd {w w' : World} {base k n : Nat} {e : TypeId} {v : Value} {xs : List Value} {S : List Nat} (h : w.ownsRow base e k v n xs) (u : Upd S w w') (hS : ∀ g, v.ownBlock = some g → g ∉ S) : w'.ownsRow base e k v n xs := by
  refine ⟨h.1, ?_⟩
  rcases h.2 with h2 | ⟨g', cap, cur, rfl, h1, h2, h3⟩
  · exact .inl h2
  · exact .inr ⟨g', cap, cur, rfl, h1, u.heap h2 (hS g' rfl), h3⟩
instance {e : TypeId} {k : Nat} {v : Value} {l : List (List Value)} : Good (rowR e k v l) where
  kept := fun ⟨h1, h2, h3⟩ u hS => ⟨ownsRow_upd h1 u (fun g hg hm => hS g hm (h3 g hg)), h2, h3⟩
  mono := fun ⟨h1, h2, h3⟩ hM => ⟨h1, h2, fun g hg => hM g (ownsRow_lt h1 hg) (h3 g hg)⟩
theorem flatten_at {k : Nat} : ∀ {l : List (List Value)}, (∀ r ∈ l, r.length = k) → ∀ {i : Nat} {r : List Value}, l[i]? = some r → ∀ {j : Nat} {v : Value}, r[j]? = some v → l.flatten[i * k + j]? = some v
  | [], _, i, r, hi, _, _, _ => by simp at hi
  | x :: l, h, 0, r, hi, j, v, hj => by
    obtain rfl : x = r := by simpa using hi
    have : j < x.length := (List.getElem?_eq_some_iff.1 hj).1
    simp only [List.flatten_cons, Nat.zero_mul, Nat.zero_add]
    rw [List.getElem?_append_left this]
    exact hj
  | x :: l, h, i + 1, r, hi, j, v, hj => by
    have hx : x.length = k := h x (by simp)
    rw [List.flatten_cons, List.getElem?_append_right (by rw [hx, Nat.add_mul]; omega)]
    have e : (i + 1) * k + j - x.length = i * k + j := by rw [hx, Nat.add_mul]; omega
    rw [e]
    exact flatten_at (fun r hr => h r (by simp [hr])) (by simpa using hi) hj
/-- How it looks. -/
theorem rowR_look {e : TypeId} {k : Nat} {v : Value} {l : List (List Value)} {w : World} {N : Nat → Prop} (h : rowR e k v l w N) : ∃ A c, v = .slice A l.length c ∧ RowsAt w A k l := by
  obtain ⟨h1, h2, h3⟩ := h
  rcases h1.2 with ⟨rfl, hn⟩ | ⟨g, cap, cur, rfl, _, hg, _⟩
  · have : l = [] := List.eq_nil_of_length_eq_zero hn
    subst this
    exact ⟨none, 0, rfl, fun i r hi => by simp at hi⟩
  · refine ⟨_, _, rfl, fun i r hi => ⟨g, 0, rfl, fun j v hj => ?_⟩⟩
    have := h1.cells (g := g) rfl (i * k + j) v (flatten_at h2 hi hj)
    rw [addr_add] at this
    simpa [Nat.add_assoc] using this
theorem rowR_nil (e : TypeId) (k : Nat) (w : World) (N : Nat → Prop) : rowR e k (.slice none 0 0) [] w N := ⟨World.ownsRow_nil _ _ _ _, by simp, fun g hg => by cases hg⟩
/-- A call's own things, apart from each other, and all that was there before is as it was. -/
structure Sep (w0 w : World) (R : Res) : Prop where
  u : Upd [] w0 w
  r : R w (fun b => w0.heap.size ≤ b)
section
variable {w0 w w' : World} {R R' T U V : Res}
theorem Sep.step [Good R] [Good T] (h : Sep w0 w (star R T)) (f : ∀ N, R w N → (∀ b, w.heap.size ≤ b → N b) → R' w' N ∧ Turns N w w') : Sep w0 w' (star R' T) := by
  obtain ⟨u, A, B, h1, h2, h3, h4, h5⟩ := h
  have hs := u.size
  obtain ⟨g1, g2⟩ := f (fun b => (A b ∧ b < w.heap.size) ∨ w.heap.size ≤ b) (Good.mono h1 fun b hb h => .inl ⟨h, hb⟩) (fun b hb => .inr hb)
  have hA : ∀ b, ((A b ∧ b < w.heap.size) ∨ w.heap.size ≤ b) → w0.heap.size ≤ b := fun b hb => by
    rcases hb with hb | hb
    · exact h3 b hb.1
    · omega
  have hd : ∀ b, ((A b ∧ b < w.heap.size) ∨ w.heap.size ≤ b) → ¬ (B b ∧ b < w.heap.size) := fun b hb hB => by
    rcases hb with hb | hb
    · exact h5 b hb.1 hB.1
    · omega
  exact ⟨g2.upd u hA, _, fun b => B b ∧ b < w.heap.size, g1, Good.turn (Good.mono h2 fun b hb h => ⟨h, hb⟩) g2 hd, hA, fun b hb => h4 b hb.1, hd⟩
theorem Sep.call {P : Program} {fn : Nat} {args : Array Value} {α : Type} {Q : α → Ending → Prop} {S : α → Res} [Good R] [Good T] (h : Sep w0 w (star R T))
    (f : ∀ N, R w N → (∀ b, w.heap.size ≤ b → N b) → Calls P fn args w fun e w' => ∃ r, Q r e ∧ S r w' N ∧ Turns N w w') : Calls P fn args w fun e w' => ∃ r, Q r e ∧ Sep w0 w' (star (S r) T) := by
  obtain ⟨u, A, B, h1, h2, h3, h4, h5⟩ := h
  have hs := u.size
  have hA : ∀ b, ((A b ∧ b < w.heap.size) ∨ w.heap.size ≤ b) → w0.heap.size ≤ b := fun b hb => by
    rcases hb with hb | hb
    · exact h3 b hb.1
    · omega
  have hd : ∀ b, ((A b ∧ b < w.heap.size) ∨ w.heap.size ≤ b) → ¬ (B b ∧ b < w.heap.size) := fun b hb hB => by
    rcases hb with hb | hb
    · exact h5 b hb.1 hB.1
    · omega
  refine (f (fun b => (A b ∧ b < w.heap.size) ∨ w.heap.size ≤ b) (Good.mono h1 fun b hb h => .inl ⟨h, hb⟩) (fun b hb => .inr hb)).mono fun e w' ⟨r, hq, g1, g2⟩ => ⟨r, hq, ?_⟩
  exact ⟨g2.upd u hA, _, fun b => B b ∧ b < w.heap.size, g1, Good.turn (Good.mono h2 fun b hb h => ⟨h, hb⟩) g2 hd, hA, fun b hb => h4 b hb.1, hd⟩
theorem Sep.upd [Good R] (h : Sep w0 w R) (g : Upd [] w w') : Sep w0 w' R := ⟨h.u.trans g, Good.kept h.r g (by simp)⟩
theorem Sep.alloc [Good R] (h : Sep w0 w R) (o : Obj) : Sep w0 (w.alloc o) (star (blk w.heap.size o) R) := by
  have hs := h.u.size
  refine ⟨h.u.alloc o, fun b => b = w.heap.size, fun b => w0.heap.size ≤ b ∧ b < w.heap.size, ⟨heap_alloc_new _ _, rfl⟩, ?_, fun b hb => by omega, fun b hb => hb.1, fun b hb hB => by omega⟩
  exact Good.kept (Good.mono h.r (fun b hb h => ⟨h, hb⟩)) ((Upd.refl [] w).alloc o) (by simp)
theorem Sep.out [Good T] (h : Sep w0 w (star R T)) : Sep w0 w T := by
  obtain ⟨u, A, B, h1, h2, h3, h4, h5⟩ := h
  exact ⟨u, Good.mono h2 fun b _ hb => h4 b hb⟩
theorem Sep.fst [Good R] (h : Sep w0 w (star R T)) : Sep w0 w R := by
  obtain ⟨u, A, B, h1, h2, h3, h4, h5⟩ := h
  exact ⟨u, Good.mono h1 fun b _ hb => h3 b hb⟩
theorem Sep.swap (h : Sep w0 w (star R (star T U))) : Sep w0 w (star T (star R U)) := by
  obtain ⟨u, A, B, h1, ⟨C, D, k1, k2, k3, k4, k5⟩, h3, h4, h5⟩ := h
  refine ⟨u, C, fun b => A b ∨ D b, k1, ⟨A, D, h1, k2, fun b h => .inl h, fun b h => .inr h, fun b hA hD => h5 b hA (k4 b hD)⟩, fun b hb => h4 b (k3 b hb), fun b hb => hb.elim (h3 b) (fun h => h4 b (k4 b h)), fun b hC hb => ?_⟩
  rcases hb with hb | hb
  · exact h5 b hb (k3 b hC)
  · exact k5 b hC hb
theorem Sep.swap2 (h : Sep w0 w (star R (star T (star U V)))) : Sep w0 w (star U (star R (star T V))) := by
  obtain ⟨u, A, B, h1, h2, h3, h4, h5⟩ := h
  obtain ⟨C, D, k1, ⟨E, F, m1, m2, m3, m4, m5⟩, k3, k4, k5⟩ := h2
  refine ⟨u, E, fun b => A b ∨ C b ∨ F b, m1, ⟨A, fun b => C b ∨ F b, h1, ⟨C, F, k1, m2, fun b h => .inl h, fun b h => .inr h, fun b hC hF => k5 b hC (m4 b hF)⟩, fun b h => .inl h, fun b h => .inr h, fun b hA hb => ?_⟩, fun b hb => h4 b (k4 b (m3 b hb)), fun b hb => ?_, fun b hE hb => ?_⟩
  · rcases hb with hb | hb
    · exact h5 b hA (k3 b hb)
    · exact h5 b hA (k4 b (m4 b hb))
  · rcases hb with hb | hb | hb
    · exact h3 b hb
    · exact h4 b (k3 b hb)
    · exact h4 b (k4 b (m4 b hb))
  · rcases hb with hb | hb | hb
    · exact h5 b hb (k4 b (m3 b hE))
    · exact k5 b hb (m3 b hE)
    · exact m5 b hE hb
theorem Sep.comm (h : Sep w0 w (star R T)) : Sep w0 w (star T R) := by
  obtain ⟨u, A, B, h1, h2, h3, h4, h5⟩ := h
  exact ⟨u, B, A, h2, h1, h4, h3, fun b hB hA => h5 b hA hB⟩
theorem Sep.get (h : Sep w0 w (star R T)) : ∃ N, R w N := by
  obtain ⟨u, A, B, h1, h2, h3, h4, h5⟩ := h
  exact ⟨A, h1⟩
theorem Sep.blk {b : Nat} {o : Obj} (h : Sep w0 w (star (blk b o) T)) : w.heap[b]? = some o := by
  obtain ⟨N, h1, _⟩ := h.get
  exact h1
theorem Sep.start (w : World) : Sep w w emp := ⟨Upd.refl _ _, trivial⟩
theorem Sep.begin {R : Res} {w0 w : World} [Good R] (u : Upd [] w0 w) (h : R w (fun b => w0.heap.size ≤ b)) : Sep w0 w R := ⟨u, h⟩
end
/-- Blocks of the caller's own. -/
def own (K : List (Nat × Obj)) : Res := fun w N => ∀ p ∈ K, w.heap[p.1]? = some p.2 ∧ N p.1
instance {K : List (Nat × Obj)} : Good (own K) where
  kept := fun h u hS p hp => ⟨u.heap (h p hp).1 (fun hm => hS _ hm (h p hp).2), (h p hp).2⟩
  mono := fun h hM p hp => ⟨(h p hp).1, hM _ (Array.getElem?_eq_some_iff.1 (h p hp).1).1 (h p hp).2⟩
def SepK (w0 w : World) (K : List (Nat × Obj)) (R : Res) : Prop := Sep w0 w (star (own K) R)
section
variable {P : Program} {w0 w w' : World} {K : List (Nat × Obj)} {R R' T U V X : Res}
theorem star_swap {N : Nat → Prop} (h : (star R (star T U)) w N) : (star T (star R U)) w N := by
  obtain ⟨A, B, h1, ⟨C, D, k1, k2, k3, k4, k5⟩, h3, h4, h5⟩ := h
  refine ⟨C, fun b => A b ∨ D b, k1, ⟨A, D, h1, k2, fun b h => .inl h, fun b h => .inr h, fun b hA hD => h5 b hA (k4 b hD)⟩, fun b hb => h4 b (k3 b hb), fun b hb => hb.elim (h3 b) (fun h => h4 b (k4 b h)), fun b hC hb => ?_⟩
  rcases hb with hb | hb
  · exact h5 b hb (k3 b hC)
  · exact k5 b hC hb
theorem star_imp {N : Nat → Prop} (h : (star R T) w N) (f : ∀ M, T w M → U w M) : (star R U) w N := by
  obtain ⟨A, B, h1, h2, h3⟩ := h
  exact ⟨A, B, h1, f _ h2, h3⟩
theorem SepK.imp (h : SepK w0 w K R) (f : ∀ N, R w N → R' w N) : SepK w0 w K R' := ⟨h.u, star_imp h.r f⟩
theorem SepK.swap (h : SepK w0 w K (star R (star T U))) : SepK w0 w K (star T (star R U)) := h.imp fun _ => star_swap
theorem SepK.pull2 (h : SepK w0 w K (star R (star T (star U V)))) : SepK w0 w K (star U (star R (star T V))) := h.imp fun _ g => star_swap (star_imp g fun _ => star_swap)
theorem SepK.push2 (h : SepK w0 w K (star U (star R (star T V)))) : SepK w0 w K (star R (star T (star U V))) := h.imp fun _ g => star_imp (star_swap g) fun _ => star_swap
theorem SepK.pull3 (h : SepK w0 w K (star R (star T (star U (star V X))))) : SepK w0 w K (star V (star R (star T (star U X)))) := h.imp fun _ g => star_swap (star_imp g fun _ g => star_swap (star_imp g fun _ => star_swap))
theorem SepK.push3 (h : SepK w0 w K (star V (star R (star T (star U X))))) : SepK w0 w K (star R (star T (star U (star V X)))) := h.imp fun _ g => star_imp (star_swap g) fun _ g => star_imp (star_swap g) fun _ => star_swap
theorem SepK.get (h : SepK w0 w K (star R T)) : ∃ N, R w N := by
  obtain ⟨N, B, h1, h2, h3⟩ := (Sep.swap h).r
  exact ⟨N, h1⟩
theorem SepK.upd [Good R] (h : SepK w0 w K R) (g : Upd [] w w') : SepK w0 w' K R := Sep.upd (R := star (own K) R) h g
theorem SepK.blk (h : SepK w0 w K R) {b : Nat} {o : Obj} (hp : (b, o) ∈ K) : w.heap[b]? = some o := by
  obtain ⟨u, A, B, h1, h2⟩ := h
  exact (h1 _ hp).1
theorem SepK.drop (h : SepK w0 w K R) (K' : List (Nat × Obj)) (hK : ∀ p ∈ K', p ∈ K) : SepK w0 w K' R := by
  obtain ⟨u, A, B, h1, h2, h3⟩ := h
  exact ⟨u, A, B, fun p hp => h1 p (hK p hp), h2, h3⟩
theorem SepK.alloc [Good R] (h : SepK w0 w K R) (o : Obj) : SepK w0 (w.alloc o) ((w.heap.size, o) :: K) R := by
  have := Sep.alloc (R := star (own K) R) h o
  obtain ⟨u, A, B, h1, ⟨C, D, k1, k2, k3, k4, k5⟩, h3, h4, h5⟩ := this
  refine ⟨u, fun b => A b ∨ C b, D, fun p hp => ?_, k2, fun b hb => hb.elim (h3 b) (fun h => h4 b (k3 b h)), fun b hb => h4 b (k4 b hb), fun b hb hD => ?_⟩
  · rcases List.mem_cons.1 hp with rfl | hp
    · exact ⟨h1.1, .inl h1.2⟩
    · exact ⟨(k1 p hp).1, .inr (k1 p hp).2⟩
  · rcases hb with hb | hb
    · exact h5 b hb (k4 b hD)
    · exact k5 b hb hD
theorem SepK.step [Good R] [Good T] (h : SepK w0 w K (star R T)) (f : ∀ N, R w N → (∀ b, w.heap.size ≤ b → N b) → R' w' N ∧ Turns N w w') : SepK w0 w' K (star R' T) :=
  Sep.swap (Sep.step (R := R) (T := star (own K) T) (Sep.swap h) f)
theorem SepK.call {fn : Nat} {args : Array Value} {α : Type} {Q : α → Ending → Prop} {S : α → Res} [Good R] [Good T] (h : SepK w0 w K (star R T))
    (f : ∀ N, R w N → (∀ b, w.heap.size ≤ b → N b) → Calls P fn args w fun e w' => ∃ r, Q r e ∧ S r w' N ∧ Turns N w w') : Calls P fn args w fun e w' => ∃ r, Q r e ∧ SepK w0 w' K (star (S r) T) :=
  (Sep.call (R := R) (T := star (own K) T) (Sep.swap h) f).mono fun e w' ⟨r, h1, h2⟩ => ⟨r, h1, Sep.swap h2⟩
theorem SepK.call1 {fn : Nat} {args : Array Value} {r : Ending} [Good R] [Good T] (h : SepK w0 w K (star R T))
    (f : ∀ N, R w N → (∀ b, w.heap.size ≤ b → N b) → Calls P fn args w fun e w' => e = r ∧ R' w' N ∧ Turns N w w') : Calls P fn args w fun e w' => e = r ∧ SepK w0 w' K (star R' T) :=
  (SepK.call (α := Unit) (Q := fun _ e => e = r) (S := fun _ => R') h fun N hN hf => (f N hN hf).mono fun e w' ⟨a, b, c⟩ => ⟨(), a, b, c⟩).mono fun e w' ⟨_, a, b⟩ => ⟨a, b⟩
theorem SepK.call0 {fn : Nat} {args : Array Value} {r : Ending} [Good R] [Good T] (h : SepK w0 w K (star R T))
    (f : ∀ N, R w N → Calls P fn args w fun e w' => e = r ∧ R w' N ∧ Upd [] w w') : Calls P fn args w fun e w' => e = r ∧ SepK w0 w' K (star R T) :=
  SepK.call1 h fun N hN _ => (f N hN).mono fun e w' ⟨a, b, c⟩ => ⟨a, b, .of c⟩
theorem SepK.start (w : World) : SepK w w [] emp := ⟨Upd.refl _ _, fun _ => False, fun _ => False, fun p hp => by simp at hp, trivial, fun b hb => hb.elim, fun b hb => hb.elim, fun b hb => hb.elim⟩
/-- One thing more, of new blocks. -/
theorem SepK.more [Good R] {M : Nat → Prop} (h : SepK w0 w K R) (u : Upd [] w w') (hT : T w' M) (hM : ∀ b, M b → w.heap.size ≤ b) : SepK w0 w' K (star T R) := by
  have hs := h.u.size
  obtain ⟨u0, A, B, h1, h2, h3, h4, h5⟩ := h
  refine ⟨u0.trans u, fun b => A b ∧ b < w.heap.size, fun b => M b ∨ (B b ∧ b < w.heap.size), Good.kept (Good.mono h1 fun b hb h => ⟨h, hb⟩) u (by simp), ⟨M, fun b => B b ∧ b < w.heap.size, hT, Good.kept (Good.mono h2 fun b hb h => ⟨h, hb⟩) u (by simp), fun b h => .inl h, fun b h => .inr h, fun b hb hB => by have := hM b hb; omega⟩, fun b hb => h3 b hb.1, fun b hb => ?_, fun b hb hB => ?_⟩
  · rcases hb with hb | hb
    · have := hM b hb; omega
    · exact h4 b hb.1
  · rcases hB with hB | hB
    · have := hM b hB; omega
    · exact h5 b hb.1 hB.1
theorem SepK.row0 (e : TypeId) (k : Nat) [Good R] (h : SepK w0 w K R) : SepK w0 w K (star (rowR e k (.slice none 0 0) []) R) := h.more (Upd.refl _ _) (M := fun _ => False) (rowR_nil _ _ _ _) (fun _ hb => hb.elim)
theorem SepK.map0 {A B : Type} [DecidableEq A] (ek : A → Value) (ev : B → Value) (ok : A → Prop) [Good R] (h : SepK w0 w K R) : SepK w0 (w.alloc (.map #[] 0)) K (star (mapR ek ev ok w.heap.size []) R) :=
  h.more ((Upd.refl _ _).alloc _) (M := fun b => b = w.heap.size) ⟨.made ek ev ok w, rfl⟩ (fun _ hb => by omega)
/-- A cell of a block of the caller's own is set. -/
theorem SepK.set [Good R] {b : Nat} {o : Obj} (h : SepK w0 w ((b, o) :: K) R) (u : Upd [b] w w') {o' : Obj} (hb : w'.heap[b]? = some o') (hK : ∀ p ∈ K, p.1 ≠ b) : SepK w0 w' ((b, o') :: K) R := by
  obtain ⟨u0, A, B, h1, h2, h3, h4, h5⟩ := h
  have hA := (h1 (b, o) (by simp)).2
  refine ⟨u0.step u (fun i hi => ?_), A, B, fun p hp => ?_, Good.kept h2 u (fun c hc => ?_), h3, h4, h5⟩
  · obtain rfl := List.mem_singleton.1 hi
    exact .inr (h3 _ hA)
  · rcases List.mem_cons.1 hp with rfl | hp'
    · exact ⟨hb, hA⟩
    · exact ⟨u.heap (h1 p (by simp [hp'])).1 (by simpa using hK p hp'), (h1 p (by simp [hp'])).2⟩
  · obtain rfl := List.mem_singleton.1 hc
    exact h5 _ hA
theorem SepK.gain [Good T] (h : SepK w0 w K T) (g : Upd [] w w') {r : Nat} {o : Obj} (hr : w.heap.size ≤ r) (hb : w'.heap[r]? = some o) : SepK w0 w' ((r, o) :: K) T := by
  have hs := h.u.size
  obtain ⟨u, A, B, h1, h2, h3, h4, h5⟩ := h
  refine ⟨u.trans g, fun b => (A b ∧ b < w.heap.size) ∨ b = r, fun b => B b ∧ b < w.heap.size, fun p hp => ?_, Good.kept (Good.mono h2 fun b hb h => ⟨h, hb⟩) g (by simp), fun b hb => ?_, fun b hb => h4 b hb.1, fun b hb hB => ?_⟩
  · rcases List.mem_cons.1 hp with rfl | hp
    · exact ⟨hb, .inr rfl⟩
    · have := h1 p hp
      exact ⟨g.heap this.1 (by simp), .inl ⟨this.2, lt_of_heap this.1⟩⟩
  · rcases hb with hb | rfl
    · exact h3 b hb.1
    · omega
  · rcases hb with hb | rfl
    · exact h5 b hb.1 hB.1
    · omega
/-- An empty slice that has a block. -/
theorem SepK.row1 [Good T] (e : TypeId) (k : Nat) (t : Array Value) (h : SepK w0 w K T) (ht : t = #[]) : SepK w0 (w.alloc (.cells t e (0, 0))) K (star (rowR e k (.slice (some ⟨w.heap.size, 0, none⟩) 0 0) []) T) := by
  subst ht
  refine h.more ((Upd.refl _ _).alloc _) (M := fun b => b = w.heap.size) ⟨⟨by simp, .inr ⟨w.heap.size, 0, #[], rfl, Nat.zero_le _, heap_alloc_new _ _, Nat.le_refl _, Nat.zero_le _, by simp, by simp⟩⟩, by simp, fun g hg => ?_⟩ (fun _ hb => by omega)
  cases hg
  rfl
end
section
variable {P : Program} {w0 w : World} {KK : List (Nat × Obj)} {T : Res}
theorem wl_append {ops : Array Oper} {rest : List Oper} {o : Oper} {a : Act} {Q : Exit → Act → World → Prop} [Good T] (hgd : o.guard = none) (s x : Operand) (t : TypeId)
    (ho : o.op = .call { callee := .builtin .append, args := #[s, x], argTypes := #[t, t] })
    (e : TypeId) (i : TypeInfo) (z : Value) (k bytes : Nat) (ht : P.underlying t = some (.slice e)) (hi : P.info? e = some i) (hz : i.zero = some z)
    (hsize : i.size = k) (hby : i.bytes = bytes) (hzs : z.cells.size = k) (hk : 0 < k)
    (v : Value) (l : List (List Value)) (hs : a.eval s = v) (H : SepK w0 w KK (star (rowR e k v l) T))
    (ad : Addr) (c : Nat) (r : List Value) (hx : a.eval x = .slice (some ad) 1 c) (hl : r.length = k) (hnews : ∀ j u, r[j]? = some u → w.cell? (ad.add j) = some u) (h1 : ∀ u ∈ r, u.oneCell' = true)
    (h63 : l.length + 1 ≤ maxLen) (hbytes : (l.length + 1) * bytes ≤ 140737488355328)
    (h : ∀ v' w', SepK w0 w' KK (star (rowR e k v' (l ++ [r])) T) → wpList P ops Q rest (a.put o.dst v') w') : wpList P ops Q (o :: rest) a w := by
  refine wpList_plain hgd fun K hK => ?_
  have hown : w.ownsRow 0 e k v l.length l.flatten := by
    obtain ⟨N, hN, _⟩ := H.get
    exact hN
  obtain ⟨v', w', hr, h2, h3, h4, h5⟩ := run_append_own_at (P := P) w 0 t o.type e i z k bytes ht hi hz hsize hby hzs hk v l.length l.flatten hown ad 1 c r (by omega) hnews h1 h63 hbytes (Nat.zero_le _)
  unfold Oper.wp execOp
  simp only [ho, resolve, invoke, builtin, Sem.run_bind, Sem.run_pure, Result.andThen_ok, List.map_toArray, List.map_cons, List.map_nil, hs, hx, hr]
  refine hK _ _ (h v' w' (H.step fun N hR hN => ?_))
  obtain ⟨g1, g2, g3⟩ := hR
  refine ⟨⟨by simpa using h2, fun y hy => ?_, fun g hg => ?_⟩, ?_⟩
  · rcases List.mem_append.1 hy with hy | hy
    · exact g2 y hy
    · obtain rfl := List.mem_singleton.1 hy
      exact hl
  · rcases h5 with h5 | h5
    · exact g3 g (h5 ▸ hg)
    · rw [h5] at hg
      cases hg
      exact hN _ (Nat.le_refl _)
  · cases hv : v.ownBlock with
    | none => exact .of ⟨h3.os, h3.tape, h3.output, h3.size, fun k hk _ => h3.block k hk (by rw [hv]; simp)⟩
    | some g => exact .of1 (.of_grown (hv ▸ h3)) (g3 g hv)
theorem SepK.row {e : TypeId} {k : Nat} {v : Value} {l : List (List Value)} (h : SepK w0 w KK (star (rowR e k v l) T)) : ∃ A c, v = .slice A l.length c ∧ RowsAt w A k l := by
  obtain ⟨N, hN⟩ := h.get
  exact rowR_look hN
variable {K V : Type} [DecidableEq K] {ek : K → Value} {ev : V → Value} {ok : K → Prop} {b : Nat} {l : List (K × V)} {t k e : TypeId}
theorem SepK.map (h : SepK w0 w KK (star (mapR ek ev ok b l) T)) : MapAt ek ev ok w b l := by
  obtain ⟨N, hN⟩ := h.get
  exact hN.1
theorem wl_put {ops : Array Oper} {rest : List Oper} {o : Oper} {a : Act} {Q : Exit → Act → World → Prop} [Good T] (hg : o.guard = none) (m x v : Operand) (hop : o.op = Op.mapUpdate t m x v) (Y : Kops P k ek ok) (ht : P.underlying t = some (.map k e))
    (hm : a.eval m = .map (some b)) (H : SepK w0 w KK (star (mapR ek ev ok b l) T)) (key : K) (val : V) (hx : a.eval x = ek key) (hv : a.eval v = ev val) (hok : ok key)
    (hK : ∀ w', SepK w0 w' KK (star (mapR ek ev ok b (aput l key val)) T) → wpList P ops Q rest (a.put o.dst undef) w') : wpList P ops Q (o :: rest) a w := by
  refine wl_mapUpdate hg m x v hop Y ht hm H.map key val hx hv hok fun w' h1 h2 h3 => hK w' (H.step fun N hR hN => ⟨⟨h1, hR.2⟩, .of1 h2 hR.2⟩)
theorem wl_del {ops : Array Oper} {rest : List Oper} {o : Oper} {a : Act} {Q : Exit → Act → World → Prop} [Good T] (hg : o.guard = none) (m x : Operand) (tys : Array TypeId) (hty : tys[0]? = some t) (hop : o.op = Op.call { callee := Callee.builtin Builtin.delete, args := #[m, x], argTypes := tys }) (Y : Kops P k ek ok) (ht : P.underlying t = some (.map k e))
    (hm : a.eval m = .map (some b)) (H : SepK w0 w KK (star (mapR ek ev ok b l) T)) (key : K) (hx : a.eval x = ek key) (hok : ok key)
    (hK : ∀ w', SepK w0 w' KK (star (mapR ek ev ok b (adel l key)) T) → wpList P ops Q rest (a.put o.dst (.tuple #[])) w') : wpList P ops Q (o :: rest) a w := by
  refine wl_delete hg m x tys hty hop Y ht hm H.map key hx hok fun w' h1 h2 h3 => hK w' (H.step fun N hR hN => ⟨⟨h1, hR.2⟩, .of1 h2 hR.2⟩)
end
end Go.Proofs.Ytgleceijdedlkaa
