/- A step of the heap's law: both calls answer the same. (Printed by gen_pair.py.) -/
import Derived.Test.YtgleceijdedlkaaRef14e
import Derived.Test.YtgleceijdedlkaaSteps14
namespace Go.Proofs.Ytgleceijdedlkaa
open Go.RowKit
set_option linter.unusedVariables false
set_option linter.unusedSimpArgs false
set_option linter.unusedSectionVars false
section
variable {w0 w : World} {K : List (Nat × Obj)} {x g : Nat} {room : Int} {st st' : HS} {U : Res}
set_option maxRecDepth 100000 in
set_option maxHeartbeats 4000000 in
theorem pair_hold {α : Type} {K2 : α → List (Nat × Obj)} {U2 : α → Res} [Good U] [∀ y, Good (U2 y)] (H : SepK w0 w K (star (heldR x room st) U)) (q : Int × Int) (s : St14) (d1 : s.d = 1) (a b : Int)
    (hx : ∀ (K' : List (Nat × Obj)) (w' : World), SepK w0 w' K' (star (heldR x room st) U) → Calls Try.prog 32 #[.pointer (some ⟨x, 0, none⟩), .agg #[.int .i64 q.1, .int .u64 q.2]] w' fun e w2 => e = .returned (.tuple #[.int .i64 a, .int .i64 b]) ∧ SepK w0 w2 K' (star (heldR x room st') U))
    (hg : ∀ (B : List (Nat × Obj)) (w' : World), (∀ p ∈ B, ∀ p' ∈ K, p.1 ≠ p'.1) → SepK w0 w' (B ++ K) (star (heldR x room st') U) → Calls Try.prog 67 #[.pointer (some ⟨g, 0, none⟩), .agg #[.int .i64 q.1, .int .u64 q.2]] w' fun e w2 => ∃ y : α, e = .returned (.tuple #[.int .i64 a, .int .i64 b]) ∧ SepK w0 w2 (B ++ K2 y) (star (heldR x room st') (U2 y))) :
    Calls Try.prog 39 #[.pointer (some ⟨x, 0, none⟩), .pointer (some ⟨g, 0, none⟩), .agg (encS s).toArray, .agg #[.int .i64 q.1, .int .u64 q.2]] w fun e w' => ∃ y : α, e = .returned (.bool true) ∧ SepK w0 w' (K2 y) (star (heldR x room st') (U2 y)) := by
  have hdist : ∀ p ∈ [(w.heap.size + 1, Obj.cells #[.int .i64 q.1, .int .u64 q.2] 30 (0, 0)), (w.heap.size, Obj.cells (encS s).toArray 56 (0, 0))], ∀ p' ∈ K, p.1 ≠ p'.1 := fun p hp p' hp' => by
    have := lt_of_heap (H.blk (b := p'.1) (o := p'.2) hp')
    simp at hp
    rcases hp with rfl | rfl <;> simp <;> omega
  obtain ⟨d, who, kind, pos, m, t, h⟩ := s
  simp only at d1
  subst d1
  unfold encS at hdist ⊢
  simp only at hdist hx hg ⊢
  have H1 := (H.alloc (.cells #[.int .i64 1, .int .i64 who, .int .i64 kind, .int .i64 pos, .int .i64 m, .string t, .int .i64 h.1, .int .u64 h.2] 56)).alloc (.cells #[.int .i64 q.1, .int .u64 q.2] 30)
  simp only [alloc_size] at H1
  have z2 : (b == b) = true := by simp
  go_enter Try.func39, Try.ntmps39
  have z1 : (a == a) = true := by simp
  go_wp2_with fail
  refine (hx _ _ H1).mono ?_
  rintro e w1 ⟨rfl, h1⟩
  have f1 := h1.blk List.mem_cons_self
  have q1 := cell_of f1 0
  have q2 := cell_of f1 1
  have f2 := h1.blk (List.mem_cons_of_mem _ List.mem_cons_self)
  have q3 := cell_of f2 3
  have q4 := cell_of f2 4
  have q5 := cell_of f2 5
  simp only [List.getElem?_toArray, List.getElem?_cons_zero, List.getElem?_cons_succ] at q1 q2 q3 q4 q5
  go_wp2_with fail
  refine (hg _ _ hdist h1).mono ?_
  rintro e w2 ⟨y, rfl, h2⟩
  go_wp2_with fail
  go_ret
  exact ⟨y, rfl, h2.drop (K2 y) (fun p hp => by simp [hp])⟩
set_option maxRecDepth 100000 in
set_option maxHeartbeats 4000000 in
theorem pair_drop {α : Type} {K2 : α → List (Nat × Obj)} {U2 : α → Res} [Good U] [∀ y, Good (U2 y)] (H : SepK w0 w K (star (heldR x room st) U)) (q : Int × Int) (s : St14) (d1 : s.d = 2) (a b : Int)
    (hx : ∀ (K' : List (Nat × Obj)) (w' : World), SepK w0 w' K' (star (heldR x room st) U) → Calls Try.prog 33 #[.pointer (some ⟨x, 0, none⟩), .agg #[.int .i64 q.1, .int .u64 q.2]] w' fun e w2 => e = .returned (.tuple #[.int .i64 a, .int .i64 b]) ∧ SepK w0 w2 K' (star (heldR x room st') U))
    (hg : ∀ (B : List (Nat × Obj)) (w' : World), (∀ p ∈ B, ∀ p' ∈ K, p.1 ≠ p'.1) → SepK w0 w' (B ++ K) (star (heldR x room st') U) → Calls Try.prog 68 #[.pointer (some ⟨g, 0, none⟩), .agg #[.int .i64 q.1, .int .u64 q.2]] w' fun e w2 => ∃ y : α, e = .returned (.tuple #[.int .i64 a, .int .i64 b]) ∧ SepK w0 w2 (B ++ K2 y) (star (heldR x room st') (U2 y))) :
    Calls Try.prog 39 #[.pointer (some ⟨x, 0, none⟩), .pointer (some ⟨g, 0, none⟩), .agg (encS s).toArray, .agg #[.int .i64 q.1, .int .u64 q.2]] w fun e w' => ∃ y : α, e = .returned (.bool true) ∧ SepK w0 w' (K2 y) (star (heldR x room st') (U2 y)) := by
  have hdist : ∀ p ∈ [(w.heap.size + 1, Obj.cells #[.int .i64 q.1, .int .u64 q.2] 30 (0, 0)), (w.heap.size, Obj.cells (encS s).toArray 56 (0, 0))], ∀ p' ∈ K, p.1 ≠ p'.1 := fun p hp p' hp' => by
    have := lt_of_heap (H.blk (b := p'.1) (o := p'.2) hp')
    simp at hp
    rcases hp with rfl | rfl <;> simp <;> omega
  obtain ⟨d, who, kind, pos, m, t, h⟩ := s
  simp only at d1
  subst d1
  unfold encS at hdist ⊢
  simp only at hdist hx hg ⊢
  have H1 := (H.alloc (.cells #[.int .i64 2, .int .i64 who, .int .i64 kind, .int .i64 pos, .int .i64 m, .string t, .int .i64 h.1, .int .u64 h.2] 56)).alloc (.cells #[.int .i64 q.1, .int .u64 q.2] 30)
  simp only [alloc_size] at H1
  have z2 : (b == b) = true := by simp
  go_enter Try.func39, Try.ntmps39
  have z1 : (a == a) = true := by simp
  go_wp2_with fail
  refine (hx _ _ H1).mono ?_
  rintro e w1 ⟨rfl, h1⟩
  have f1 := h1.blk List.mem_cons_self
  have q1 := cell_of f1 0
  have q2 := cell_of f1 1
  have f2 := h1.blk (List.mem_cons_of_mem _ List.mem_cons_self)
  have q3 := cell_of f2 3
  have q4 := cell_of f2 4
  have q5 := cell_of f2 5
  simp only [List.getElem?_toArray, List.getElem?_cons_zero, List.getElem?_cons_succ] at q1 q2 q3 q4 q5
  go_wp2_with fail
  refine (hg _ _ hdist h1).mono ?_
  rintro e w2 ⟨y, rfl, h2⟩
  go_wp2_with fail
  go_ret
  exact ⟨y, rfl, h2.drop (K2 y) (fun p hp => by simp [hp])⟩
set_option maxRecDepth 100000 in
set_option maxHeartbeats 4000000 in
theorem pair_free {α : Type} {K2 : α → List (Nat × Obj)} {U2 : α → Res} [Good U] [∀ y, Good (U2 y)] (H : SepK w0 w K (star (heldR x room st) U)) (q : Int × Int) (s : St14) (d1 : s.d = 3) (b : Int)
    (hx : ∀ (K' : List (Nat × Obj)) (w' : World), SepK w0 w' K' (star (heldR x room st) U) → Calls Try.prog 34 #[.pointer (some ⟨x, 0, none⟩), .agg #[.int .i64 q.1, .int .u64 q.2]] w' fun e w2 => e = .returned (.int .i64 b) ∧ SepK w0 w2 K' (star (heldR x room st') U))
    (hg : ∀ (B : List (Nat × Obj)) (w' : World), (∀ p ∈ B, ∀ p' ∈ K, p.1 ≠ p'.1) → SepK w0 w' (B ++ K) (star (heldR x room st') U) → Calls Try.prog 69 #[.pointer (some ⟨g, 0, none⟩), .agg #[.int .i64 q.1, .int .u64 q.2]] w' fun e w2 => ∃ y : α, e = .returned (.int .i64 b) ∧ SepK w0 w2 (B ++ K2 y) (star (heldR x room st') (U2 y))) :
    Calls Try.prog 39 #[.pointer (some ⟨x, 0, none⟩), .pointer (some ⟨g, 0, none⟩), .agg (encS s).toArray, .agg #[.int .i64 q.1, .int .u64 q.2]] w fun e w' => ∃ y : α, e = .returned (.bool true) ∧ SepK w0 w' (K2 y) (star (heldR x room st') (U2 y)) := by
  have hdist : ∀ p ∈ [(w.heap.size + 1, Obj.cells #[.int .i64 q.1, .int .u64 q.2] 30 (0, 0)), (w.heap.size, Obj.cells (encS s).toArray 56 (0, 0))], ∀ p' ∈ K, p.1 ≠ p'.1 := fun p hp p' hp' => by
    have := lt_of_heap (H.blk (b := p'.1) (o := p'.2) hp')
    simp at hp
    rcases hp with rfl | rfl <;> simp <;> omega
  obtain ⟨d, who, kind, pos, m, t, h⟩ := s
  simp only at d1
  subst d1
  unfold encS at hdist ⊢
  simp only at hdist hx hg ⊢
  have H1 := (H.alloc (.cells #[.int .i64 3, .int .i64 who, .int .i64 kind, .int .i64 pos, .int .i64 m, .string t, .int .i64 h.1, .int .u64 h.2] 56)).alloc (.cells #[.int .i64 q.1, .int .u64 q.2] 30)
  simp only [alloc_size] at H1
  have z2 : (b == b) = true := by simp
  go_enter Try.func39, Try.ntmps39
  have hh := H1.upd (Upd.refl [] _).drew
  clear H1
  go_wp2_with fail
  go_region_with (first
    | (go_at_call 34; refine (hx _ _ hh).mono ?_; rintro e wa ⟨rfl, ha⟩; have f1 := ha.blk List.mem_cons_self; have q1 := cell_of f1 0; have q2 := cell_of f1 1; have f2 := ha.blk (List.mem_cons_of_mem _ List.mem_cons_self); have q3 := cell_of f2 3; have q5 := cell_of f2 5; simp only [List.getElem?_toArray, List.getElem?_cons_zero, List.getElem?_cons_succ] at q1 q2 q3 q5)
    | (go_at_call 69; refine (hg _ _ hdist ha).mono ?_; rintro e wb ⟨y, rfl, hb⟩))
  all_goals
    go_wp2_with fail
    go_ret
    exact ⟨y, rfl, hb.drop (K2 y) (fun p hp => by simp [hp])⟩
set_option maxRecDepth 100000 in
set_option maxHeartbeats 4000000 in
theorem pair_read {α : Type} {K2 : α → List (Nat × Obj)} {U2 : α → Res} [Good U] [∀ y, Good (U2 y)] (H : SepK w0 w K (star (heldR x room st) U)) (q : Int × Int) (s : St14) (d1 : s.d = 4) (a : ByteArray) (b : Int)
    (hx : ∀ (K' : List (Nat × Obj)) (w' : World), SepK w0 w' K' (star (heldR x room st) U) → Calls Try.prog 36 #[.pointer (some ⟨x, 0, none⟩), .agg #[.int .i64 q.1, .int .u64 q.2], .int .i64 s.pos, .int .i64 s.n] w' fun e w2 => e = .returned (.tuple #[.string a, .int .i64 b]) ∧ SepK w0 w2 K' (star (heldR x room st') U))
    (hg : ∀ (B : List (Nat × Obj)) (w' : World), (∀ p ∈ B, ∀ p' ∈ K, p.1 ≠ p'.1) → SepK w0 w' (B ++ K) (star (heldR x room st') U) → Calls Try.prog 70 #[.pointer (some ⟨g, 0, none⟩), .agg #[.int .i64 q.1, .int .u64 q.2], .int .i64 s.pos, .int .i64 s.n] w' fun e w2 => ∃ y : α, e = .returned (.tuple #[.string a, .int .i64 b]) ∧ SepK w0 w2 (B ++ K2 y) (star (heldR x room st') (U2 y))) :
    Calls Try.prog 39 #[.pointer (some ⟨x, 0, none⟩), .pointer (some ⟨g, 0, none⟩), .agg (encS s).toArray, .agg #[.int .i64 q.1, .int .u64 q.2]] w fun e w' => ∃ y : α, e = .returned (.bool true) ∧ SepK w0 w' (K2 y) (star (heldR x room st') (U2 y)) := by
  have hdist : ∀ p ∈ [(w.heap.size + 1, Obj.cells #[.int .i64 q.1, .int .u64 q.2] 30 (0, 0)), (w.heap.size, Obj.cells (encS s).toArray 56 (0, 0))], ∀ p' ∈ K, p.1 ≠ p'.1 := fun p hp p' hp' => by
    have := lt_of_heap (H.blk (b := p'.1) (o := p'.2) hp')
    simp at hp
    rcases hp with rfl | rfl <;> simp <;> omega
  obtain ⟨d, who, kind, pos, m, t, h⟩ := s
  simp only at d1
  subst d1
  unfold encS at hdist ⊢
  simp only at hdist hx hg ⊢
  have H1 := (H.alloc (.cells #[.int .i64 4, .int .i64 who, .int .i64 kind, .int .i64 pos, .int .i64 m, .string t, .int .i64 h.1, .int .u64 h.2] 56)).alloc (.cells #[.int .i64 q.1, .int .u64 q.2] 30)
  simp only [alloc_size] at H1
  have z2 : (b == b) = true := by simp
  go_enter Try.func39, Try.ntmps39
  go_wp2_with fail
  refine (hx _ _ H1).mono ?_
  rintro e w1 ⟨rfl, h1⟩
  have f1 := h1.blk List.mem_cons_self
  have q1 := cell_of f1 0
  have q2 := cell_of f1 1
  have f2 := h1.blk (List.mem_cons_of_mem _ List.mem_cons_self)
  have q3 := cell_of f2 3
  have q4 := cell_of f2 4
  have q5 := cell_of f2 5
  simp only [List.getElem?_toArray, List.getElem?_cons_zero, List.getElem?_cons_succ] at q1 q2 q3 q4 q5
  go_wp2_with fail
  refine (hg _ _ hdist h1).mono ?_
  rintro e w2 ⟨y, rfl, h2⟩
  go_wp2_with fail
  go_ret
  exact ⟨y, rfl, h2.drop (K2 y) (fun p hp => by simp [hp])⟩
set_option maxRecDepth 100000 in
set_option maxHeartbeats 4000000 in
theorem pair_write {α : Type} {K2 : α → List (Nat × Obj)} {U2 : α → Res} [Good U] [∀ y, Good (U2 y)] (H : SepK w0 w K (star (heldR x room st) U)) (q : Int × Int) (s : St14) (d1 : s.d = 5) (b : Int)
    (hx : ∀ (K' : List (Nat × Obj)) (w' : World), SepK w0 w' K' (star (heldR x room st) U) → Calls Try.prog 37 #[.pointer (some ⟨x, 0, none⟩), .agg #[.int .i64 q.1, .int .u64 q.2], .int .i64 s.pos, .string s.s] w' fun e w2 => e = .returned (.int .i64 b) ∧ SepK w0 w2 K' (star (heldR x room st') U))
    (hg : ∀ (B : List (Nat × Obj)) (w' : World), (∀ p ∈ B, ∀ p' ∈ K, p.1 ≠ p'.1) → SepK w0 w' (B ++ K) (star (heldR x room st') U) → Calls Try.prog 71 #[.pointer (some ⟨g, 0, none⟩), .agg #[.int .i64 q.1, .int .u64 q.2], .int .i64 s.pos, .string s.s] w' fun e w2 => ∃ y : α, e = .returned (.int .i64 b) ∧ SepK w0 w2 (B ++ K2 y) (star (heldR x room st') (U2 y))) :
    Calls Try.prog 39 #[.pointer (some ⟨x, 0, none⟩), .pointer (some ⟨g, 0, none⟩), .agg (encS s).toArray, .agg #[.int .i64 q.1, .int .u64 q.2]] w fun e w' => ∃ y : α, e = .returned (.bool true) ∧ SepK w0 w' (K2 y) (star (heldR x room st') (U2 y)) := by
  have hdist : ∀ p ∈ [(w.heap.size + 1, Obj.cells #[.int .i64 q.1, .int .u64 q.2] 30 (0, 0)), (w.heap.size, Obj.cells (encS s).toArray 56 (0, 0))], ∀ p' ∈ K, p.1 ≠ p'.1 := fun p hp p' hp' => by
    have := lt_of_heap (H.blk (b := p'.1) (o := p'.2) hp')
    simp at hp
    rcases hp with rfl | rfl <;> simp <;> omega
  obtain ⟨d, who, kind, pos, m, t, h⟩ := s
  simp only at d1
  subst d1
  unfold encS at hdist ⊢
  simp only at hdist hx hg ⊢
  have H1 := (H.alloc (.cells #[.int .i64 5, .int .i64 who, .int .i64 kind, .int .i64 pos, .int .i64 m, .string t, .int .i64 h.1, .int .u64 h.2] 56)).alloc (.cells #[.int .i64 q.1, .int .u64 q.2] 30)
  simp only [alloc_size] at H1
  have z2 : (b == b) = true := by simp
  go_enter Try.func39, Try.ntmps39
  have hh := H1.upd (Upd.refl [] _).drew
  clear H1
  go_wp2_with fail
  have f1 := hh.blk List.mem_cons_self
  have f2 := hh.blk (List.mem_cons_of_mem _ List.mem_cons_self)
  have k1 := cell_of f1 0
  have k2 := cell_of f1 1
  have k3 := cell_of f2 3
  have k4 := cell_of f2 5
  simp only [List.getElem?_toArray, List.getElem?_cons_zero, List.getElem?_cons_succ] at k1 k2 k3 k4
  go_region_held3 (fun w' => w'.cell? ⟨w.heap.size + 1, 0, none⟩ = some (.int .i64 q.1) ∧ w'.cell? ⟨w.heap.size + 1, 1, none⟩ = some (.int .u64 q.2) ∧ w'.cell? ⟨w.heap.size, 3, none⟩ = some (.int .i64 pos) ∧ w'.cell? ⟨w.heap.size, 5, none⟩ = some (.string t)) (exact ⟨k1, k2, k3, k4⟩)
    (first
      | (go_at_call 37; refine (hx _ _ hh).mono ?_; rintro e wa ⟨rfl, ha⟩; replace f1 := ha.blk List.mem_cons_self; replace f2 := ha.blk (List.mem_cons_of_mem _ List.mem_cons_self); replace k1 := cell_of f1 0; replace k2 := cell_of f1 1; replace k3 := cell_of f2 3; replace k4 := cell_of f2 5; simp only [List.getElem?_toArray, List.getElem?_cons_zero, List.getElem?_cons_succ] at k1 k2 k3 k4)
      | (go_at_call 71; refine (hg _ _ hdist ha).mono ?_; rintro e wb ⟨y, rfl, hb⟩; replace f1 := hb.blk List.mem_cons_self; replace f2 := hb.blk (List.mem_cons_of_mem _ List.mem_cons_self); replace k1 := cell_of f1 0; replace k2 := cell_of f1 1; replace k3 := cell_of f2 3; replace k4 := cell_of f2 5; simp only [List.getElem?_toArray, List.getElem?_cons_zero, List.getElem?_cons_succ] at k1 k2 k3 k4))
  all_goals
    go_wp2_with fail
    go_ret
    exact ⟨y, rfl, hb.drop (K2 y) (fun p hp => by simp [hp])⟩
end
end Go.Proofs.Ytgleceijdedlkaa
