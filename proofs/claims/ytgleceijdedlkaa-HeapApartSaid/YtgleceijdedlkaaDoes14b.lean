/- does, beside an empty heap of the reference. -/
import Derived.Test.YtgleceijdedlkaaDoes14
namespace Go.Proofs.Ytgleceijdedlkaa
open Go.RowKit
set_option linter.unusedVariables false
set_option linter.unusedSimpArgs false
section
variable {w0 w : World} {K : List (Nat × Obj)} {x : Nat} {room : Int} {st : HS} {T : Res} [Good T]
set_option maxRecDepth 100000 in
set_option maxHeartbeats 4000000 in
theorem does_hold (H : SepK w0 w K (star (heldR x room st) T)) {r : Nat} {o1 o2 : Value} (hK : (r, blkR o1 o2) ∈ K) {n : Nat} (hI : Inv room n st) (hn : n ≤ 1000) (q : Int × Int) (hq : okH q) (s : St14) (d1 : s.d = 1) :
    Calls Try.prog 39 #[.pointer (some ⟨x, 0, none⟩), .pointer (some ⟨r, 0, none⟩), .agg (encS s).toArray, .agg #[.int .i64 q.1, .int .u64 q.2]] w fun e w' => ∃ b st', e = .returned (.bool b) ∧ SepK w0 w' K (star (heldR x room st') T) ∧ Did room n q st st' := by
  obtain ⟨d, who, kind, pos, m, t, h⟩ := s
  simp only at d1
  subst d1
  unfold encS
  simp only
  have H1 := (H.alloc (.cells #[.int .i64 1, .int .i64 who, .int .i64 kind, .int .i64 pos, .int .i64 m, .string t, .int .i64 h.1, .int .u64 h.2] 56)).alloc (.cells #[.int .i64 q.1, .int .u64 q.2] 30)
  simp only [alloc_size] at H1
  go_enter Try.func39, Try.ntmps39
  cases hob : aget st.ob q with
  | none =>
    go_wp2_with fail
    refine (sHold_no H1 q.1 q.2 hq hob).mono ?_
    rintro e w1 ⟨rfl, h1⟩
    have f1 := h1.blk List.mem_cons_self
    have q1 := cell_of f1 0
    have q2 := cell_of f1 1
    simp only [List.getElem?_toArray, List.getElem?_cons_zero, List.getElem?_cons_succ] at q1 q2
    go_wp2_with fail
    refine (RHold_empty _ r o1 o2 (h1.blk (by simp [hK])) q).mono ?_
    rintro e w2 ⟨rfl, u2⟩
    go_wp2_with fail
    go_ret
    exact ⟨_, st, rfl, (h1.upd u2).drop K (fun p hp => by simp [hp]), Did.same hI⟩
  | some y =>
    obtain ⟨c, k⟩ := y
    have hbd := hI.bd q c k hob
    go_wp2_with fail
    refine (sHold_ok H1 q.1 q.2 c k ⟨by omega, by omega⟩ hob).mono ?_
    rintro e w1 ⟨rfl, h1⟩
    have f1 := h1.blk List.mem_cons_self
    have q1 := cell_of f1 0
    have q2 := cell_of f1 1
    simp only [List.getElem?_toArray, List.getElem?_cons_zero, List.getElem?_cons_succ] at q1 q2
    have z0 : (c + 1 == 0) = false := beq_eq_false_iff_ne.2 (by omega)
    go_wp2_with fail
    refine (RHold_empty _ r o1 o2 (h1.blk (by simp [hK])) q).mono ?_
    rintro e w2 ⟨rfl, u2⟩
    go_wp2_with fail
    go_ret
    exact ⟨_, _, rfl, (h1.upd u2).drop K (fun p hp => by simp [hp]), Did.set hI (c + 1) k (by omega) (by omega)⟩
theorem fits_nat {l : Nat} {i n : Int} (h : fits l i n) : ∃ a b : Nat, i = a ∧ n = b ∧ a + b ≤ l := by
  unfold fits at h
  exact ⟨i.toNat, n.toNat, by omega, by omega, by omega⟩
set_option maxRecDepth 100000 in
set_option maxHeartbeats 4000000 in
theorem does_drop (H : SepK w0 w K (star (heldR x room st) T)) {r : Nat} {o1 o2 : Value} (hK : (r, blkR o1 o2) ∈ K) {n : Nat} (hI : Inv room n st) (hn : n ≤ 1000) (hroom : room ≤ 65536) (q : Int × Int) (hq : okH q) (s : St14) (hs : okS s) (d1 : s.d = 2) :
    Calls Try.prog 39 #[.pointer (some ⟨x, 0, none⟩), .pointer (some ⟨r, 0, none⟩), .agg (encS s).toArray, .agg #[.int .i64 q.1, .int .u64 q.2]] w fun e w' => ∃ b st', e = .returned (.bool b) ∧ SepK w0 w' K (star (heldR x room st') T) ∧ Did room n q st st' := by
  obtain ⟨d, who, kind, pos, m, t, h⟩ := s
  obtain ⟨-, -, -, hpos, hm, ht, -⟩ := hs
  simp only at d1 hpos hm ht
  subst d1
  unfold encS
  simp only
  have H1 := (H.alloc (.cells #[.int .i64 2, .int .i64 who, .int .i64 kind, .int .i64 pos, .int .i64 m, .string t, .int .i64 h.1, .int .u64 h.2] 56)).alloc (.cells #[.int .i64 q.1, .int .u64 q.2] 30)
  simp only [alloc_size] at H1
  go_enter Try.func39, Try.ntmps39
  cases hob : aget st.ob q with
  | none =>
    go_wp2_with fail
    refine (sDrop_no H1 q.1 q.2 hq hob).mono ?_
    rintro e w1 ⟨rfl, h1⟩
    have f1 := h1.blk List.mem_cons_self
    have q1 := cell_of f1 0
    have q2 := cell_of f1 1
    have f2 := h1.blk (List.mem_cons_of_mem _ List.mem_cons_self)
    have q3 := cell_of f2 3
    have q4 := cell_of f2 4
    have q5 := cell_of f2 5
    simp only [List.getElem?_toArray, List.getElem?_cons_zero, List.getElem?_cons_succ] at q1 q2 q3 q4 q5
    go_wp2_with fail
    refine (RDrop_empty _ r o1 o2 (h1.blk (by simp [hK])) q).mono ?_
    rintro e w2 ⟨rfl, u2⟩
    go_wp2_with fail
    all_goals
      go_ret
      exact ⟨_, st, rfl, (h1.upd u2).drop K (fun p hp => by simp [hp]), Did.same hI⟩
  | some y =>
    obtain ⟨c, k⟩ := y
    have hbd := hI.bd q c k hob
    by_cases c0 : c = 0
    · subst c0
      go_wp2_with fail
      refine (sDrop_zero H1 q.1 q.2 k hob).mono ?_
      rintro e w1 ⟨rfl, h1⟩
      have f1 := h1.blk List.mem_cons_self
      have q1 := cell_of f1 0
      have q2 := cell_of f1 1
      have f2 := h1.blk (List.mem_cons_of_mem _ List.mem_cons_self)
      have q3 := cell_of f2 3
      have q4 := cell_of f2 4
      have q5 := cell_of f2 5
      simp only [List.getElem?_toArray, List.getElem?_cons_zero, List.getElem?_cons_succ] at q1 q2 q3 q4 q5
      go_wp2_with fail
      refine (RDrop_empty _ r o1 o2 (h1.blk (by simp [hK])) q).mono ?_
      rintro e w2 ⟨rfl, u2⟩
      go_wp2_with fail
      all_goals
        go_ret
        exact ⟨_, st, rfl, (h1.upd u2).drop K (fun p hp => by simp [hp]), Did.same hI⟩
    · rcases Bool.eq_false_or_eq_true (c - 1 == 0) with z0 | z0
      all_goals
        go_wp2_with fail
        refine (sDrop_ok H1 q.1 q.2 c k ⟨by omega, by omega⟩ c0 hob).mono ?_
        rintro e w1 ⟨rfl, h1⟩
        have f1 := h1.blk List.mem_cons_self
        have q1 := cell_of f1 0
        have q2 := cell_of f1 1
        have f2 := h1.blk (List.mem_cons_of_mem _ List.mem_cons_self)
        have q3 := cell_of f2 3
        have q4 := cell_of f2 4
        have q5 := cell_of f2 5
        simp only [List.getElem?_toArray, List.getElem?_cons_zero, List.getElem?_cons_succ] at q1 q2 q3 q4 q5
        go_wp2_with fail
        refine (RDrop_empty _ r o1 o2 (h1.blk (by simp [hK])) q).mono ?_
        rintro e w2 ⟨rfl, u2⟩
        go_wp2_with fail
        all_goals
          go_ret
          exact ⟨_, _, rfl, (h1.upd u2).drop K (fun p hp => by simp [hp]), Did.set hI (c - 1) k (by omega) (by omega)⟩
set_option maxRecDepth 100000 in
set_option maxHeartbeats 4000000 in
theorem does_read (H : SepK w0 w K (star (heldR x room st) T)) {r : Nat} {o1 o2 : Value} (hK : (r, blkR o1 o2) ∈ K) {n : Nat} (hI : Inv room n st) (hn : n ≤ 1000) (hroom : room ≤ 65536) (q : Int × Int) (hq : okH q) (s : St14) (hs : okS s) (d1 : s.d = 4) :
    Calls Try.prog 39 #[.pointer (some ⟨x, 0, none⟩), .pointer (some ⟨r, 0, none⟩), .agg (encS s).toArray, .agg #[.int .i64 q.1, .int .u64 q.2]] w fun e w' => ∃ b st', e = .returned (.bool b) ∧ SepK w0 w' K (star (heldR x room st') T) ∧ Did room n q st st' := by
  obtain ⟨d, who, kind, pos, m, t, h⟩ := s
  obtain ⟨-, -, -, hpos, hm, ht, -⟩ := hs
  simp only at d1 hpos hm ht
  subst d1
  unfold encS
  simp only
  have H1 := (H.alloc (.cells #[.int .i64 4, .int .i64 who, .int .i64 kind, .int .i64 pos, .int .i64 m, .string t, .int .i64 h.1, .int .u64 h.2] 56)).alloc (.cells #[.int .i64 q.1, .int .u64 q.2] 30)
  simp only [alloc_size] at H1
  go_enter Try.func39, Try.ntmps39
  cases hob : aget st.ob q with
  | none =>
    go_wp2_with fail
    refine (sRead_no H1 q.1 q.2 pos m hq hob).mono ?_
    rintro e w1 ⟨rfl, h1⟩
    have f1 := h1.blk List.mem_cons_self
    have q1 := cell_of f1 0
    have q2 := cell_of f1 1
    have f2 := h1.blk (List.mem_cons_of_mem _ List.mem_cons_self)
    have q3 := cell_of f2 3
    have q4 := cell_of f2 4
    have q5 := cell_of f2 5
    simp only [List.getElem?_toArray, List.getElem?_cons_zero, List.getElem?_cons_succ] at q1 q2 q3 q4 q5
    go_wp2_with fail
    refine (RRead_empty _ r o1 o2 (h1.blk (by simp [hK])) q pos m).mono ?_
    rintro e w2 ⟨rfl, u2⟩
    go_wp2_with fail
    all_goals
      go_ret
      exact ⟨_, st, rfl, (h1.upd u2).drop K (fun p hp => by simp [hp]), Did.same hI⟩
  | some y =>
    obtain ⟨c, k⟩ := y
    obtain ⟨bs, hbs⟩ := H.slot hob
    have hbl : bs.length ≤ 128 := hI.each _ (aget_mem hbs)
    by_cases hf : fits bs.length pos m
    · obtain ⟨i, j, rfl, rfl, hij⟩ := fits_nat hf
      go_wp2_with fail
      refine (sRead_ok H1 q.1 q.2 c k i j bs hbs (by omega) hij hob).mono ?_
      rintro e w1 ⟨rfl, h1⟩
      have f1 := h1.blk List.mem_cons_self
      have q1 := cell_of f1 0
      have q2 := cell_of f1 1
      have f2 := h1.blk (List.mem_cons_of_mem _ List.mem_cons_self)
      have q3 := cell_of f2 3
      have q4 := cell_of f2 4
      have q5 := cell_of f2 5
      simp only [List.getElem?_toArray, List.getElem?_cons_zero, List.getElem?_cons_succ] at q1 q2 q3 q4 q5
      go_wp2_with fail
      refine (RRead_empty _ r o1 o2 (h1.blk (by simp [hK])) q i j).mono ?_
      rintro e w2 ⟨rfl, u2⟩
      go_wp2_with fail
      all_goals
        go_ret
        exact ⟨_, st, rfl, (h1.upd u2).drop K (fun p hp => by simp [hp]), Did.same hI⟩
    · have hbl' : ∀ p ∈ st.sl, p.2.length ≤ 1000 := fun p hp => by have := hI.each p hp; omega
      go_wp2_with fail
      refine (sRead_bad H1 q.1 q.2 c k pos m bs hbs hbl' hpos hm hf hob).mono ?_
      rintro e w1 ⟨rfl, h1⟩
      have f1 := h1.blk List.mem_cons_self
      have q1 := cell_of f1 0
      have q2 := cell_of f1 1
      have f2 := h1.blk (List.mem_cons_of_mem _ List.mem_cons_self)
      have q3 := cell_of f2 3
      have q4 := cell_of f2 4
      have q5 := cell_of f2 5
      simp only [List.getElem?_toArray, List.getElem?_cons_zero, List.getElem?_cons_succ] at q1 q2 q3 q4 q5
      go_wp2_with fail
      refine (RRead_empty _ r o1 o2 (h1.blk (by simp [hK])) q pos m).mono ?_
      rintro e w2 ⟨rfl, u2⟩
      go_wp2_with fail
      all_goals
        go_ret
        exact ⟨_, st, rfl, (h1.upd u2).drop K (fun p hp => by simp [hp]), Did.same hI⟩
set_option maxRecDepth 100000 in
set_option maxHeartbeats 4000000 in
theorem does_else (H : SepK w0 w K (star (heldR x room st) T)) {r : Nat} {n : Nat} (hI : Inv room n st) (q : Int × Int) (s : St14) (d1 : s.d ≠ 1) (d2 : s.d ≠ 2) (d3 : s.d ≠ 3) (d4 : s.d ≠ 4) (d5 : s.d ≠ 5) :
    Calls Try.prog 39 #[.pointer (some ⟨x, 0, none⟩), .pointer (some ⟨r, 0, none⟩), .agg (encS s).toArray, .agg #[.int .i64 q.1, .int .u64 q.2]] w fun e w' => ∃ b st', e = .returned (.bool b) ∧ SepK w0 w' K (star (heldR x room st') T) ∧ Did room n q st st' := by
  obtain ⟨d, who, kind, pos, m, t, h⟩ := s
  simp only at d1 d2 d3 d4 d5
  have z1 : (d == 1) = false := beq_eq_false_iff_ne.2 d1
  have z2 : (d == 2) = false := beq_eq_false_iff_ne.2 d2
  have z3 : (d == 3) = false := beq_eq_false_iff_ne.2 d3
  have z4 : (d == 4) = false := beq_eq_false_iff_ne.2 d4
  have z5 : (d == 5) = false := beq_eq_false_iff_ne.2 d5
  unfold encS
  simp only
  go_enter Try.func39, Try.ntmps39
  go_wp2_with fail
  go_ret
  exact ⟨_, st, rfl, ((H.alloc _).alloc _).drop K (fun p hp => by simp [hp]), Did.same hI⟩
set_option maxRecDepth 100000 in
set_option maxHeartbeats 4000000 in
theorem does_free (H : SepK w0 w K (star (heldR x room st) T)) {r : Nat} {o1 o2 : Value} (hK : (r, blkR o1 o2) ∈ K) {n : Nat} (hI : Inv room n st) (hn : n ≤ 1000) (hroom : room ≤ 65536) (q : Int × Int) (hq : okH q) (s : St14) (hs : okS s) (d1 : s.d = 3) :
    Calls Try.prog 39 #[.pointer (some ⟨x, 0, none⟩), .pointer (some ⟨r, 0, none⟩), .agg (encS s).toArray, .agg #[.int .i64 q.1, .int .u64 q.2]] w fun e w' => ∃ b st', e = .returned (.bool b) ∧ SepK w0 w' K (star (heldR x room st') T) ∧ Did room n q st st' := by
  obtain ⟨d, who, kind, pos, m, t, h⟩ := s
  obtain ⟨-, -, -, hpos, hm, ht, -⟩ := hs
  simp only at d1 hpos hm ht
  subst d1
  unfold encS
  simp only
  have H1 := ((H.alloc (.cells #[.int .i64 3, .int .i64 who, .int .i64 kind, .int .i64 pos, .int .i64 m, .string t, .int .i64 h.1, .int .u64 h.2] 56)).alloc (.cells #[.int .i64 q.1, .int .u64 q.2] 30)).upd (Upd.refl [] _).drew
  simp only [alloc_size] at H1
  go_enter Try.func39, Try.ntmps39
  cases hob : aget st.ob q with
  | none =>
    go_wp2_with fail
    have hh := H1
    have hb := hh.blk (b := r) (o := blkR o1 o2) (by simp [hK])
    go_region_with (first
      | (go_at_call 34; refine (sFree_no hh q.1 q.2 hq hob).mono ?_; rintro e wa ⟨rfl, ha⟩; replace hb := ha.blk (b := r) (o := blkR o1 o2) (by simp [hK]); replace hh := ha; have f1 := ha.blk List.mem_cons_self; have q1 := cell_of f1 0; have q2 := cell_of f1 1; have f2 := ha.blk (List.mem_cons_of_mem _ List.mem_cons_self); have q3 := cell_of f2 3; have q5 := cell_of f2 5; simp only [List.getElem?_toArray, List.getElem?_cons_zero, List.getElem?_cons_succ] at q1 q2 q3 q5)
      | (go_at_call 69; refine (RFree_empty _ r o1 o2 hb q).mono ?_; rintro e wb ⟨rfl, ub⟩; replace hh := hh.upd ub; have g1 := hh.blk List.mem_cons_self; have p1 := cell_of g1 0; have p2 := cell_of g1 1; have g2 := hh.blk (List.mem_cons_of_mem _ List.mem_cons_self); have p3 := cell_of g2 3; have p5 := cell_of g2 5; simp only [List.getElem?_toArray, List.getElem?_cons_zero, List.getElem?_cons_succ] at p1 p2 p3 p5))
    all_goals
      go_wp2_with fail
      go_ret
      exact ⟨_, st, rfl, hh.drop K (fun p hp => by simp [hp]), Did.same hI⟩
  | some y =>
    obtain ⟨c, k⟩ := y
    have hbd := hI.bd q c k hob
    by_cases c0 : c = 0
    · subst c0
      obtain ⟨bs, hbs⟩ := H.slot hob
      have hbl : bs.length ≤ 128 := hI.each _ (aget_mem hbs)
      have hle := hI.le
      go_wp2_with fail
      have hh := H1
      have hb := hh.blk (b := r) (o := blkR o1 o2) (by simp [hK])
      go_region_with (first
        | (go_at_call 34; refine (sFree_ok hh q.1 q.2 0 k (by omega) bs hbs (by omega) hI.lo (by omega) hob).mono ?_; rintro e wa ⟨rfl, ha⟩; replace hb := ha.blk (b := r) (o := blkR o1 o2) (by simp [hK]); replace hh := ha; have f1 := ha.blk List.mem_cons_self; have q1 := cell_of f1 0; have q2 := cell_of f1 1; have f2 := ha.blk (List.mem_cons_of_mem _ List.mem_cons_self); have q3 := cell_of f2 3; have q5 := cell_of f2 5; simp only [List.getElem?_toArray, List.getElem?_cons_zero, List.getElem?_cons_succ] at q1 q2 q3 q5)
        | (go_at_call 69; refine (RFree_empty _ r o1 o2 hb q).mono ?_; rintro e wb ⟨rfl, ub⟩; replace hh := hh.upd ub; have g1 := hh.blk List.mem_cons_self; have p1 := cell_of g1 0; have p2 := cell_of g1 1; have g2 := hh.blk (List.mem_cons_of_mem _ List.mem_cons_self); have p3 := cell_of g2 3; have p5 := cell_of g2 5; simp only [List.getElem?_toArray, List.getElem?_cons_zero, List.getElem?_cons_succ] at p1 p2 p3 p5))
      all_goals
        go_wp2_with fail
        go_ret
        exact ⟨_, _, rfl, hh.drop K (fun p hp => by simp [hp]), Did.free H hI q.1 q.2 _ hob bs hbs⟩
    · skip
      go_wp2_with fail
      have hh := H1
      have hb := hh.blk (b := r) (o := blkR o1 o2) (by simp [hK])
      go_region_with (first
        | (go_at_call 34; refine (sFree_held hh q.1 q.2 c k (by omega) hob).mono ?_; rintro e wa ⟨rfl, ha⟩; replace hb := ha.blk (b := r) (o := blkR o1 o2) (by simp [hK]); replace hh := ha; have f1 := ha.blk List.mem_cons_self; have q1 := cell_of f1 0; have q2 := cell_of f1 1; have f2 := ha.blk (List.mem_cons_of_mem _ List.mem_cons_self); have q3 := cell_of f2 3; have q5 := cell_of f2 5; simp only [List.getElem?_toArray, List.getElem?_cons_zero, List.getElem?_cons_succ] at q1 q2 q3 q5)
        | (go_at_call 69; refine (RFree_empty _ r o1 o2 hb q).mono ?_; rintro e wb ⟨rfl, ub⟩; replace hh := hh.upd ub; have g1 := hh.blk List.mem_cons_self; have p1 := cell_of g1 0; have p2 := cell_of g1 1; have g2 := hh.blk (List.mem_cons_of_mem _ List.mem_cons_self); have p3 := cell_of g2 3; have p5 := cell_of g2 5; simp only [List.getElem?_toArray, List.getElem?_cons_zero, List.getElem?_cons_succ] at p1 p2 p3 p5))
      all_goals
        go_wp2_with fail
        go_ret
        exact ⟨_, st, rfl, hh.drop K (fun p hp => by simp [hp]), Did.same hI⟩
end
end Go.Proofs.Ytgleceijdedlkaa
