/- HeapBytes: the walk. -/
import Derived.Test.YtgleceijdedlkaaWorks14
import Derived.Test.YtgleceijdedlkaaApart12
import Derived.Deep.DeepCutAuto
import Derived.Deep.CutBlock
namespace Go.Proofs.Ytgleceijdedlkaa
open Go.RowKit
set_option linter.unusedVariables false
set_option linter.unusedSimpArgs false
set_option maxRecDepth 100000 in
set_option maxHeartbeats 1000000 in
theorem ones_spec (w : World) (n : Nat) (hn : n ≤ 1000) : Calls Try.prog 38 #[.int .i64 (n : Int)] w fun e w' => ∃ b, e = .returned (.slice (some ⟨b, 0, none⟩) n n) ∧ BytesAt 5 w' b (List.replicate n 255) ∧ w.heap.size ≤ b ∧ Upd [] w w' := by
  have hmk : ∀ w', (Instr.makeSlice 36 (.int .i64 (n : Int)) (.int .i64 (n : Int))).run Try.prog w' = .ok (.slice (some ⟨w'.heap.size, 0, none⟩) n n) (w'.alloc (zb n)) := fun w' => make_bytes Try.underlying36 info5 w' n (by omega) (by omega)
  go_enter Try.func38, Try.ntmps38
  go_wp2_with fail
  have h0 : BytesAt 5 (w.alloc (zb n)) w.heap.size (List.replicate 0 255 ++ List.replicate (n - 0) 0) := by
    simp only [List.replicate_zero, List.nil_append, Nat.sub_zero]
    exact BytesAt.made w n
  have U0 := (Upd.refl [] w).alloc (zb n)
  clear hmk
  generalize hw1 : w.alloc (zb n) = w1 at *
  clear hw1
  obtain ⟨g, hg⟩ : ∃ g, g = w.heap.size := ⟨_, rfl⟩
  rw [← hg] at h0 ⊢
  have hge : w.heap.size ≤ g := by omega
  clear hg
  go_loopg [4] n (fun kq v4 w' => ∃ k : Nat, v4 = .int .i64 (k : Int) ∧ kq + k = n ∧ BytesAt 5 w' g (List.replicate k 255 ++ List.replicate (n - k) 0) ∧ Upd [] w w')
  case atStart => exact ⟨0, rfl, rfl, h0, U0⟩
  case round =>
    clear h0 U0
    obtain ⟨k, rfl, hk, hB, hU⟩ := hrel
    by_cases hkn : k < n
    · have z1 : decide ((k : Int) < (n : Int)) = true := decide_eq_true (by omega)
      have q0 : wr.cell? ⟨g, k, none⟩ = some (bcell 0) := by
        rw [hB.cell]
        rw [List.getElem?_append_right (by simp), List.getElem?_replicate, if_pos (by simp; omega)]
        rfl
      have f0 := hB.frozen k
      have hS := hB.set k 255
      rw [fill_step n k 255 hkn] at hS
      go_wp2_with fail
      go_roundg (gk - 1)
      case measure => omega
      case rel => exact ⟨k + 1, by go_num, by omega, hS, hU.setCell _ _ (.inr hge)⟩
    · have z1 : decide ((k : Int) < (n : Int)) = false := decide_eq_false (by omega)
      obtain rfl : k = n := by omega
      go_wp2_with fail
      go_ret
      exact ⟨g, rfl, by simpa using hB, hge, hU⟩
/-- What is written into the other object makes no difference to this one. -/
theorem writeOther {x : Nat} {N : Nat → Prop} (n m : Nat) (bs : List UInt8) (hb : bs.length ≤ 128) (hm : m ≤ 128) (o : ByteArray) (ho : o.size ≤ 1024) (w' : World) (H : Held w' x 65536 ⟨cls m + cls n, [(1, List.replicate m 0), (0, bs)], [(0, 2), (1, 1)], [(1, (1, 1)), (0, (0, 2))], [((1, 1), (1, 2)), ((0, 2), (1, 3))]⟩ N) :
    Calls Try.prog 37 #[.pointer (some ⟨x, 0, none⟩), .agg #[.int .i64 1, .int .u64 1], .int .i64 0, .string o] w' fun e w'' => ∃ r cs, e = .returned (.int .i64 r) ∧ Held w'' x 65536 ⟨cls m + cls n, [(1, cs), (0, bs)], [(0, 2), (1, 1)], [(1, (1, 1)), (0, (0, 2))], [((1, 1), (1, 2)), ((0, 2), (1, 3))]⟩ N ∧ Turn N w' w'' ∧ cs.length ≤ 128 := by
  by_cases hf : o.size ≤ m
  · exact (hWrite_ok H 1 1 1 2 0 o (List.replicate m 0) rfl (by simp; omega) (by simp; omega) rfl).mono fun e w'' ⟨h1, h2, h3⟩ => ⟨0, _, h1, h2, h3, by rw [over_length _ _ _ (by rw [List.length_replicate]; show 0 + o.size ≤ m; omega)]; simp; omega⟩
  · refine (hWrite_bad H 1 1 1 2 0 o (List.replicate m 0) rfl (fun q hq => ?_) rfl (WalkArith.wf_i64 (by omega)) (by unfold fits; simp; omega) rfl).mono fun e w'' ⟨h1, h2, h3⟩ => ⟨120, _, h1, h2, .of h3, by simp; omega⟩
    simp only [List.mem_cons, List.not_mem_nil, or_false] at hq
    rcases hq with rfl | rfl
    · simp; omega
    · simp only; omega
set_option maxRecDepth 100000 in
set_option maxHeartbeats 8000000 in
theorem heapBytes_walk (one two : UInt8) (at_ : Nat) (t o : ByteArray) (w : World) (hat : at_ ≤ 255) (ht : t.size ≤ 140737488355328) (ho : o.size ≤ 140737488355328) :
    Calls Try.prog 6 #[.int .u8 (one.toNat : Int), .int .u8 (two.toNat : Int), .int .u8 (at_ : Int), .string t, .string o] w fun e w' => e = .returned (.bool true) ∧ Upd [] w w' := by
  obtain ⟨b0, b1⟩ := byteBd one
  obtain ⟨b2, b3⟩ := byteBd two
  by_cases c0 : (1024 : Int) < (t.size : Int) + (o.size : Int)
  · have z0 : decide ((1024 : Int) < (t.size : Int) + (o.size : Int)) = true := decide_eq_true c0
    go_enter Try.func6, Try.ntmps6
    go_wp2_with (go_at_call 28; (with_reducible refine (works14 _).mono ?_); rintro e w1 ⟨rfl, u1⟩)
    go_ret
    exact ⟨rfl, u1⟩
  have z0 : decide ((1024 : Int) < (t.size : Int) + (o.size : Int)) = false := decide_eq_false c0
  have hszn := szN_int one
  have hbn := szN_bd one
  have hon := szN_ok one
  have hszm := szN_int two
  have hbm := szN_bd two
  have hom := szN_ok two
  generalize szN one = n at *
  generalize szN two = m at *
  have hcn := cls_bd hon
  have hcm := cls_bd hom
  go_enter Try.func6, Try.ntmps6
  go_wp2_with fail
  refine (hNew _ 65536 (by omega) (by omega)).mono ?_
  rintro e w1 ⟨x, rfl, h1, u1⟩
  have sz1 := u1.size
  go_wp2_with fail
  refine (hMake_ok h1 1 (n : Int) (fun b hb => by omega) hon (by show (0 : Int) + cls n ≤ 65536; omega) (by decide) (by omega) (by decide)).mono ?_
  rintro e w2 ⟨k, rfl, p1, p2, h2, t2⟩
  obtain rfl : k = 0 := next_is (m := 0) p1 p2
  have U2 := t2.upd u1 (fun b hb => hb)
  have hg : genOf HS.nil.L ((0 : Nat) : Int) = 1 := by decide
  rw [hg]
  have h2 : Held w2 x 65536 ⟨0 + cls n, [(0, List.replicate n 0)], [(0, 1)], [(0, (0, 1))], [((0, 1), (1, 1))]⟩ (fun b => w.heap.size ≤ b) := h2
  have h2o := h2.own (.cells #[.int .i64 0, .int .u64 1] 30 (0, 0))
  have sz2 := U2.size
  clear t2 h1 p1 p2 hg u1 h2
  go_wp2_with fail
  refine (hMake_ok h2o 2 (m : Int) (fun b hb => by rw [alloc_size] at hb; omega) hom (by show (0 : Int) + cls n + cls m ≤ 65536; omega) (by show (0 : Int) ≤ 0 + cls n; omega) (by omega) (by simp)).mono ?_
  rintro e w3 ⟨k, rfl, p1, p2, h3, t3⟩
  obtain rfl : k = 1 := next_is (m := 1) p1 p2
  have hg : genOf ([(0, 1)] : Lasts) ((1 : Nat) : Int) = 1 := by decide
  simp only [hg]
  have U3 := t3.upd (U2.alloc (.cells #[.int .i64 0, .int .u64 1] 30 (0, 0))) (fun b hb => hb.1)
  have A3 := t3.heap (heap_alloc_new w2 (.cells #[.int .i64 0, .int .u64 1] 30 (0, 0))) (by simp)
  have h3 : Held w3 x 65536 ⟨0 + cls n + cls m, [(0, List.replicate n 0), (1, List.replicate m 0)], [(0, 1), (1, 1)], [(0, (0, 1)), (1, (1, 1))], [((0, 1), (1, 1)), ((1, 1), (1, 2))]⟩ (fun b => w.heap.size ≤ b ∧ b ≠ w2.heap.size) := h3
  have h3o := h3.own (.cells #[.int .i64 1, .int .u64 1] 30 (0, 0))
  have sz3 := lt_of_heap A3
  clear t3 h2o p1 p2 hg U2 h3
  go_wp2_with fail
  have U3a := U3.alloc (.cells #[.int .i64 1, .int .u64 1] 30 (0, 0))
  have A3a := heap_alloc_old A3 (.cells #[.int .i64 1, .int .u64 1] 30 (0, 0))
  have B3a := heap_alloc_new w3 (.cells #[.int .i64 1, .int .u64 1] 30 (0, 0))
  generalize hg2 : w2.heap.size = g2 at *
  generalize hg3 : w3.heap.size = g3 at *
  have lA := lt_of_heap A3a
  have lB := lt_of_heap B3a
  generalize w3.alloc (.cells #[.int .i64 1, .int .u64 1] 30 (0, 0)) = w4 at *
  clear A3 U3 hg2 hg3
  have q0 := cell_of A3a 0
  have q1 := cell_of A3a 1
  simp only [List.getElem?_toArray, List.getElem?_cons_zero, List.getElem?_cons_succ] at q0 q1
  go_cut [] (fun w' => Held w' x 65536 ⟨0 + cls n + cls m, [(0, List.replicate n 255), (1, List.replicate m 0)], [(0, 1), (1, 1)], [(0, (0, 1)), (1, (1, 1))], [((0, 1), (1, 1)), ((1, 1), (1, 2))]⟩ (fun b => (w.heap.size ≤ b ∧ b ≠ g2) ∧ b ≠ g3) ∧ Upd [] w w' ∧ w'.heap[g2]? = some (.cells #[.int .i64 0, .int .u64 1] 30 (0, 0)) ∧ w'.heap[g3]? = some (.cells #[.int .i64 1, .int .u64 1] 30 (0, 0)))
  case first =>
    have hnn : (n : Int) ≤ 1000 := by omega
    go_region_with (first
      | (go_at_call 38; (with_reducible refine (ones_spec _ n (by omega)).mono ?_); rintro e wo ⟨bo, rfl, hbo, hqo, uo⟩; have Uo := ((Upd.refl [] w4).drew).trans uo; have ho_ := h3o.keep Uo; have Ao := Uo.heap A3a (by simp); have Bo := Uo.heap B3a (by simp); have hcv := hbo.conv (P := Try.prog) Try.underlying36 Try.underlying5 Try.underlying9 0 n n (by simp); rw [drop0_take (by simp)] at hcv; have UU := U3a.trans Uo; clear hbo uo Uo; have r0 := cell_of Ao 0; have r1 := cell_of Ao 1; simp only [List.getElem?_toArray, List.getElem?_cons_zero, List.getElem?_cons_succ] at r0 r1)
      | (go_at_call 37; refine (hWrite_ok ho_ 0 1 1 1 0 (bstr (List.replicate n 255)) (List.replicate n 0) rfl (by simp; omega) (by rw [bstr_size]; simp) rfl).mono ?_; rintro e wp ⟨rfl, hp, tp⟩))
    all_goals
      go_wp2_with fail
      go_meet
      case rel =>
        have e1 : over (List.replicate n (0 : UInt8)) 0 (bstr (List.replicate n (255 : UInt8))).data.toList = List.replicate n 255 := over_all _ _ (by simp [bstr]) _
        rw [e1] at hp
        exact ⟨hp, tp.upd UU (fun b hb => hb.1.1), tp.heap Ao (by simp), tp.heap Bo (by simp)⟩
  case rest =>
    clear q0 q1 h3o U3a A3a B3a lA lB
    obtain ⟨h5, U5, A5, B5⟩ := hcut
    have q0 := cell_of A5 0
    have q1 := cell_of A5 1
    simp only [List.getElem?_toArray, List.getElem?_cons_zero, List.getElem?_cons_succ] at q0 q1
    go_wp2_with fail
    refine (hDrop_ok h5 0 1 1 1 (by omega) (by omega) rfl).mono ?_
    rintro e w6 ⟨rfl, h6, t6⟩
    have U6 := t6.upd U5 (fun b hb => hb.1.1)
    have A6 := t6.heap A5 (by simp)
    have B6 := t6.heap B5 (by simp)
    clear q0 q1 t6 h5 U5 A5 B5
    have q0 := cell_of A6 0
    have q1 := cell_of A6 1
    simp only [List.getElem?_toArray, List.getElem?_cons_zero, List.getElem?_cons_succ] at q0 q1
    have h6 : Held w6 x 65536 ⟨0 + cls n + cls m, [(0, List.replicate n 255), (1, List.replicate m 0)], [(0, 1), (1, 1)], [(0, (0, 1)), (1, (1, 1))], [((0, 1), (0, 1)), ((1, 1), (1, 2))]⟩ (fun b => (w.heap.size ≤ b ∧ b ≠ g2) ∧ b ≠ g3) := h6
    go_wp2_with fail
    refine (hFree_ok h6 0 1 0 1 (by omega) (List.replicate n 255) rfl (by simp; omega) (by show (0 : Int) ≤ 0 + cls n + cls m; omega) (by show (0 : Int) + cls n + cls m ≤ 65536; omega) rfl).mono ?_
    rintro e w7 ⟨rfl, h7, t7⟩
    have U7 := t7.upd U6 (fun b hb => hb.1.1)
    have A7 := t7.heap A6 (by simp)
    have B7 := t7.heap B6 (by simp)
    clear q0 q1 t7 h6 U6 A6 B6
    have q0 := cell_of A7 0
    have q1 := cell_of A7 1
    simp only [List.getElem?_toArray, List.getElem?_cons_zero, List.getElem?_cons_succ] at q0 q1
    rw [List.length_replicate] at h7
    have e7 : (0 : Int) + cls n + cls m - cls (n : Int) = cls m := by omega
    have h7 : Held w7 x 65536 ⟨cls m, [(1, List.replicate m 0)], [(0, 1), (1, 1)], [(1, (1, 1))], [((1, 1), (1, 2))]⟩ (fun b => (w.heap.size ≤ b ∧ b ≠ g2) ∧ b ≠ g3) := by rw [← e7]; exact h7
    clear e7
    go_wp2_with fail
    refine (hWrite_no h7 0 1 0 ⟨#[120]⟩ ⟨by decide, by decide⟩ rfl).mono ?_
    rintro e w8 ⟨rfl, h8, u8⟩
    have U8 := U7.trans u8
    have A8 := u8.heap A7 (by simp)
    have B8 := u8.heap B7 (by simp)
    clear q0 q1 u8 h7 U7 A7 B7
    have l8 := lt_of_heap A8
    have l8' := lt_of_heap B8
    have s8 := U8.size
    go_wp2_with fail
    refine (hMake_ok h8 3 (n : Int) (fun b hb => by omega) hon (by show cls m + cls n ≤ 65536; omega) (by show (0 : Int) ≤ cls m; omega) (by omega) (by simp)).mono ?_
    rintro e w9 ⟨k, rfl, p1, p2, h9, t9⟩
    have k0 : k = 0 := by
      rcases Nat.eq_zero_or_pos k with h | h
      · exact h
      · have := p1 0 h
        simp at this
    subst k0
    have hg : genOf ([(0, 1), (1, 1)] : Lasts) ((0 : Nat) : Int) = 2 := by decide
    simp only [hg]
    have U9 := t9.upd U8 (fun b hb => hb.1.1)
    have A9 := t9.heap A8 (by simp)
    have B9 := t9.heap B8 (by simp)
    have h9 : Held w9 x 65536 ⟨cls m + cls n, [(1, List.replicate m 0), (0, List.replicate n 0)], [(0, 2), (1, 1)], [(1, (1, 1)), (0, (0, 2))], [((1, 1), (1, 2)), ((0, 2), (1, 3))]⟩ (fun b => (w.heap.size ≤ b ∧ b ≠ g2) ∧ b ≠ g3) := h9
    have h9o := h9.own (.cells #[.int .i64 0, .int .u64 2] 30 (0, 0))
    have l9 := lt_of_heap A9
    have l9' := lt_of_heap B9
    clear t9 h8 p1 p2 hg U8 A8 B8 h9
    go_wp2_with fail
    refine (hRead_ok h9o 0 2 1 3 0 n (List.replicate n 0) rfl (by simp; omega) (by simp) rfl).mono ?_
    rintro e w10 ⟨rfl, h10, u10⟩
    rw [drop0_take (by simp)]
    have U10 := (U9.alloc (.cells #[.int .i64 0, .int .u64 2] 30 (0, 0))).trans u10
    have A10 := u10.heap (heap_alloc_old A9 _) (by simp)
    have B10 := u10.heap (heap_alloc_old B9 _) (by simp)
    have C10 := u10.heap (heap_alloc_new w9 (.cells #[.int .i64 0, .int .u64 2] 30 (0, 0))) (by simp)
    clear u10 h9o U9 A9 B9
    generalize hg4 : w9.heap.size = g4 at *
    clear hg4
    have q0 := cell_of A10 0
    have q1 := cell_of A10 1
    simp only [List.getElem?_toArray, List.getElem?_cons_zero, List.getElem?_cons_succ] at q0 q1
    have r0 := cell_of B10 0
    have r1 := cell_of B10 1
    simp only [List.getElem?_toArray, List.getElem?_cons_zero, List.getElem?_cons_succ] at r0 r1
    have s0 := cell_of C10 0
    have s1 := cell_of C10 1
    simp only [List.getElem?_toArray, List.getElem?_cons_zero, List.getElem?_cons_succ] at s0 s1
    have l10 := lt_of_heap A10
    have l10' := lt_of_heap B10
    have l10'' := lt_of_heap C10
    have hmk : ∀ w', (Instr.makeSlice 36 (.int .i64 (n : Int)) (.int .i64 (n : Int))).run Try.prog w' = .ok (.slice (some ⟨w'.heap.size, 0, none⟩) n n) (w'.alloc (zb n)) := fun w' => make_bytes Try.underlying36 info5 w' n (by omega) (by omega)
    have hcv : (convert 36 9 (.slice (some ⟨w10.heap.size, 0, none⟩) n n)).run Try.prog (w10.alloc (zb n)) = .ok (.string (bstr (List.replicate n 0))) (w10.alloc (zb n)) := by
      have hb : BytesAt 5 (w10.alloc (zb n)) w10.heap.size (List.replicate n 0) := BytesAt.made w10 n
      have := hb.conv (P := Try.prog) Try.underlying36 Try.underlying5 Try.underlying9 0 n n (by simp)
      rwa [drop0_take (by simp)] at this
    go_wp2_with fail
    have U11 := U10.alloc (zb n)
    have h11 := h10.keep ((Upd.refl [] w10).alloc (zb n))
    have B11 := heap_alloc_old B10 (zb n)
    have C11 := heap_alloc_old C10 (zb n)
    clear U10 h10 A10 B10 C10 q0 q1 r0 r1 s0 s1 hmk hcv l10 l10' l10''
    generalize w10.alloc (zb n) = wA at *
    have hto : t.size ≤ 1024 ∧ o.size ≤ 1024 := by omega
    obtain ⟨hto1, hto2⟩ := hto
    by_cases hfit : at_ + t.size ≤ n
    · have z5 : decide ((at_ : Int) + (t.size : Int) ≤ (n : Int)) = true := decide_eq_true (by omega)
      refine (hWrite_ok h11 0 2 1 3 at_ t (List.replicate n 0) rfl (by simp; omega) (by simp; omega) rfl).mono ?_
      rintro e w12 ⟨rfl, h12, t12⟩
      have htl : t.data.toList.length = t.size := rfl
      have hol := over_length (List.replicate n (0 : UInt8)) at_ t.data.toList (by rw [htl]; simp; omega)
      have hrd : ((over (List.replicate n (0 : UInt8)) at_ t.data.toList).drop at_).take t.size = t.data.toList := by
        unfold over
        rw [List.append_assoc, List.drop_left' (by simp; omega), List.take_left' htl]
      rw [List.length_replicate] at hol
      generalize over (List.replicate n (0 : UInt8)) at_ t.data.toList = bs at *
      have h12 : Held w12 x 65536 ⟨cls m + cls n, [(1, List.replicate m 0), (0, bs)], [(0, 2), (1, 1)], [(1, (1, 1)), (0, (0, 2))], [((1, 1), (1, 2)), ((0, 2), (1, 3))]⟩ _ := h12
      have U12 := t12.upd U11 (fun b hb => hb.1.1.1)
      have B12 := t12.heap B11 (by simp)
      have C12 := t12.heap C11 (by simp)
      clear t12 h11 U11 B11 C11
      have q0 := cell_of B12 0
      have q1 := cell_of B12 1
      simp only [List.getElem?_toArray, List.getElem?_cons_zero, List.getElem?_cons_succ] at q0 q1
      go_wp2_with fail
      refine (writeOther n m bs (by omega) (by omega) o hto2 _ h12).mono ?_
      rintro e w13 ⟨r, cs, rfl, h13, t13, hcs⟩
      have U13 := t13.upd U12 (fun b hb => hb.1.1.1)
      have C13 := t13.heap C12 (by simp)
      clear t13 h12 U12 B12 C12 q0 q1
      have q0 := cell_of C13 0
      have q1 := cell_of C13 1
      simp only [List.getElem?_toArray, List.getElem?_cons_zero, List.getElem?_cons_succ] at q0 q1
      go_wp2_with fail
      refine (hRead_ok h13 0 2 1 3 at_ t.size bs rfl (by omega) (by omega) rfl).mono ?_
      rintro e w14 ⟨rfl, h14, u14⟩
      rw [hrd, bstr_data]
      have U14 := U13.trans u14
      clear u14 h13 U13 C13 q0 q1 h14 hrd
      go_wp2_with (go_at_call 28; (with_reducible refine (works14 _).mono ?_); rintro e w15 ⟨rfl, u15⟩)
      go_ret
      exact ⟨rfl, U14.trans u15⟩
    · have z5 : decide ((at_ : Int) + (t.size : Int) ≤ (n : Int)) = false := decide_eq_false (by omega)
      have hnf : ¬ fits (List.replicate n (0 : UInt8)).length at_ t.size := by unfold fits; simp; omega
      have hsl : ∀ bs : List UInt8, bs.length ≤ 128 → ∀ cs : List UInt8, cs.length ≤ 128 → ∀ q ∈ [((1 : Int), bs), ((0 : Int), cs)], q.2.length ≤ 1000 := fun bs hb cs hc q hq => by
        simp only [List.mem_cons, List.not_mem_nil, or_false] at hq
        rcases hq with rfl | rfl
        · simp only; omega
        · simp only; omega
      refine (hWrite_bad h11 0 2 1 3 at_ t (List.replicate n 0) rfl (hsl _ (by simp; omega) _ (by simp; omega)) (WalkArith.wf_i64 (by omega)) (WalkArith.wf_i64 (by omega)) hnf rfl).mono ?_
      rintro e w12 ⟨rfl, h12, u12⟩
      have U12 := U11.trans u12
      have B12 := u12.heap B11 (by simp)
      have C12 := u12.heap C11 (by simp)
      clear u12 h11 U11 B11 C11 hfit
      have q0 := cell_of B12 0
      have q1 := cell_of B12 1
      simp only [List.getElem?_toArray, List.getElem?_cons_zero, List.getElem?_cons_succ] at q0 q1
      go_wp2_with fail
      refine (writeOther n m (List.replicate n 0) (by simp; omega) (by omega) o hto2 _ h12).mono ?_
      rintro e w13 ⟨r, cs, rfl, h13, t13, hcs⟩
      have U13 := t13.upd U12 (fun b hb => hb.1.1.1)
      have C13 := t13.heap C12 (by simp)
      clear t13 h12 U12 B12 C12 q0 q1
      have q0 := cell_of C13 0
      have q1 := cell_of C13 1
      simp only [List.getElem?_toArray, List.getElem?_cons_zero, List.getElem?_cons_succ] at q0 q1
      go_wp2_with fail
      refine (hRead_bad h13 0 2 1 3 at_ t.size (List.replicate n 0) rfl (hsl _ hcs _ (by simp; omega)) (WalkArith.wf_i64 (by omega)) (WalkArith.wf_i64 (by omega)) hnf rfl).mono ?_
      rintro e w14 ⟨rfl, h14, u14⟩
      have U14 := U13.trans u14
      clear u14 h13 U13 C13 q0 q1 h14
      go_wp2_with (go_at_call 28; (with_reducible refine (works14 _).mono ?_); rintro e w15 ⟨rfl, u15⟩)
      go_ret
      exact ⟨rfl, U14.trans u15⟩
open Go.ChangeShapes in
theorem heapBytesInt (a0 a1 a2 : Int) (t o : ByteArray) (w : World) (h0 : (Lit.int .u8 a0).wf = true) (h1 : (Lit.int .u8 a1).wf = true) (h2 : (Lit.int .u8 a2).wf = true) (ht : t.size ≤ 140737488355328) (ho : o.size ≤ 140737488355328) :
    Calls Try.prog 6 #[.int .u8 a0, .int .u8 a1, .int .u8 a2, .string t, .string o] w fun e w' => e = .returned (.bool true) ∧ Upd [] w w' := by
  have q0 : IntKind.u8.min ≤ a0 ∧ a0 ≤ IntKind.u8.max := by simpa [Lit.wf] using h0
  have q1 : IntKind.u8.min ≤ a1 ∧ a1 ≤ IntKind.u8.max := by simpa [Lit.wf] using h1
  have q2 : IntKind.u8.min ≤ a2 ∧ a2 ≤ IntKind.u8.max := by simpa [Lit.wf] using h2
  change (0 : Int) ≤ a0 ∧ a0 ≤ 255 at q0
  change (0 : Int) ≤ a1 ∧ a1 ≤ 255 at q1
  change (0 : Int) ≤ a2 ∧ a2 ≤ 255 at q2
  have e0 : ((UInt8.ofNat a0.toNat).toNat : Int) = a0 := by simp [UInt8.toNat_ofNat']; omega
  have e1 : ((UInt8.ofNat a1.toNat).toNat : Int) = a1 := by simp [UInt8.toNat_ofNat']; omega
  have e2 : (a2.toNat : Int) = a2 := by omega
  have := heapBytes_walk (UInt8.ofNat a0.toNat) (UInt8.ofNat a1.toNat) a2.toNat t o w (by omega) ht ho
  rwa [e0, e1, e2] at this
end Go.Proofs.Ytgleceijdedlkaa
