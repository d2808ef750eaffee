import Derived.Test.YtibghcmkmbamjaaPIx0
import Derived.Test.YtibghcmkmbamjaaShort
import Derived.Lib.SliceRun
namespace Go.Proofs.Ytibghcmkmbamjaa.PI
open Go.RowKit Go.Proofs.YtibghcmkmbamjaaW.PrintWords Go.Proofs.YtibghcmkmbamjaaW.PrintLast Go.Proofs.YtibghcmkmbamjaaW.PrintMore
attribute [local go_sem] max2_int min2_int max_two min_two max_three min_three max_four min_four
set_option linter.unusedVariables false
set_option linter.unusedSimpArgs false
/-! ### cmp.Less[uint8], math/bits.Len, slices.Sort, slices.Compact at rows of at most two, insn.regs (by hand) -/
set_option maxHeartbeats 8000000 in
set_option maxRecDepth 100000 in
theorem isNaN8.calls (x : Int) (w : World) : Calls Try.prog 147 #[.int .u8 x] w fun e w' => e = .returned (.bool false) ∧ Drawn0 w w' := by
 have c : (x != x) = false := by simp
 go_enter Try.func147, Try.ntmps147
 go_wp2
 go_ret
 exact ⟨by simp, by repeat (first | exact Drawn0.refl _ | apply Drawn0.step)⟩
set_option maxHeartbeats 8000000 in
set_option maxRecDepth 100000 in
theorem less8.calls (x y : Int) (w : World) : Calls Try.prog 135 #[.int .u8 x, .int .u8 y] w fun e w' => e = .returned (.bool (decide (x < y))) ∧ Drawn0 w w' := by
 go_enter Try.func135, Try.ntmps135
 go_wp2_with (first | (go_at_call 147; (with_reducible refine (isNaN8.calls x _).mono ?_); rintro e w1 ⟨rfl, ⟨nd1, rfl⟩⟩) | (go_at_call 147; (with_reducible refine (isNaN8.calls y _).mono ?_); rintro e w2 ⟨rfl, ⟨nd2, rfl⟩⟩))
 go_ret
 exact ⟨rfl, by repeat (first | exact Drawn0.refl _ | apply Drawn0.step)⟩
set_option maxHeartbeats 8000000 in
set_option maxRecDepth 100000 in
theorem len64.calls (n : Nat) (hn : n = 0 ∨ n = 1 ∨ n = 2) (w : World) : Calls Try.prog 127 #[.int .u64 (n : Int)] w fun e w' => e = .returned (.int .i64 (n : Int)) ∧ Drawn0 w w' := by
 rcases hn with rfl | rfl | rfl
 all_goals
  go_enter Try.func127, Try.ntmps127
  go_wp2
  go_ret
  exact ⟨by kernel_rfl, by repeat (first | exact Drawn0.refl _ | apply Drawn0.step)⟩
set_option maxHeartbeats 8000000 in
set_option maxRecDepth 100000 in
theorem len.calls (n : Nat) (hn : n = 0 ∨ n = 1 ∨ n = 2) (w : World) : Calls Try.prog 111 #[.int .u64 (n : Int)] w fun e w' => e = .returned (.int .i64 (n : Int)) ∧ Drawn0 w w' := by
 go_enter Try.func111, Try.ntmps111
 go_wp2_with (go_at_call 127; (with_reducible refine (len64.calls n hn _).mono ?_); rintro e w1 ⟨rfl, ⟨nd1, rfl⟩⟩)
 go_ret
 exact ⟨rfl, by repeat (first | exact Drawn0.refl _ | apply Drawn0.step)⟩
set_option maxHeartbeats 8000000 in
set_option maxRecDepth 100000 in
theorem ins1.calls (A : Option Addr) (n c : Nat) (hn : n ≤ 1) (w : World) : Calls Try.prog 129 #[.slice A n c, .int .i64 0, .int .i64 (n : Int)] w fun e w' => e = .returned (.tuple #[]) ∧ Drawn0 w w' := by
 have c0 : decide ((1 : Int) < (n : Int)) = false := decide_eq_false (by omega)
 go_enter Try.func129, Try.ntmps129
 go_wp2
 go_loopg [6] 0 (fun kq v6 w' => v6 = .int .i64 1 ∧ Drawn0 w w')
 case atStart => exact ⟨rfl, by repeat (first | exact Drawn0.refl _ | apply Drawn0.step)⟩
 case round =>
  obtain ⟨rfl, ⟨m1, rfl⟩⟩ := hrel
  go_wp2
  go_end0
  exact ⟨rfl, by repeat (first | exact Drawn0.refl _ | apply Drawn0.step)⟩
theorem drewN2 (w : World) (a b : Nat) : ∃ n, (w.drewN a).drewN b = w.drewN n := ⟨a + b, by simp [World.drewN, Nat.add_assoc]⟩
def sw (cs : Array Value) (x y : Int) : Array Value := if y < x then (cs.setIfInBounds 1 (.int .u8 x)).setIfInBounds 0 (.int .u8 y) else cs
set_option maxHeartbeats 8000000 in
set_option maxRecDepth 100000 in
theorem ins2.calls (g c base : Nat) (x y : Int) (cs : Array Value) (w : World) (hb : base ≤ g) (hg : w.heap[g]? = some (.cells cs 5 (0, 0))) (h0 : cs[0]? = some (.int .u8 x)) (h1 : cs[1]? = some (.int .u8 y)) :
  Calls Try.prog 129 #[.slice (some ⟨g, 0, none⟩) 2 c, .int .i64 0, .int .i64 2] w fun e w' => e = .returned (.tuple #[]) ∧ w'.heap[g]? = some (.cells (sw cs x y) 5 (0, 0)) ∧ Below base w w' := by
 have H0 := am h0
 have H1 := am h1
 have BK := am hg
 have HB := am (Below.refl base w)
 clear h0 h1 hg
 go_enter Try.func129, Try.ntmps129
 go_wp2
 go_loopg [6] 1 (fun kq v6 w' => (v6 = .int .i64 1 ∧ kq = 1 ∧ Aside0 (w'.heap[g]? = some (.cells cs 5 (0, 0))) ∧ Aside0 (Below base w w')) ∨ (v6 = .int .i64 2 ∧ Aside0 (w'.heap[g]? = some (.cells (sw cs x y) 5 (0, 0))) ∧ Aside0 (Below base w w')))
 case atStart => exact .inl ⟨rfl, rfl, BK, HB⟩
 case round =>
  clear BK HB
  rcases hrel with ⟨rfl, rfl, BK, HB⟩ | ⟨rfl, BK, HB⟩
  · go_wp2
    go_loopg [7] 1 (fun kq v7 w' => (v7 = .int .i64 1 ∧ kq = 1 ∧ Aside0 (w'.heap[g]? = some (.cells cs 5 (0, 0))) ∧ Aside0 (Below base w w')) ∨ (v7 = .int .i64 0 ∧ Aside0 (w'.heap[g]? = some (.cells (sw cs x y) 5 (0, 0))) ∧ Aside0 (Below base w w')))
    case atStart => exact .inl ⟨rfl, rfl, BK, HB⟩
    case round =>
     clear BK HB
     rcases hrel with ⟨rfl, rfl, BK, HB⟩ | ⟨rfl, BK, HB⟩
     · have hcz0 : wr.cell? ⟨g, 0, none⟩ = some (.int .u8 x) := (blk_cell BK.out 0).trans H0.out
       have hcz1 : wr.cell? ⟨g, 1, none⟩ = some (.int .u8 y) := (blk_cell BK.out 1).trans H1.out
       have hfz0 := blk_frozen BK.out 0
       have hfz1 := blk_frozen BK.out 1
       by_cases c : y < x
       · have c0 : decide (y < x) = true := decide_eq_true c
         go_wp2
         repeat (go_quiet (first | (go_at_call 135; (with_reducible refine (less8.calls y x _).mono ?_); rintro e w1 ⟨rfl, ⟨nd1, rfl⟩⟩; exact ⟨rfl, drewN2 _ _ _⟩)); try go_wp2)
         have hsw : sw cs x y = (cs.setIfInBounds 1 (.int .u8 x)).setIfInBounds 0 (.int .u8 y) := if_pos c
         have BK2 : Aside0 ((wr.drewN nq).heap[g]? = some (.cells cs 5 (0, 0))) := am (blk_drewN BK.out nq)
         have HB2 : Aside0 (Below base w (wr.drewN nq)) := am (pw_below_drewN HB.out nq)
         go_region
         all_goals go_wp2
         go_roundg 0
         case measure => omega
         case rel => exact .inr ⟨rfl, by rw [hsw]; exact am (blk_set (blk_set (blk_drewN BK.out _) 1 _) 0 _), am (Below.setCell (Below.setCell (pw_below_drewN HB.out _) hb _) hb _)⟩
       · have c0 : decide (y < x) = false := decide_eq_false c
         go_wp2
         repeat (go_quiet (first | (go_at_call 135; (with_reducible refine (less8.calls y x _).mono ?_); rintro e w1 ⟨rfl, ⟨nd1, rfl⟩⟩; exact ⟨rfl, drewN2 _ _ _⟩)); try go_wp2)
         have hsw : sw cs x y = cs := if_neg (by omega)
         go_roundg 0
         case measure => omega
         case rel => exact .inr ⟨rfl, by rw [hsw]; exact am (blk_drewN BK.out _), am (pw_below_drewN HB.out _)⟩
     · go_wp2
       repeat (go_quiet (fail); try go_wp2)
       go_roundg 0
       case measure => omega
       case rel => exact .inr ⟨rfl, am (blk_drewN BK.out _), am (pw_below_drewN HB.out _)⟩
  · clear H0 H1
    go_wp2
    go_end0
    exact ⟨rfl, BK.out, HB.out⟩
set_option maxHeartbeats 8000000 in
set_option maxRecDepth 100000 in
theorem pdq1.calls (A : Option Addr) (n c : Nat) (l : Int) (hn : n ≤ 1) (w : World) : Calls Try.prog 113 #[.slice A n c, .int .i64 0, .int .i64 (n : Int), .int .i64 l] w fun e w' => e = .returned (.tuple #[]) ∧ Drawn0 w w' := by
 have c0 : decide ((n : Int) ≤ 12) = true := decide_eq_true (by omega)
 go_enter Try.func113, Try.ntmps113
 go_wp2
 go_loopg [1, 2, 3] 0 (fun kq v1 v2 v3 w' => v1 = .int .i64 0 ∧ v2 = .int .i64 (n : Int) ∧ v3 = .int .i64 l ∧ Drawn0 w w')
 case atStart => exact ⟨rfl, rfl, rfl, Drawn0.refl _⟩
 case round =>
  obtain ⟨rfl, rfl, rfl, ⟨m1, rfl⟩⟩ := hrel
  go_wp2_with (go_at_call 129; (with_reducible refine (ins1.calls A n c hn _).mono ?_); rintro e w1 ⟨rfl, ⟨nd1, rfl⟩⟩)
  refine bodyPost_ret (results_none rfl _ _ _) rfl ?_
  exact ⟨rfl, by repeat (first | exact Drawn0.refl _ | apply Drawn0.step)⟩
set_option maxHeartbeats 8000000 in
set_option maxRecDepth 100000 in
theorem pdq2.calls (l : Int) (g c base : Nat) (x y : Int) (cs : Array Value) (w : World) (hb : base ≤ g) (hg : w.heap[g]? = some (.cells cs 5 (0, 0))) (h0 : cs[0]? = some (.int .u8 x)) (h1 : cs[1]? = some (.int .u8 y)) :
  Calls Try.prog 113 #[.slice (some ⟨g, 0, none⟩) 2 c, .int .i64 0, .int .i64 2, .int .i64 l] w fun e w' => e = .returned (.tuple #[]) ∧ w'.heap[g]? = some (.cells (sw cs x y) 5 (0, 0)) ∧ Below base w w' := by
 have HG := am hg
 have H0 := am h0
 have H1 := am h1
 clear hg h0 h1
 go_enter Try.func113, Try.ntmps113
 go_wp2
 go_loopg [1, 2, 3] 0 (fun kq v1 v2 v3 w' => v1 = .int .i64 0 ∧ v2 = .int .i64 2 ∧ v3 = .int .i64 l ∧ Drawn0 w w')
 case atStart => exact ⟨rfl, rfl, rfl, Drawn0.refl _⟩
 case round =>
  obtain ⟨rfl, rfl, rfl, ⟨m1, rfl⟩⟩ := hrel
  go_wp2_with (go_at_call 129; (with_reducible refine (ins2.calls g c base x y cs _ hb (blk_drewN HG.out _) H0.out H1.out).mono ?_); rintro e w1 ⟨rfl, hh, hB⟩; have HH := am hh; have HBB := am hB; clear hh hB)
  refine bodyPost_ret (results_none rfl _ _ _) rfl ?_
  exact ⟨rfl, HH.out, (pw_below_drewN (Below.refl base w) m1).trans HBB.out⟩
set_option maxHeartbeats 8000000 in
set_option maxRecDepth 100000 in
theorem sort1.calls (A : Option Addr) (n c : Nat) (hn : n ≤ 1) (w : World) : Calls Try.prog 97 #[.slice A n c] w fun e w' => e = .returned (.tuple #[]) ∧ Drawn0 w w' := by
 have hw : IntKind.u64.wrap (n : Int) = (n : Int) := by rw [IntKind.wrap_u64]; omega
 go_enter Try.func97, Try.ntmps97
 go_wp2_with (first | (go_at_call 111; (with_reducible refine (len.calls n (by omega) _).mono ?_); rintro e w1 ⟨rfl, ⟨nd1, rfl⟩⟩) | (go_at_call 113; (with_reducible refine (pdq1.calls A n c _ hn _).mono ?_); rintro e w2 ⟨rfl, ⟨nd2, rfl⟩⟩))
 go_end0
 exact ⟨rfl, by repeat (first | exact Drawn0.refl _ | apply Drawn0.step)⟩
theorem len2.calls (w : World) : Calls Try.prog 111 #[.int .u64 2] w fun e w' => e = .returned (.int .i64 2) ∧ Drawn0 w w' := len.calls 2 (by omega) w
set_option maxHeartbeats 8000000 in
set_option maxRecDepth 100000 in
theorem sort2.calls (g c base : Nat) (x y : Int) (cs : Array Value) (w : World) (hb : base ≤ g) (hg : w.heap[g]? = some (.cells cs 5 (0, 0))) (h0 : cs[0]? = some (.int .u8 x)) (h1 : cs[1]? = some (.int .u8 y)) :
  Calls Try.prog 97 #[.slice (some ⟨g, 0, none⟩) 2 c] w fun e w' => e = .returned (.tuple #[]) ∧ w'.heap[g]? = some (.cells (sw cs x y) 5 (0, 0)) ∧ Below base w w' := by
 have HG := am hg
 have H0 := am h0
 have H1 := am h1
 clear hg h0 h1
 have hw : IntKind.u64.wrap (2 : Int) = (2 : Int) := by rw [IntKind.wrap_u64]; rfl
 go_enter Try.func97, Try.ntmps97
 go_wp2_with (first | (go_at_call 111; (with_reducible refine (len2.calls _).mono ?_); rintro e w1 ⟨rfl, ⟨nd1, rfl⟩⟩) | (go_at_call 113; (with_reducible refine (pdq2.calls _ g c base x y cs _ hb (blk_drewN HG.out _) H0.out H1.out).mono ?_); rintro e w2 ⟨rfl, hh, hB⟩; have HH := am hh; have HBB := am hB; clear hh hB))
 go_end0
 exact ⟨rfl, HH.out, (pw_below_drewN (Below.refl base w) _).trans HBB.out⟩
set_option maxHeartbeats 8000000 in
set_option maxRecDepth 100000 in
theorem compact1.calls (A : Option Addr) (n c : Nat) (hn : n ≤ 1) (w : World) : Calls Try.prog 98 #[.slice A n c] w fun e w' => e = .returned (.slice A n c) ∧ Drawn0 w w' := by
 have c0 : decide ((n : Int) < 2) = true := decide_eq_true (by omega)
 go_enter Try.func98, Try.ntmps98
 go_wp2
 go_ret
 exact ⟨rfl, by repeat (first | exact Drawn0.refl _ | apply Drawn0.step)⟩
set_option maxHeartbeats 8000000 in
set_option maxRecDepth 100000 in
theorem compactN.calls (g c base : Nat) (x y : Int) (cs : Array Value) (w : World) (hb : base ≤ g) (hg : w.heap[g]? = some (.cells cs 5 (0, 0))) (h0 : cs[0]? = some (.int .u8 x)) (h1 : cs[1]? = some (.int .u8 y)) (hne : x ≠ y) (hc : 2 ≤ c) :
  Calls Try.prog 98 #[.slice (some ⟨g, 0, none⟩) 2 c] w fun e w' => e = .returned (.slice (some ⟨g, 0, none⟩) 2 c) ∧ Drawn0 w w' := by
 have HG := am hg
 have hcz0 := am ((blk_cell hg 0).trans h0)
 have hcz1 := am ((blk_cell hg 1).trans h1)
 clear hg h0 h1
 have c0 : (y == x) = false := beq_eq_false_iff_ne.mpr (fun h => hne h.symm)
 clear hne
 go_enter Try.func98, Try.ntmps98
 go_wp2
 go_loopg [3] 1 (fun kq v3 w' => ((v3 = .int .i64 1 ∧ kq = 1) ∨ v3 = .int .i64 2) ∧ Drawn0 w w')
 case atStart => exact ⟨.inl ⟨rfl, rfl⟩, by repeat (first | exact Drawn0.refl _ | apply Drawn0.step)⟩
 case round =>
  obtain ⟨⟨rfl, rfl⟩ | rfl, ⟨m1, rfl⟩⟩ := hrel
  · have hz0 := hcz0.out
    have hz1 := hcz1.out
    go_wp2
    repeat (go_quiet (fail); try go_wp2)
    go_roundg 0
    case measure => omega
    case rel => exact ⟨.inr rfl, by repeat (first | exact Drawn0.refl _ | apply Drawn0.step)⟩
  · go_wp2
    go_ret
    exact ⟨rfl, by repeat (first | exact Drawn0.refl _ | apply Drawn0.step)⟩
set_option maxHeartbeats 8000000 in
set_option maxRecDepth 100000 in
theorem compactE.calls (g c base : Nat) (x : Int) (cs : Array Value) (w : World) (hb : base ≤ g) (hg : w.heap[g]? = some (.cells cs 5 (0, 0))) (h0 : cs[0]? = some (.int .u8 x)) (h1 : cs[1]? = some (.int .u8 x)) (hc : 2 ≤ c) :
  Calls Try.prog 98 #[.slice (some ⟨g, 0, none⟩) 2 c] w fun e w' => e = .returned (.slice (some ⟨g, 0, none⟩) 1 c) ∧ w'.heap[g]? = some (.cells (cs.setIfInBounds 1 (.int .u8 0)) 5 (0, 0)) ∧ Below base w w' := by
 have HG := am hg
 have hcz0 := am ((blk_cell hg 0).trans h0)
 have hcz1 := am ((blk_cell hg 1).trans h1)
 clear hg h0 h1
 have c0 : (x == x) = true := beq_self_eq_true x
 go_enter Try.func98, Try.ntmps98
 go_wp2
 go_loopg [3] 0 (fun kq v3 w' => v3 = .int .i64 1 ∧ Drawn0 w w')
 case atStart => exact ⟨rfl, by repeat (first | exact Drawn0.refl _ | apply Drawn0.step)⟩
 case round =>
  obtain ⟨rfl, ⟨m1, rfl⟩⟩ := hrel
  have hz0 := hcz0.out
  have hz1 := hcz1.out
  go_wp2
  go_quiet (fail)
  go_wp2
  go_loopg [3, 5] 0 (fun kq v3 v5 w' => v3 = .int .i64 1 ∧ v5 = .int .i64 1 ∧ Drawn0 w w')
  case atStart => exact ⟨rfl, rfl, by repeat (first | exact Drawn0.refl _ | apply Drawn0.step)⟩
  case round =>
   obtain ⟨rfl, rfl, ⟨m2, rfl⟩⟩ := hrel
   have q1_ : ∀ j, j < 1 → ((w.drewN m2).cell? ⟨g, 1 + j, none⟩).isSome = true := by
    intro j hj
    obtain rfl : j = 0 := by omega
    exact (congrArg Option.isSome hz1).trans rfl
   have q2_ : ∀ j, j < 1 → (w.drewN m2).frozen? ⟨g, 1 + j, none⟩ = false := by
    intro j hj
    obtain rfl : j = 0 := by omega
    exact blk_frozen HG.out 1
   have hcl := Lib.run_clear_slice (P := Try.prog) (w.drewN m2) 39 5 0 (.int .u8 0) rfl (fun w => by rfl) rfl rfl g 1 1 (c - 1) (by omega) q1_ q2_
   clear q1_ q2_
   go_wp2
   go_ret
   refine ⟨rfl, ?_, ?_⟩
   · exact blk_set (w := w.drewN m2) HG.out 1 (.int .u8 0)
   · exact Below.setCell (pw_below_drewN (Below.refl base w) _) hb _
/-- What regs hands back of two. -/
def two8 (x y : Int) : List Int := if x = y then [x] else if y < x then [y, x] else [x, y]
theorem nums_row {w : World} {base g n c : Nat} {cs : Array Value} {xs : List Int} (hb : base ≤ g) (hg : w.heap[g]? = some (.cells cs 5 (0, 0))) (hn : n ≤ c) (hc : c ≤ maxLen) (hs : cs.size = c) (hx : cs.toList.take n = nums .u8 xs) (hl : xs.length = n) :
    (Kd.int .u8).R 5 w base (fun _ => True) (.slice (some ⟨g, 0, none⟩) n c) xs := by
  subst hl
  refine Kd.R_of_own ⟨by simp [encs], .inr ⟨g, c, cs, rfl, hb, hg, hn, hc, by omega, ?_⟩⟩ (fun _ _ => trivial)
  have e_ : nums .u8 xs = encs (Value.int .u8) xs := rfl
  rw [← e_, ← hx]
  simp
set_option maxHeartbeats 8000000 in
set_option maxRecDepth 100000 in
theorem regs1.calls (A : Option Addr) (n c : Nat) (hn : n ≤ 1) (w : World) : Calls Try.prog 59 #[.slice A n c] w fun e w' => e = .returned (.slice A n c) ∧ Drawn0 w w' := by
 go_enter Try.func59, Try.ntmps59
 go_wp2_with (first | (go_at_call 97; (with_reducible refine (sort1.calls A n c hn _).mono ?_); rintro e w1 ⟨rfl, ⟨nd1, rfl⟩⟩) | (go_at_call 98; (with_reducible refine (compact1.calls A n c hn _).mono ?_); rintro e w2 ⟨rfl, ⟨nd2, rfl⟩⟩))
 go_ret
 exact ⟨rfl, by repeat (first | exact Drawn0.refl _ | apply Drawn0.step)⟩
theorem sw_get {cs : Array Value} {x y : Int} (h0 : cs[0]? = some (.int .u8 x)) (h1 : cs[1]? = some (.int .u8 y)) : (sw cs x y)[0]? = some (.int .u8 (if y < x then y else x)) ∧ (sw cs x y)[1]? = some (.int .u8 (if y < x then x else y)) ∧ (sw cs x y).size = cs.size := by
  have hs : 1 < cs.size := by
    rcases Nat.lt_or_ge 1 cs.size with h | h
    · exact h
    · rw [Array.getElem?_eq_none h] at h1; cases h1
  have hs0 : 0 < cs.size := by omega
  unfold sw
  by_cases c : y < x
  · simp [c, hs, hs0, Array.getElem?_setIfInBounds]
  · simp [c, h0, h1]
theorem take2 {cs : Array Value} {a b : Value} (h0 : cs[0]? = some a) (h1 : cs[1]? = some b) : cs.toList.take 2 = [a, b] := by
  obtain ⟨l⟩ := cs
  rcases l with _ | ⟨u, _ | ⟨v, l⟩⟩
  · simp at h0
  · simp at h1
  · simp at h0 h1
    simp [h0, h1]
theorem take1 {cs : Array Value} {a : Value} (h0 : cs[0]? = some a) : cs.toList.take 1 = [a] := by
  obtain ⟨l⟩ := cs
  rcases l with _ | ⟨u, l⟩
  · simp at h0
  · simp at h0
    simp [h0]
set_option maxHeartbeats 8000000 in
set_option maxRecDepth 100000 in
theorem regs2.calls (g c base : Nat) (x y : Int) (cs : Array Value) (w : World) (hb : base ≤ g) (hg : w.heap[g]? = some (.cells cs 5 (0, 0))) (h0 : cs[0]? = some (.int .u8 x)) (h1 : cs[1]? = some (.int .u8 y)) (hs : cs.size = c) (hc : 2 ≤ c) (hm : c ≤ maxLen) :
  Calls Try.prog 59 #[.slice (some ⟨g, 0, none⟩) 2 c] w fun e w' => ∃ v0_ : Value, e = .returned v0_ ∧ (Kd.int .u8).R 5 w' base (fun _ => True) v0_ (two8 x y) ∧ Below base w w' := by
 have HG := am hg
 have H0 := am h0
 have H1 := am h1
 have HS := am (sw_get h0 h1)
 clear hg h0 h1
 by_cases hxy : x = y
 · subst hxy
   go_enter Try.func59, Try.ntmps59
   go_wp2_with (first | (go_at_call 97; (with_reducible refine (sort2.calls g c base x x cs _ hb HG.out H0.out H1.out).mono ?_); rintro e w1 ⟨rfl, hh, hB⟩; have HH := am hh; have HBB := am hB; clear hh hB) | (go_at_call 98; (with_reducible refine (compactE.calls g c base x (sw cs x x) _ hb HH.out (HS.out.1.trans (by simp)) (HS.out.2.1.trans (by simp)) hc).mono ?_); rintro e w2 ⟨rfl, hh, hB⟩; have HH2 := am hh; have HB2 := am hB; clear hh hB))
   go_ret
   refine ⟨_, rfl, ?_, HBB.out.trans HB2.out⟩
   have ht : two8 x x = [x] := by simp [two8]
   rw [ht]
   refine nums_row hb HH2.out (by omega) hm (by simp [HS.out.2.2, hs]) (take1 (a := .int .u8 x) ?_) rfl
   rw [Array.getElem?_setIfInBounds_ne (by decide)]
   exact HS.out.1.trans (by simp)
 · go_enter Try.func59, Try.ntmps59
   go_wp2_with (first | (go_at_call 97; (with_reducible refine (sort2.calls g c base x y cs _ hb HG.out H0.out H1.out).mono ?_); rintro e w1 ⟨rfl, hh, hB⟩; have HH := am hh; have HBB := am hB; clear hh hB) | (go_at_call 98; (with_reducible refine (compactN.calls g c base (if y < x then y else x) (if y < x then x else y) (sw cs x y) _ hb HH.out HS.out.1 HS.out.2.1 (by split <;> omega) hc).mono ?_); rintro e w2 ⟨rfl, ⟨nd2, rfl⟩⟩))
   go_ret
   refine ⟨_, rfl, ?_, pw_below_drewN HBB.out _⟩
   refine nums_row hb (blk_drewN HH.out _) hc hm (by simp [HS.out.2.2, hs]) ((take2 HS.out.1 HS.out.2.1).trans ?_) ?_
   · unfold two8
     rw [if_neg hxy]
     split <;> rfl
   · unfold two8
     rw [if_neg hxy]
     split <;> rfl
def regsL : List Int → List Int
 | [x, y] => two8 x y
 | l => l
theorem regsR.calls (base : Nat) (ok : Nat → Prop) (v : Value) (xs : List Int) (hl : xs.length ≤ 2) (w : World) (hb : base ≤ w.heap.size) (h : (Kd.int .u8).R 5 w base ok v xs) :
    Calls Try.prog 59 #[v] w fun e w' => ∃ v0_ : Value, e = .returned v0_ ∧ (Kd.int .u8).R 5 w' base (fun _ => True) v0_ (regsL xs) ∧ Below base w w' := by
  have h' : (Kd.int .u8).R 5 w base (fun _ => True) v xs := Kd.R_mono h (fun _ _ => trivial)
  have small : xs.length ≤ 1 → Calls Try.prog 59 #[v] w fun e w' => ∃ v0_ : Value, e = .returned v0_ ∧ (Kd.int .u8).R 5 w' base (fun _ => True) v0_ (regsL xs) ∧ Below base w w' := by
    intro h1
    obtain ⟨A, c, rfl⟩ := Kd.R_slice h'
    refine (regs1.calls A xs.length c h1 w).mono ?_
    rintro e w' ⟨rfl, ⟨nd, rfl⟩⟩
    refine ⟨_, rfl, ?_, pw_below_drewN (Below.refl base w) nd⟩
    have : regsL xs = xs := by
      rcases xs with _ | ⟨x, _ | ⟨y, xs⟩⟩
      · rfl
      · rfl
      · simp at h1
    rw [this]
    exact Kd.R_drewN h' nd
  rcases xs with _ | ⟨x, _ | ⟨y, _ | ⟨z, xs⟩⟩⟩
  · exact small (by simp)
  · exact small (by simp)
  · have ho := Kd.own_of_R h'
    rcases ho.2 with ⟨_, h0⟩ | ⟨g, cap, cur, rfl, hbg, hg, hn, hcm, hsz, htk⟩
    · simp at h0
    · have e2 : cur.toList.take 2 = [.int .u8 x, .int .u8 y] := htk
      have c0 : cur[0]? = some (.int .u8 x) := by
        have := congrArg (fun l => l[0]?) e2
        simpa [List.getElem?_take] using this
      have c1 : cur[1]? = some (.int .u8 y) := by
        have := congrArg (fun l => l[1]?) e2
        simpa [List.getElem?_take] using this
      exact regs2.calls g cap base x y cur w hbg hg c0 c1 (by omega) (by simpa using hn) hcm
  · simp at hl
end Go.Proofs.Ytibghcmkmbamjaa.PI
