import Derived.Test.YtibghcmkmbamjaaPIx9
import Derived.Test.YtibghcmkmbamjaaPIx9b
namespace Go.Proofs.Ytibghcmkmbamjaa.PI
open Go.RowKit Go.Proofs.YtibghcmkmbamjaaW.PrintWords Go.Proofs.YtibghcmkmbamjaaW.PrintLast Go.Proofs.YtibghcmkmbamjaaW.PrintMore
attribute [local go_sem] max2_int min2_int max_two min_two max_three min_three max_four min_four
set_option linter.unusedVariables false
set_option linter.unusedSimpArgs false
/-! ### wardenlaw07_alive: function 14 (by hand: all its arguments are constants) -/
theorem alive_dA : insn_Decode.f 40 (⟨#[183, 1, 0, 0, 5, 0, 0, 0]⟩ : ByteArray) = some (183, 1, 0, 0, 5, 0) := by kernel_rfl
theorem alive_dB : insn_Decode.f 40 (⟨#[121, 33, 8, 0, 0, 0, 0, 0]⟩ : ByteArray) = some (121, 1, 2, 8, 0, 0) := by kernel_rfl
theorem alive_dG : insn_Decode.f 40 (⟨#[49, 50, 51, 52, 53, 54, 55]⟩ : ByteArray) = some (0, 0, 0, 0, 0, 10) := by kernel_rfl
theorem alive_dH : insn_Decode.f 40 (⟨#[49, 50, 51, 52, 53, 54, 55, 56, 57]⟩ : ByteArray) = some (0, 0, 0, 0, 0, 4) := by kernel_rfl
theorem alive_w : insn_Writes.f 40 183 1 0 0 5 = some (1, true) := by kernel_rfl
theorem alive_kA : insn_Kind.f 40 183 1 0 0 5 = some 1 := by kernel_rfl
theorem alive_wA : insn_Wide.f 40 183 1 0 0 5 = some true := by kernel_rfl
theorem alive_rA : insn_Reads.f 40 183 1 0 0 5 = some [] := by kernel_rfl
theorem alive_kB : insn_Kind.f 40 121 1 2 8 0 = some 2 := by kernel_rfl
theorem alive_sB : insn_Size.f 40 121 1 2 8 0 = some 8 := by kernel_rfl
theorem alive_kD : insn_Kind.f 40 183 10 0 0 5 = some 0 := by kernel_rfl
theorem alive_kX : insn_Kind.f 40 149 0 0 0 0 = some 8 := by kernel_rfl
theorem alive_eA : insn_Encode.f 40 183 1 0 0 5 = some (⟨#[183, 1, 0, 0, 5, 0, 0, 0]⟩ : ByteArray) := by kernel_rfl
def wardenlaw07_alive.f (k : Nat) : Option Bool := some true
theorem wardenlaw07_alive.mono : ∀ k, LeO (wardenlaw07_alive.f k) (wardenlaw07_alive.f (k + 1)) := fun _ => LeO.refl _
def aA : Obj := (.cells #[.int .u8 183, .int .u8 1, .int .u8 0, .int .i16 0, .int .i32 5] 24 (0, 0))
def aB : Obj := (.cells #[.int .u8 121, .int .u8 1, .int .u8 2, .int .i16 8, .int .i32 0] 24 (0, 0))
def aD : Obj := (.cells #[.int .u8 183, .int .u8 10, .int .u8 0, .int .i16 0, .int .i32 5] 24 (0, 0))
def aZ : Obj := (.cells #[.int .u8 0, .int .u8 0, .int .u8 0, .int .i16 0, .int .i32 0] 24 (0, 0))
theorem ifHold {p : Prop} (h : p) : Aside0 p := ⟨h⟩
set_option maxHeartbeats 8000000 in
set_option maxRecDepth 100000 in
theorem wardenlaw07_alive.calls (k : Nat)  (r : Bool) (w : World) (hr_ : Aside0 (r = true)) (h : wardenlaw07_alive.f k  = some r) :
  Calls Try.prog 14 #[] w fun e w' => e = .returned (.bool r) ∧ Below w.heap.size w w' := by
 have hu24 := Try.underlying24
 have HB := am (Below.refl w.heap.size w)
 obtain rfl := hr_.out
 clear h
 go_enter Try.func14, Try.ntmps14
 go_upto_region 1 with (fail)
 go_cut [1, 2] (fun v1 v2 wc => ∃ gX : Nat, v1 = .pointer (some ⟨gX, 0, none⟩) ∧ v2 = .int .i64 0 ∧ Aside0 (w.heap.size ≤ gX) ∧ Aside0 (wc.heap[gX]? = some aA) ∧ Aside0 (Below w.heap.size w wc))
 case first =>
  go_wp2_with (first | ((with_reducible refine gate_callee (f := 15) rfl ?_); refine goesL_ (some 13) rfl rfl Try.func15 (by kernel_rfl) rfl #[.string (⟨#[183, 1, 0, 0, 5, 0, 0, 0]⟩ : ByteArray)] rfl (by (try simp only [List.map_toArray, List.map_cons, List.map_nil]); first | done | rfl) ?_; (with_reducible refine (insn_Decode.calls 40 (⟨#[183, 1, 0, 0, 5, 0, 0, 0]⟩ : ByteArray) 183 1 0 0 5 0 _ alive_dA).mono ?_); rintro e w1 ⟨rfl, hb⟩; refine ⟨_, rfl, ?_⟩; have n_ := am (below_step (by repeat (first | exact HB.out | apply pb | apply pa | apply pd | refine below_set ?_ GN.out)) hb); clear HB; have HB := n_; clear n_; (try clear hb)) | ((with_reducible refine gate_dst (N := 1) rfl ?_); refine box_event ?hg (N := 1) ?hd (cs := #[.int .u8 0, .int .u8 0, .int .u8 0, .int .i16 0, .int .i32 0]) (t := 24) ?hr ?_; (case hd => rfl); (case hg => rfl); (case hr => first | (go_simp; done) | (go_simp; rfl)); intro gN hgN w2 hbox hb; have GN := am ((by rw [hgN]; exact (below_size (by repeat (first | exact HB.out | apply pb | apply pa | apply pd)))) : w.heap.size ≤ gN); have n_ := am (below_step (by repeat (first | exact HB.out | apply pb | apply pa | apply pd | refine below_set ?_ GN.out)) hb); clear hgN; clear HB; have HB := n_; clear n_; (try clear hb); have BKN := am hbox; clear hbox; have hczN0 : w2.cell? ⟨gN, 0, none⟩ = some (.int .u8 0) := (blk_cell BKN.out 0).trans rfl; have hfzN0 := blk_frozen BKN.out 0; have hczN1 : w2.cell? ⟨gN, 1, none⟩ = some (.int .u8 0) := (blk_cell BKN.out 1).trans rfl; have hfzN1 := blk_frozen BKN.out 1; have hczN2 : w2.cell? ⟨gN, 2, none⟩ = some (.int .u8 0) := (blk_cell BKN.out 2).trans rfl; have hfzN2 := blk_frozen BKN.out 2; have hczN3 : w2.cell? ⟨gN, 3, none⟩ = some (.int .i16 0) := (blk_cell BKN.out 3).trans rfl; have hfzN3 := blk_frozen BKN.out 3; have hczN4 : w2.cell? ⟨gN, 4, none⟩ = some (.int .i32 0) := (blk_cell BKN.out 4).trans rfl; have hfzN4 := blk_frozen BKN.out 4))
  go_meet
  case rel => exact ⟨gN, rfl, rfl, GN, ⟨(by (with_reducible repeat (first | refine blk_drewN ?_ _ | refine blk_drew ?_ | refine blk_alloc ?_ _)); refine blk_put (cs := #[.int .u8 183, .int .u8 1, .int .u8 0, .int .i16 0, .int .i32 0]) ?_ 4 _ rfl; (with_reducible repeat (first | refine blk_drewN ?_ _ | refine blk_drew ?_ | refine blk_alloc ?_ _)); refine blk_put (cs := #[.int .u8 183, .int .u8 1, .int .u8 0, .int .i16 0, .int .i32 0]) ?_ 3 _ rfl; (with_reducible repeat (first | refine blk_drewN ?_ _ | refine blk_drew ?_ | refine blk_alloc ?_ _)); refine blk_put (cs := #[.int .u8 183, .int .u8 1, .int .u8 0, .int .i16 0, .int .i32 0]) ?_ 2 _ rfl; (with_reducible repeat (first | refine blk_drewN ?_ _ | refine blk_drew ?_ | refine blk_alloc ?_ _)); refine blk_put (cs := #[.int .u8 183, .int .u8 0, .int .u8 0, .int .i16 0, .int .i32 0]) ?_ 1 _ rfl; (with_reducible repeat (first | refine blk_drewN ?_ _ | refine blk_drew ?_ | refine blk_alloc ?_ _)); refine blk_put (cs := #[.int .u8 0, .int .u8 0, .int .u8 0, .int .i16 0, .int .i32 0]) ?_ 0 _ rfl; (with_reducible repeat (first | refine blk_drewN ?_ _ | refine blk_drew ?_ | refine blk_alloc ?_ _)); exact BKN.out)⟩, ⟨(by repeat (first | exact HB.out | apply pb | apply pa | apply pd | refine below_set ?_ GN.out))⟩⟩
 case rest =>
  clear HB
  obtain ⟨gA, rfl, rfl, GA, BKA, HB⟩ := hcut
  go_upto_region 2 with (fail)
  go_cut [3, 4] (fun v3 v4 wc => ∃ gX : Nat, v3 = .pointer (some ⟨gX, 0, none⟩) ∧ v4 = .int .i64 0 ∧ Aside0 (w.heap.size ≤ gX) ∧ Aside0 (wc.heap[gA]? = some aA) ∧ Aside0 (gA ≠ gX) ∧ Aside0 (wc.heap[gX]? = some aB) ∧ Aside0 (Below w.heap.size w wc))
  case first =>
   go_wp2_with (first | ((with_reducible refine gate_callee (f := 15) rfl ?_); refine goesL_ (some 17) rfl rfl Try.func15 (by kernel_rfl) rfl #[.string (⟨#[121, 33, 8, 0, 0, 0, 0, 0]⟩ : ByteArray)] rfl (by (try simp only [List.map_toArray, List.map_cons, List.map_nil]); first | done | rfl) ?_; (with_reducible refine (insn_Decode.calls 40 (⟨#[121, 33, 8, 0, 0, 0, 0, 0]⟩ : ByteArray) 121 1 2 8 0 0 _ alive_dB).mono ?_); rintro e w3 ⟨rfl, hb⟩; refine ⟨_, rfl, ?_⟩; have n_A := am (blk_below (g := gA) (o := aA) (by (with_reducible repeat (first | refine blk_drewN ?_ _ | refine blk_drew ?_ | refine blk_alloc ?_ _)); exact BKA.out) hb); have n_ := am (below_step (by repeat (first | exact HB.out | apply pb | apply pa | apply pd | refine below_set ?_ GN.out)) hb); clear BKA; have BKA := n_A; clear n_A; clear HB; have HB := n_; clear n_; (try clear hb)) | ((with_reducible refine gate_dst (N := 3) rfl ?_); refine box_event ?hg (N := 3) ?hd (cs := #[.int .u8 0, .int .u8 0, .int .u8 0, .int .i16 0, .int .i32 0]) (t := 24) ?hr ?_; (case hd => rfl); (case hg => rfl); (case hr => first | (go_simp; done) | (go_simp; rfl)); intro gN hgN w4 hbox hb; have GN := am ((by rw [hgN]; exact (below_size (by repeat (first | exact HB.out | apply pb | apply pa | apply pd)))) : w.heap.size ≤ gN); have NEA := am ((by rw [hgN]; exact Nat.ne_of_lt (blk_lt (g := gA) (o := aA) (by (with_reducible repeat (first | refine blk_drewN ?_ _ | refine blk_drew ?_ | refine blk_alloc ?_ _)); exact BKA.out))) : gA ≠ gN); have n_A := am (blk_below (g := gA) (o := aA) (by (with_reducible repeat (first | refine blk_drewN ?_ _ | refine blk_drew ?_ | refine blk_alloc ?_ _)); exact BKA.out) hb); have n_ := am (below_step (by repeat (first | exact HB.out | apply pb | apply pa | apply pd | refine below_set ?_ GN.out)) hb); clear BKA; have BKA := n_A; clear n_A; clear hgN; clear HB; have HB := n_; clear n_; (try clear hb); have BKN := am hbox; clear hbox; have hczN0 : w4.cell? ⟨gN, 0, none⟩ = some (.int .u8 0) := (blk_cell BKN.out 0).trans rfl; have hfzN0 := blk_frozen BKN.out 0; have hczN1 : w4.cell? ⟨gN, 1, none⟩ = some (.int .u8 0) := (blk_cell BKN.out 1).trans rfl; have hfzN1 := blk_frozen BKN.out 1; have hczN2 : w4.cell? ⟨gN, 2, none⟩ = some (.int .u8 0) := (blk_cell BKN.out 2).trans rfl; have hfzN2 := blk_frozen BKN.out 2; have hczN3 : w4.cell? ⟨gN, 3, none⟩ = some (.int .i16 0) := (blk_cell BKN.out 3).trans rfl; have hfzN3 := blk_frozen BKN.out 3; have hczN4 : w4.cell? ⟨gN, 4, none⟩ = some (.int .i32 0) := (blk_cell BKN.out 4).trans rfl; have hfzN4 := blk_frozen BKN.out 4))
   go_meet
   case rel => exact ⟨gN, rfl, rfl, GN, ⟨by (with_reducible repeat (first | refine blk_drewN ?_ _ | refine blk_drew ?_ | refine blk_alloc ?_ _)); refine blk_far ?_ NEA.out _; (with_reducible repeat (first | refine blk_drewN ?_ _ | refine blk_drew ?_ | refine blk_alloc ?_ _)); refine blk_far ?_ NEA.out _; (with_reducible repeat (first | refine blk_drewN ?_ _ | refine blk_drew ?_ | refine blk_alloc ?_ _)); refine blk_far ?_ NEA.out _; (with_reducible repeat (first | refine blk_drewN ?_ _ | refine blk_drew ?_ | refine blk_alloc ?_ _)); refine blk_far ?_ NEA.out _; (with_reducible repeat (first | refine blk_drewN ?_ _ | refine blk_drew ?_ | refine blk_alloc ?_ _)); refine blk_far ?_ NEA.out _; (with_reducible repeat (first | refine blk_drewN ?_ _ | refine blk_drew ?_ | refine blk_alloc ?_ _)); exact BKA.out⟩, NEA, ⟨(by (with_reducible repeat (first | refine blk_drewN ?_ _ | refine blk_drew ?_ | refine blk_alloc ?_ _)); refine blk_put (cs := #[.int .u8 121, .int .u8 1, .int .u8 2, .int .i16 8, .int .i32 0]) ?_ 4 _ rfl; (with_reducible repeat (first | refine blk_drewN ?_ _ | refine blk_drew ?_ | refine blk_alloc ?_ _)); refine blk_put (cs := #[.int .u8 121, .int .u8 1, .int .u8 2, .int .i16 0, .int .i32 0]) ?_ 3 _ rfl; (with_reducible repeat (first | refine blk_drewN ?_ _ | refine blk_drew ?_ | refine blk_alloc ?_ _)); refine blk_put (cs := #[.int .u8 121, .int .u8 1, .int .u8 0, .int .i16 0, .int .i32 0]) ?_ 2 _ rfl; (with_reducible repeat (first | refine blk_drewN ?_ _ | refine blk_drew ?_ | refine blk_alloc ?_ _)); refine blk_put (cs := #[.int .u8 121, .int .u8 0, .int .u8 0, .int .i16 0, .int .i32 0]) ?_ 1 _ rfl; (with_reducible repeat (first | refine blk_drewN ?_ _ | refine blk_drew ?_ | refine blk_alloc ?_ _)); refine blk_put (cs := #[.int .u8 0, .int .u8 0, .int .u8 0, .int .i16 0, .int .i32 0]) ?_ 0 _ rfl; (with_reducible repeat (first | refine blk_drewN ?_ _ | refine blk_drew ?_ | refine blk_alloc ?_ _)); exact BKN.out)⟩, ⟨(by repeat (first | exact HB.out | apply pb | apply pa | apply pd | refine below_set ?_ GN.out))⟩⟩
  case rest =>
   clear HB
   clear BKA
   obtain ⟨gB, rfl, rfl, GB, BKA, NEAB, BKB, HB⟩ := hcut
   go_upto_region 3 with (fail)
   go_cut [6] (fun v6 wc => v6 = .int .i64 10 ∧ Aside0 (wc.heap[gA]? = some aA) ∧ Aside0 (wc.heap[gB]? = some aB) ∧ Aside0 (Below w.heap.size w wc))
   case first =>
    go_wp2_with (first | ((with_reducible refine gate_callee (f := 15) rfl ?_); refine goesL_ (some 21) rfl rfl Try.func15 (by kernel_rfl) rfl #[.string (⟨#[49, 50, 51, 52, 53, 54, 55]⟩ : ByteArray)] rfl (by (try simp only [List.map_toArray, List.map_cons, List.map_nil]); first | done | rfl) ?_; (with_reducible refine (insn_Decode.calls 40 (⟨#[49, 50, 51, 52, 53, 54, 55]⟩ : ByteArray) 0 0 0 0 0 10 _ alive_dG).mono ?_); rintro e w5 ⟨rfl, hb⟩; refine ⟨_, rfl, ?_⟩; have n_A := am (blk_below (g := gA) (o := aA) (by (with_reducible repeat (first | refine blk_drewN ?_ _ | refine blk_drew ?_ | refine blk_alloc ?_ _)); exact BKA.out) hb); have n_B := am (blk_below (g := gB) (o := aB) (by (with_reducible repeat (first | refine blk_drewN ?_ _ | refine blk_drew ?_ | refine blk_alloc ?_ _)); exact BKB.out) hb); have n_ := am (below_step (by repeat (first | exact HB.out | apply pb | apply pa | apply pd | refine below_set ?_ GN.out)) hb); clear BKA; have BKA := n_A; clear n_A; clear BKB; have BKB := n_B; clear n_B; clear HB; have HB := n_; clear n_; (try clear hb)) | ((with_reducible refine gate_dst (N := 5) rfl ?_); refine box_event ?hg (N := 5) ?hd (cs := #[.int .u8 0, .int .u8 0, .int .u8 0, .int .i16 0, .int .i32 0]) (t := 24) ?hr ?_; (case hd => rfl); (case hg => rfl); (case hr => first | (go_simp; done) | (go_simp; rfl)); intro gN hgN w6 hbox hb; have GN := am ((by rw [hgN]; exact (below_size (by repeat (first | exact HB.out | apply pb | apply pa | apply pd)))) : w.heap.size ≤ gN); have NEA := am ((by rw [hgN]; exact Nat.ne_of_lt (blk_lt (g := gA) (o := aA) (by (with_reducible repeat (first | refine blk_drewN ?_ _ | refine blk_drew ?_ | refine blk_alloc ?_ _)); exact BKA.out))) : gA ≠ gN); have NEB := am ((by rw [hgN]; exact Nat.ne_of_lt (blk_lt (g := gB) (o := aB) (by (with_reducible repeat (first | refine blk_drewN ?_ _ | refine blk_drew ?_ | refine blk_alloc ?_ _)); exact BKB.out))) : gB ≠ gN); have n_A := am (blk_below (g := gA) (o := aA) (by (with_reducible repeat (first | refine blk_drewN ?_ _ | refine blk_drew ?_ | refine blk_alloc ?_ _)); exact BKA.out) hb); have n_B := am (blk_below (g := gB) (o := aB) (by (with_reducible repeat (first | refine blk_drewN ?_ _ | refine blk_drew ?_ | refine blk_alloc ?_ _)); exact BKB.out) hb); have n_ := am (below_step (by repeat (first | exact HB.out | apply pb | apply pa | apply pd | refine below_set ?_ GN.out)) hb); clear BKA; have BKA := n_A; clear n_A; clear BKB; have BKB := n_B; clear n_B; clear hgN; clear HB; have HB := n_; clear n_; (try clear hb); have BKN := am hbox; clear hbox; have hczN0 : w6.cell? ⟨gN, 0, none⟩ = some (.int .u8 0) := (blk_cell BKN.out 0).trans rfl; have hfzN0 := blk_frozen BKN.out 0; have hczN1 : w6.cell? ⟨gN, 1, none⟩ = some (.int .u8 0) := (blk_cell BKN.out 1).trans rfl; have hfzN1 := blk_frozen BKN.out 1; have hczN2 : w6.cell? ⟨gN, 2, none⟩ = some (.int .u8 0) := (blk_cell BKN.out 2).trans rfl; have hfzN2 := blk_frozen BKN.out 2; have hczN3 : w6.cell? ⟨gN, 3, none⟩ = some (.int .i16 0) := (blk_cell BKN.out 3).trans rfl; have hfzN3 := blk_frozen BKN.out 3; have hczN4 : w6.cell? ⟨gN, 4, none⟩ = some (.int .i32 0) := (blk_cell BKN.out 4).trans rfl; have hfzN4 := blk_frozen BKN.out 4))
    go_meet
    case rel => exact ⟨rfl, ⟨by (with_reducible repeat (first | refine blk_drewN ?_ _ | refine blk_drew ?_ | refine blk_alloc ?_ _)); refine blk_far ?_ NEA.out _; (with_reducible repeat (first | refine blk_drewN ?_ _ | refine blk_drew ?_ | refine blk_alloc ?_ _)); refine blk_far ?_ NEA.out _; (with_reducible repeat (first | refine blk_drewN ?_ _ | refine blk_drew ?_ | refine blk_alloc ?_ _)); refine blk_far ?_ NEA.out _; (with_reducible repeat (first | refine blk_drewN ?_ _ | refine blk_drew ?_ | refine blk_alloc ?_ _)); refine blk_far ?_ NEA.out _; (with_reducible repeat (first | refine blk_drewN ?_ _ | refine blk_drew ?_ | refine blk_alloc ?_ _)); refine blk_far ?_ NEA.out _; (with_reducible repeat (first | refine blk_drewN ?_ _ | refine blk_drew ?_ | refine blk_alloc ?_ _)); exact BKA.out⟩, ⟨by (with_reducible repeat (first | refine blk_drewN ?_ _ | refine blk_drew ?_ | refine blk_alloc ?_ _)); refine blk_far ?_ NEB.out _; (with_reducible repeat (first | refine blk_drewN ?_ _ | refine blk_drew ?_ | refine blk_alloc ?_ _)); refine blk_far ?_ NEB.out _; (with_reducible repeat (first | refine blk_drewN ?_ _ | refine blk_drew ?_ | refine blk_alloc ?_ _)); refine blk_far ?_ NEB.out _; (with_reducible repeat (first | refine blk_drewN ?_ _ | refine blk_drew ?_ | refine blk_alloc ?_ _)); refine blk_far ?_ NEB.out _; (with_reducible repeat (first | refine blk_drewN ?_ _ | refine blk_drew ?_ | refine blk_alloc ?_ _)); refine blk_far ?_ NEB.out _; (with_reducible repeat (first | refine blk_drewN ?_ _ | refine blk_drew ?_ | refine blk_alloc ?_ _)); exact BKB.out⟩, ⟨(by repeat (first | exact HB.out | apply pb | apply pa | apply pd | refine below_set ?_ GN.out))⟩⟩
   case rest =>
    clear HB
    clear BKA
    clear BKB
    obtain ⟨rfl, BKA, BKB, HB⟩ := hcut
    go_upto_region 4 with (fail)
    go_cut [8] (fun v8 wc => v8 = .int .i64 4 ∧ Aside0 (wc.heap[gA]? = some aA) ∧ Aside0 (wc.heap[gB]? = some aB) ∧ Aside0 (Below w.heap.size w wc))
    case first =>
     go_wp2_with (first | ((with_reducible refine gate_callee (f := 15) rfl ?_); refine goesL_ (some 25) rfl rfl Try.func15 (by kernel_rfl) rfl #[.string (⟨#[49, 50, 51, 52, 53, 54, 55, 56, 57]⟩ : ByteArray)] rfl (by (try simp only [List.map_toArray, List.map_cons, List.map_nil]); first | done | rfl) ?_; (with_reducible refine (insn_Decode.calls 40 (⟨#[49, 50, 51, 52, 53, 54, 55, 56, 57]⟩ : ByteArray) 0 0 0 0 0 4 _ alive_dH).mono ?_); rintro e w7 ⟨rfl, hb⟩; refine ⟨_, rfl, ?_⟩; have n_A := am (blk_below (g := gA) (o := aA) (by (with_reducible repeat (first | refine blk_drewN ?_ _ | refine blk_drew ?_ | refine blk_alloc ?_ _)); exact BKA.out) hb); have n_B := am (blk_below (g := gB) (o := aB) (by (with_reducible repeat (first | refine blk_drewN ?_ _ | refine blk_drew ?_ | refine blk_alloc ?_ _)); exact BKB.out) hb); have n_ := am (below_step (by repeat (first | exact HB.out | apply pb | apply pa | apply pd | refine below_set ?_ GN.out)) hb); clear BKA; have BKA := n_A; clear n_A; clear BKB; have BKB := n_B; clear n_B; clear HB; have HB := n_; clear n_; (try clear hb)) | ((with_reducible refine gate_dst (N := 7) rfl ?_); refine box_event ?hg (N := 7) ?hd (cs := #[.int .u8 0, .int .u8 0, .int .u8 0, .int .i16 0, .int .i32 0]) (t := 24) ?hr ?_; (case hd => rfl); (case hg => rfl); (case hr => first | (go_simp; done) | (go_simp; rfl)); intro gN hgN w8 hbox hb; have GN := am ((by rw [hgN]; exact (below_size (by repeat (first | exact HB.out | apply pb | apply pa | apply pd)))) : w.heap.size ≤ gN); have NEA := am ((by rw [hgN]; exact Nat.ne_of_lt (blk_lt (g := gA) (o := aA) (by (with_reducible repeat (first | refine blk_drewN ?_ _ | refine blk_drew ?_ | refine blk_alloc ?_ _)); exact BKA.out))) : gA ≠ gN); have NEB := am ((by rw [hgN]; exact Nat.ne_of_lt (blk_lt (g := gB) (o := aB) (by (with_reducible repeat (first | refine blk_drewN ?_ _ | refine blk_drew ?_ | refine blk_alloc ?_ _)); exact BKB.out))) : gB ≠ gN); have n_A := am (blk_below (g := gA) (o := aA) (by (with_reducible repeat (first | refine blk_drewN ?_ _ | refine blk_drew ?_ | refine blk_alloc ?_ _)); exact BKA.out) hb); have n_B := am (blk_below (g := gB) (o := aB) (by (with_reducible repeat (first | refine blk_drewN ?_ _ | refine blk_drew ?_ | refine blk_alloc ?_ _)); exact BKB.out) hb); have n_ := am (below_step (by repeat (first | exact HB.out | apply pb | apply pa | apply pd | refine below_set ?_ GN.out)) hb); clear BKA; have BKA := n_A; clear n_A; clear BKB; have BKB := n_B; clear n_B; clear hgN; clear HB; have HB := n_; clear n_; (try clear hb); have BKN := am hbox; clear hbox; have hczN0 : w8.cell? ⟨gN, 0, none⟩ = some (.int .u8 0) := (blk_cell BKN.out 0).trans rfl; have hfzN0 := blk_frozen BKN.out 0; have hczN1 : w8.cell? ⟨gN, 1, none⟩ = some (.int .u8 0) := (blk_cell BKN.out 1).trans rfl; have hfzN1 := blk_frozen BKN.out 1; have hczN2 : w8.cell? ⟨gN, 2, none⟩ = some (.int .u8 0) := (blk_cell BKN.out 2).trans rfl; have hfzN2 := blk_frozen BKN.out 2; have hczN3 : w8.cell? ⟨gN, 3, none⟩ = some (.int .i16 0) := (blk_cell BKN.out 3).trans rfl; have hfzN3 := blk_frozen BKN.out 3; have hczN4 : w8.cell? ⟨gN, 4, none⟩ = some (.int .i32 0) := (blk_cell BKN.out 4).trans rfl; have hfzN4 := blk_frozen BKN.out 4))
     go_meet
     case rel => exact ⟨rfl, ⟨by (with_reducible repeat (first | refine blk_drewN ?_ _ | refine blk_drew ?_ | refine blk_alloc ?_ _)); refine blk_far ?_ NEA.out _; (with_reducible repeat (first | refine blk_drewN ?_ _ | refine blk_drew ?_ | refine blk_alloc ?_ _)); refine blk_far ?_ NEA.out _; (with_reducible repeat (first | refine blk_drewN ?_ _ | refine blk_drew ?_ | refine blk_alloc ?_ _)); refine blk_far ?_ NEA.out _; (with_reducible repeat (first | refine blk_drewN ?_ _ | refine blk_drew ?_ | refine blk_alloc ?_ _)); refine blk_far ?_ NEA.out _; (with_reducible repeat (first | refine blk_drewN ?_ _ | refine blk_drew ?_ | refine blk_alloc ?_ _)); refine blk_far ?_ NEA.out _; (with_reducible repeat (first | refine blk_drewN ?_ _ | refine blk_drew ?_ | refine blk_alloc ?_ _)); exact BKA.out⟩, ⟨by (with_reducible repeat (first | refine blk_drewN ?_ _ | refine blk_drew ?_ | refine blk_alloc ?_ _)); refine blk_far ?_ NEB.out _; (with_reducible repeat (first | refine blk_drewN ?_ _ | refine blk_drew ?_ | refine blk_alloc ?_ _)); refine blk_far ?_ NEB.out _; (with_reducible repeat (first | refine blk_drewN ?_ _ | refine blk_drew ?_ | refine blk_alloc ?_ _)); refine blk_far ?_ NEB.out _; (with_reducible repeat (first | refine blk_drewN ?_ _ | refine blk_drew ?_ | refine blk_alloc ?_ _)); refine blk_far ?_ NEB.out _; (with_reducible repeat (first | refine blk_drewN ?_ _ | refine blk_drew ?_ | refine blk_alloc ?_ _)); refine blk_far ?_ NEB.out _; (with_reducible repeat (first | refine blk_drewN ?_ _ | refine blk_drew ?_ | refine blk_alloc ?_ _)); exact BKB.out⟩, ⟨(by repeat (first | exact HB.out | apply pb | apply pa | apply pd | refine below_set ?_ GN.out))⟩⟩
    case rest =>
     clear HB
     clear BKA
     clear BKB
     obtain ⟨rfl, BKA, BKB, HB⟩ := hcut
     go_upto_region 5 with (fail)
     go_cut [9, 10] (fun v9 v10 wc => v9 = .int .u8 1 ∧ v10 = .bool true ∧ Aside0 (wc.heap[gA]? = some aA) ∧ Aside0 (wc.heap[gB]? = some aB) ∧ Aside0 (Below w.heap.size w wc))
     case first =>
      have hczA0 : wc.cell? ⟨gA, 0, none⟩ = some (.int .u8 183) := (blk_cell BKA.out 0).trans rfl; have hfzA0 := blk_frozen BKA.out 0; have hczA1 : wc.cell? ⟨gA, 1, none⟩ = some (.int .u8 1) := (blk_cell BKA.out 1).trans rfl; have hfzA1 := blk_frozen BKA.out 1; have hczA2 : wc.cell? ⟨gA, 2, none⟩ = some (.int .u8 0) := (blk_cell BKA.out 2).trans rfl; have hfzA2 := blk_frozen BKA.out 2; have hczA3 : wc.cell? ⟨gA, 3, none⟩ = some (.int .i16 0) := (blk_cell BKA.out 3).trans rfl; have hfzA3 := blk_frozen BKA.out 3; have hczA4 : wc.cell? ⟨gA, 4, none⟩ = some (.int .i32 5) := (blk_cell BKA.out 4).trans rfl; have hfzA4 := blk_frozen BKA.out 4
      go_wp2_with (first | ((with_reducible refine gate_callee (f := 27) rfl ?_); refine goesL_ (some 30) rfl rfl Try.func27 (by kernel_rfl) rfl #[.agg #[.int .u8 183, .int .u8 1, .int .u8 0, .int .i16 0, .int .i32 5]] rfl (by (try simp only [List.map_toArray, List.map_cons, List.map_nil]); first | done | rfl) ?_; (with_reducible refine (insn_Writes.calls 40 183 1 0 0 5 1 true _ alive_w).mono ?_); rintro e w9 ⟨rfl, hb⟩; refine ⟨_, rfl, ?_⟩; have n_A := am (blk_below (g := gA) (o := aA) (by (with_reducible repeat (first | refine blk_drewN ?_ _ | refine blk_drew ?_ | refine blk_alloc ?_ _)); exact BKA.out) hb); have n_B := am (blk_below (g := gB) (o := aB) (by (with_reducible repeat (first | refine blk_drewN ?_ _ | refine blk_drew ?_ | refine blk_alloc ?_ _)); exact BKB.out) hb); have n_ := am (below_step (by repeat (first | exact HB.out | apply pb | apply pa | apply pd | refine below_set ?_ GN.out)) hb); clear BKA; have BKA := n_A; clear n_A; clear BKB; have BKB := n_B; clear n_B; clear HB; have HB := n_; clear n_; (try clear hb)))
      go_meet
      case rel => exact ⟨rfl, rfl, ⟨by (with_reducible repeat (first | refine blk_drewN ?_ _ | refine blk_drew ?_ | refine blk_alloc ?_ _)); exact BKA.out⟩, ⟨by (with_reducible repeat (first | refine blk_drewN ?_ _ | refine blk_drew ?_ | refine blk_alloc ?_ _)); exact BKB.out⟩, ⟨(by repeat (first | exact HB.out | apply pb | apply pa | apply pd | refine below_set ?_ GN.out))⟩⟩
     case rest =>
      clear HB
      clear BKA
      clear BKB
      obtain ⟨rfl, rfl, BKA, BKB, HB⟩ := hcut
      go_upto_region 6 with (fail)
      go_cut [11] (fun v11 wc => ∃ gX : Nat, v11 = .pointer (some ⟨gX, 0, none⟩) ∧ Aside0 (w.heap.size ≤ gX) ∧ Aside0 (wc.heap[gA]? = some aA) ∧ Aside0 (gA ≠ gX) ∧ Aside0 (wc.heap[gB]? = some aB) ∧ Aside0 (gB ≠ gX) ∧ Aside0 (wc.heap[gX]? = some aA) ∧ Aside0 (Below w.heap.size w wc))
      case first =>
       have hczA0 : wc.cell? ⟨gA, 0, none⟩ = some (.int .u8 183) := (blk_cell BKA.out 0).trans rfl; have hfzA0 := blk_frozen BKA.out 0; have hczA1 : wc.cell? ⟨gA, 1, none⟩ = some (.int .u8 1) := (blk_cell BKA.out 1).trans rfl; have hfzA1 := blk_frozen BKA.out 1; have hczA2 : wc.cell? ⟨gA, 2, none⟩ = some (.int .u8 0) := (blk_cell BKA.out 2).trans rfl; have hfzA2 := blk_frozen BKA.out 2; have hczA3 : wc.cell? ⟨gA, 3, none⟩ = some (.int .i16 0) := (blk_cell BKA.out 3).trans rfl; have hfzA3 := blk_frozen BKA.out 3; have hczA4 : wc.cell? ⟨gA, 4, none⟩ = some (.int .i32 5) := (blk_cell BKA.out 4).trans rfl; have hfzA4 := blk_frozen BKA.out 4
       go_wp2_with (first | ((with_reducible refine gate_dst (N := 11) rfl ?_); refine box_event ?hg (N := 11) ?hd (cs := #[.int .u8 0, .int .u8 0, .int .u8 0, .int .i16 0, .int .i32 0]) (t := 24) ?hr ?_; (case hd => rfl); (case hg => rfl); (case hr => first | (go_simp; done) | (go_simp; rfl)); intro gN hgN w10 hbox hb; have GN := am ((by rw [hgN]; exact (below_size (by repeat (first | exact HB.out | apply pb | apply pa | apply pd)))) : w.heap.size ≤ gN); have NEA := am ((by rw [hgN]; exact Nat.ne_of_lt (blk_lt (g := gA) (o := aA) (by (with_reducible repeat (first | refine blk_drewN ?_ _ | refine blk_drew ?_ | refine blk_alloc ?_ _)); exact BKA.out))) : gA ≠ gN); have NEB := am ((by rw [hgN]; exact Nat.ne_of_lt (blk_lt (g := gB) (o := aB) (by (with_reducible repeat (first | refine blk_drewN ?_ _ | refine blk_drew ?_ | refine blk_alloc ?_ _)); exact BKB.out))) : gB ≠ gN); have n_A := am (blk_below (g := gA) (o := aA) (by (with_reducible repeat (first | refine blk_drewN ?_ _ | refine blk_drew ?_ | refine blk_alloc ?_ _)); exact BKA.out) hb); have n_B := am (blk_below (g := gB) (o := aB) (by (with_reducible repeat (first | refine blk_drewN ?_ _ | refine blk_drew ?_ | refine blk_alloc ?_ _)); exact BKB.out) hb); have n_ := am (below_step (by repeat (first | exact HB.out | apply pb | apply pa | apply pd | refine below_set ?_ GN.out)) hb); clear BKA; have BKA := n_A; clear n_A; clear BKB; have BKB := n_B; clear n_B; clear hgN; clear HB; have HB := n_; clear n_; (try clear hb); have BKN := am hbox; clear hbox; have hczN0 : w10.cell? ⟨gN, 0, none⟩ = some (.int .u8 0) := (blk_cell BKN.out 0).trans rfl; have hfzN0 := blk_frozen BKN.out 0; have hczN1 : w10.cell? ⟨gN, 1, none⟩ = some (.int .u8 0) := (blk_cell BKN.out 1).trans rfl; have hfzN1 := blk_frozen BKN.out 1; have hczN2 : w10.cell? ⟨gN, 2, none⟩ = some (.int .u8 0) := (blk_cell BKN.out 2).trans rfl; have hfzN2 := blk_frozen BKN.out 2; have hczN3 : w10.cell? ⟨gN, 3, none⟩ = some (.int .i16 0) := (blk_cell BKN.out 3).trans rfl; have hfzN3 := blk_frozen BKN.out 3; have hczN4 : w10.cell? ⟨gN, 4, none⟩ = some (.int .i32 0) := (blk_cell BKN.out 4).trans rfl; have hfzN4 := blk_frozen BKN.out 4))
       go_meet
       case rel => exact ⟨gN, rfl, GN, ⟨by (with_reducible repeat (first | refine blk_drewN ?_ _ | refine blk_drew ?_ | refine blk_alloc ?_ _)); refine blk_far ?_ NEA.out _; (with_reducible repeat (first | refine blk_drewN ?_ _ | refine blk_drew ?_ | refine blk_alloc ?_ _)); refine blk_far ?_ NEA.out _; (with_reducible repeat (first | refine blk_drewN ?_ _ | refine blk_drew ?_ | refine blk_alloc ?_ _)); refine blk_far ?_ NEA.out _; (with_reducible repeat (first | refine blk_drewN ?_ _ | refine blk_drew ?_ | refine blk_alloc ?_ _)); refine blk_far ?_ NEA.out _; (with_reducible repeat (first | refine blk_drewN ?_ _ | refine blk_drew ?_ | refine blk_alloc ?_ _)); refine blk_far ?_ NEA.out _; (with_reducible repeat (first | refine blk_drewN ?_ _ | refine blk_drew ?_ | refine blk_alloc ?_ _)); exact BKA.out⟩, NEA, ⟨by (with_reducible repeat (first | refine blk_drewN ?_ _ | refine blk_drew ?_ | refine blk_alloc ?_ _)); refine blk_far ?_ NEB.out _; (with_reducible repeat (first | refine blk_drewN ?_ _ | refine blk_drew ?_ | refine blk_alloc ?_ _)); refine blk_far ?_ NEB.out _; (with_reducible repeat (first | refine blk_drewN ?_ _ | refine blk_drew ?_ | refine blk_alloc ?_ _)); refine blk_far ?_ NEB.out _; (with_reducible repeat (first | refine blk_drewN ?_ _ | refine blk_drew ?_ | refine blk_alloc ?_ _)); refine blk_far ?_ NEB.out _; (with_reducible repeat (first | refine blk_drewN ?_ _ | refine blk_drew ?_ | refine blk_alloc ?_ _)); refine blk_far ?_ NEB.out _; (with_reducible repeat (first | refine blk_drewN ?_ _ | refine blk_drew ?_ | refine blk_alloc ?_ _)); exact BKB.out⟩, NEB, ⟨(by (with_reducible repeat (first | refine blk_drewN ?_ _ | refine blk_drew ?_ | refine blk_alloc ?_ _)); refine blk_put (cs := #[.int .u8 183, .int .u8 1, .int .u8 0, .int .i16 0, .int .i32 0]) ?_ 4 _ rfl; (with_reducible repeat (first | refine blk_drewN ?_ _ | refine blk_drew ?_ | refine blk_alloc ?_ _)); refine blk_put (cs := #[.int .u8 183, .int .u8 1, .int .u8 0, .int .i16 0, .int .i32 0]) ?_ 3 _ rfl; (with_reducible repeat (first | refine blk_drewN ?_ _ | refine blk_drew ?_ | refine blk_alloc ?_ _)); refine blk_put (cs := #[.int .u8 183, .int .u8 1, .int .u8 0, .int .i16 0, .int .i32 0]) ?_ 2 _ rfl; (with_reducible repeat (first | refine blk_drewN ?_ _ | refine blk_drew ?_ | refine blk_alloc ?_ _)); refine blk_put (cs := #[.int .u8 183, .int .u8 0, .int .u8 0, .int .i16 0, .int .i32 0]) ?_ 1 _ rfl; (with_reducible repeat (first | refine blk_drewN ?_ _ | refine blk_drew ?_ | refine blk_alloc ?_ _)); refine blk_put (cs := #[.int .u8 0, .int .u8 0, .int .u8 0, .int .i16 0, .int .i32 0]) ?_ 0 _ rfl; (with_reducible repeat (first | refine blk_drewN ?_ _ | refine blk_drew ?_ | refine blk_alloc ?_ _)); exact BKN.out)⟩, ⟨(by repeat (first | exact HB.out | apply pb | apply pa | apply pd | refine below_set ?_ GN.out))⟩⟩
      case rest =>
       clear HB
       clear BKA
       clear BKB
       obtain ⟨gD, rfl, GD, BKA, NEAD, BKB, NEBD, BKD, HB⟩ := hcut
       go_upto_region 7 with (fail)
       go_cut [] (fun wc => Aside0 (wc.heap[gA]? = some aA) ∧ Aside0 (wc.heap[gB]? = some aB) ∧ Aside0 (wc.heap[gD]? = some aD) ∧ Aside0 (Below w.heap.size w wc))
       case first =>
        have hczD0 : wc.cell? ⟨gD, 0, none⟩ = some (.int .u8 183) := (blk_cell BKD.out 0).trans rfl; have hfzD0 := blk_frozen BKD.out 0; have hczD1 : wc.cell? ⟨gD, 1, none⟩ = some (.int .u8 1) := (blk_cell BKD.out 1).trans rfl; have hfzD1 := blk_frozen BKD.out 1; have hczD2 : wc.cell? ⟨gD, 2, none⟩ = some (.int .u8 0) := (blk_cell BKD.out 2).trans rfl; have hfzD2 := blk_frozen BKD.out 2; have hczD3 : wc.cell? ⟨gD, 3, none⟩ = some (.int .i16 0) := (blk_cell BKD.out 3).trans rfl; have hfzD3 := blk_frozen BKD.out 3; have hczD4 : wc.cell? ⟨gD, 4, none⟩ = some (.int .i32 5) := (blk_cell BKD.out 4).trans rfl; have hfzD4 := blk_frozen BKD.out 4
        go_wp2
        go_meet
        case rel => exact ⟨⟨by (with_reducible repeat (first | refine blk_drewN ?_ _ | refine blk_drew ?_ | refine blk_alloc ?_ _)); refine blk_far ?_ NEAD.out _; (with_reducible repeat (first | refine blk_drewN ?_ _ | refine blk_drew ?_ | refine blk_alloc ?_ _)); exact BKA.out⟩, ⟨by (with_reducible repeat (first | refine blk_drewN ?_ _ | refine blk_drew ?_ | refine blk_alloc ?_ _)); refine blk_far ?_ NEBD.out _; (with_reducible repeat (first | refine blk_drewN ?_ _ | refine blk_drew ?_ | refine blk_alloc ?_ _)); exact BKB.out⟩, ⟨by (with_reducible repeat (first | refine blk_drewN ?_ _ | refine blk_drew ?_ | refine blk_alloc ?_ _)); refine blk_put (cs := #[.int .u8 183, .int .u8 1, .int .u8 0, .int .i16 0, .int .i32 5]) ?_ 1 _ rfl; (with_reducible repeat (first | refine blk_drewN ?_ _ | refine blk_drew ?_ | refine blk_alloc ?_ _)); exact BKD.out⟩, ⟨(by repeat (first | exact HB.out | apply pb | apply pa | apply pd | refine below_set ?_ GD.out))⟩⟩
       case rest =>
        clear HB BKA BKB BKD
        obtain ⟨BKA, BKB, BKD, HB⟩ := hcut
        have hczA0 : wc.cell? ⟨gA, 0, none⟩ = some (.int .u8 183) := (blk_cell BKA.out 0).trans rfl; have hfzA0 := blk_frozen BKA.out 0; have hczA1 : wc.cell? ⟨gA, 1, none⟩ = some (.int .u8 1) := (blk_cell BKA.out 1).trans rfl; have hfzA1 := blk_frozen BKA.out 1; have hczA2 : wc.cell? ⟨gA, 2, none⟩ = some (.int .u8 0) := (blk_cell BKA.out 2).trans rfl; have hfzA2 := blk_frozen BKA.out 2; have hczA3 : wc.cell? ⟨gA, 3, none⟩ = some (.int .i16 0) := (blk_cell BKA.out 3).trans rfl; have hfzA3 := blk_frozen BKA.out 3; have hczA4 : wc.cell? ⟨gA, 4, none⟩ = some (.int .i32 5) := (blk_cell BKA.out 4).trans rfl; have hfzA4 := blk_frozen BKA.out 4
        have hczB0 : wc.cell? ⟨gB, 0, none⟩ = some (.int .u8 121) := (blk_cell BKB.out 0).trans rfl; have hfzB0 := blk_frozen BKB.out 0; have hczB1 : wc.cell? ⟨gB, 1, none⟩ = some (.int .u8 1) := (blk_cell BKB.out 1).trans rfl; have hfzB1 := blk_frozen BKB.out 1; have hczB2 : wc.cell? ⟨gB, 2, none⟩ = some (.int .u8 2) := (blk_cell BKB.out 2).trans rfl; have hfzB2 := blk_frozen BKB.out 2; have hczB3 : wc.cell? ⟨gB, 3, none⟩ = some (.int .i16 8) := (blk_cell BKB.out 3).trans rfl; have hfzB3 := blk_frozen BKB.out 3; have hczB4 : wc.cell? ⟨gB, 4, none⟩ = some (.int .i32 0) := (blk_cell BKB.out 4).trans rfl; have hfzB4 := blk_frozen BKB.out 4
        have hczD0 : wc.cell? ⟨gD, 0, none⟩ = some (.int .u8 183) := (blk_cell BKD.out 0).trans rfl; have hfzD0 := blk_frozen BKD.out 0; have hczD1 : wc.cell? ⟨gD, 1, none⟩ = some (.int .u8 10) := (blk_cell BKD.out 1).trans rfl; have hfzD1 := blk_frozen BKD.out 1; have hczD2 : wc.cell? ⟨gD, 2, none⟩ = some (.int .u8 0) := (blk_cell BKD.out 2).trans rfl; have hfzD2 := blk_frozen BKD.out 2; have hczD3 : wc.cell? ⟨gD, 3, none⟩ = some (.int .i16 0) := (blk_cell BKD.out 3).trans rfl; have hfzD3 := blk_frozen BKD.out 3; have hczD4 : wc.cell? ⟨gD, 4, none⟩ = some (.int .i32 5) := (blk_cell BKD.out 4).trans rfl; have hfzD4 := blk_frozen BKD.out 4
        go_wp2_with (first | (go_at_call 19; (with_reducible refine (insn_Kind.calls 40 183 1 0 0 5 1 _ alive_kA).mono ?_); rintro e x1 ⟨rfl, hb⟩; have n_A := am (blk_below (g := gA) (o := aA) (by (with_reducible repeat (first | refine blk_drewN ?_ _ | refine blk_drew ?_ | refine blk_alloc ?_ _)); exact BKA.out) hb); have n_B := am (blk_below (g := gB) (o := aB) (by (with_reducible repeat (first | refine blk_drewN ?_ _ | refine blk_drew ?_ | refine blk_alloc ?_ _)); exact BKB.out) hb); have n_D := am (blk_below (g := gD) (o := aD) (by (with_reducible repeat (first | refine blk_drewN ?_ _ | refine blk_drew ?_ | refine blk_alloc ?_ _)); exact BKD.out) hb); have n_ := am (below_step (by repeat (first | exact HB.out | apply pb | apply pa | apply pd)) hb); clear BKA; have BKA := n_A; clear n_A; clear BKB; have BKB := n_B; clear n_B; clear BKD; have BKD := n_D; clear n_D; clear HB; have HB := n_; clear n_; (try clear hb); have hczA0 : x1.cell? ⟨gA, 0, none⟩ = some (.int .u8 183) := (blk_cell BKA.out 0).trans rfl; have hfzA0 := blk_frozen BKA.out 0; have hczA1 : x1.cell? ⟨gA, 1, none⟩ = some (.int .u8 1) := (blk_cell BKA.out 1).trans rfl; have hfzA1 := blk_frozen BKA.out 1; have hczA2 : x1.cell? ⟨gA, 2, none⟩ = some (.int .u8 0) := (blk_cell BKA.out 2).trans rfl; have hfzA2 := blk_frozen BKA.out 2; have hczA3 : x1.cell? ⟨gA, 3, none⟩ = some (.int .i16 0) := (blk_cell BKA.out 3).trans rfl; have hfzA3 := blk_frozen BKA.out 3; have hczA4 : x1.cell? ⟨gA, 4, none⟩ = some (.int .i32 5) := (blk_cell BKA.out 4).trans rfl; have hfzA4 := blk_frozen BKA.out 4; have hczB0 : x1.cell? ⟨gB, 0, none⟩ = some (.int .u8 121) := (blk_cell BKB.out 0).trans rfl; have hfzB0 := blk_frozen BKB.out 0; have hczB1 : x1.cell? ⟨gB, 1, none⟩ = some (.int .u8 1) := (blk_cell BKB.out 1).trans rfl; have hfzB1 := blk_frozen BKB.out 1; have hczB2 : x1.cell? ⟨gB, 2, none⟩ = some (.int .u8 2) := (blk_cell BKB.out 2).trans rfl; have hfzB2 := blk_frozen BKB.out 2; have hczB3 : x1.cell? ⟨gB, 3, none⟩ = some (.int .i16 8) := (blk_cell BKB.out 3).trans rfl; have hfzB3 := blk_frozen BKB.out 3; have hczB4 : x1.cell? ⟨gB, 4, none⟩ = some (.int .i32 0) := (blk_cell BKB.out 4).trans rfl; have hfzB4 := blk_frozen BKB.out 4; have hczD0 : x1.cell? ⟨gD, 0, none⟩ = some (.int .u8 183) := (blk_cell BKD.out 0).trans rfl; have hfzD0 := blk_frozen BKD.out 0; have hczD1 : x1.cell? ⟨gD, 1, none⟩ = some (.int .u8 10) := (blk_cell BKD.out 1).trans rfl; have hfzD1 := blk_frozen BKD.out 1; have hczD2 : x1.cell? ⟨gD, 2, none⟩ = some (.int .u8 0) := (blk_cell BKD.out 2).trans rfl; have hfzD2 := blk_frozen BKD.out 2; have hczD3 : x1.cell? ⟨gD, 3, none⟩ = some (.int .i16 0) := (blk_cell BKD.out 3).trans rfl; have hfzD3 := blk_frozen BKD.out 3; have hczD4 : x1.cell? ⟨gD, 4, none⟩ = some (.int .i32 5) := (blk_cell BKD.out 4).trans rfl; have hfzD4 := blk_frozen BKD.out 4) | (go_at_call 25; (with_reducible refine (insn_Wide.calls 40 183 1 0 0 5 true _ alive_wA).mono ?_); rintro e x2 ⟨rfl, hb⟩; have n_A := am (blk_below (g := gA) (o := aA) (by (with_reducible repeat (first | refine blk_drewN ?_ _ | refine blk_drew ?_ | refine blk_alloc ?_ _)); exact BKA.out) hb); have n_B := am (blk_below (g := gB) (o := aB) (by (with_reducible repeat (first | refine blk_drewN ?_ _ | refine blk_drew ?_ | refine blk_alloc ?_ _)); exact BKB.out) hb); have n_D := am (blk_below (g := gD) (o := aD) (by (with_reducible repeat (first | refine blk_drewN ?_ _ | refine blk_drew ?_ | refine blk_alloc ?_ _)); exact BKD.out) hb); have n_ := am (below_step (by repeat (first | exact HB.out | apply pb | apply pa | apply pd)) hb); clear BKA; have BKA := n_A; clear n_A; clear BKB; have BKB := n_B; clear n_B; clear BKD; have BKD := n_D; clear n_D; clear HB; have HB := n_; clear n_; (try clear hb); have hczA0 : x2.cell? ⟨gA, 0, none⟩ = some (.int .u8 183) := (blk_cell BKA.out 0).trans rfl; have hfzA0 := blk_frozen BKA.out 0; have hczA1 : x2.cell? ⟨gA, 1, none⟩ = some (.int .u8 1) := (blk_cell BKA.out 1).trans rfl; have hfzA1 := blk_frozen BKA.out 1; have hczA2 : x2.cell? ⟨gA, 2, none⟩ = some (.int .u8 0) := (blk_cell BKA.out 2).trans rfl; have hfzA2 := blk_frozen BKA.out 2; have hczA3 : x2.cell? ⟨gA, 3, none⟩ = some (.int .i16 0) := (blk_cell BKA.out 3).trans rfl; have hfzA3 := blk_frozen BKA.out 3; have hczA4 : x2.cell? ⟨gA, 4, none⟩ = some (.int .i32 5) := (blk_cell BKA.out 4).trans rfl; have hfzA4 := blk_frozen BKA.out 4; have hczB0 : x2.cell? ⟨gB, 0, none⟩ = some (.int .u8 121) := (blk_cell BKB.out 0).trans rfl; have hfzB0 := blk_frozen BKB.out 0; have hczB1 : x2.cell? ⟨gB, 1, none⟩ = some (.int .u8 1) := (blk_cell BKB.out 1).trans rfl; have hfzB1 := blk_frozen BKB.out 1; have hczB2 : x2.cell? ⟨gB, 2, none⟩ = some (.int .u8 2) := (blk_cell BKB.out 2).trans rfl; have hfzB2 := blk_frozen BKB.out 2; have hczB3 : x2.cell? ⟨gB, 3, none⟩ = some (.int .i16 8) := (blk_cell BKB.out 3).trans rfl; have hfzB3 := blk_frozen BKB.out 3; have hczB4 : x2.cell? ⟨gB, 4, none⟩ = some (.int .i32 0) := (blk_cell BKB.out 4).trans rfl; have hfzB4 := blk_frozen BKB.out 4; have hczD0 : x2.cell? ⟨gD, 0, none⟩ = some (.int .u8 183) := (blk_cell BKD.out 0).trans rfl; have hfzD0 := blk_frozen BKD.out 0; have hczD1 : x2.cell? ⟨gD, 1, none⟩ = some (.int .u8 10) := (blk_cell BKD.out 1).trans rfl; have hfzD1 := blk_frozen BKD.out 1; have hczD2 : x2.cell? ⟨gD, 2, none⟩ = some (.int .u8 0) := (blk_cell BKD.out 2).trans rfl; have hfzD2 := blk_frozen BKD.out 2; have hczD3 : x2.cell? ⟨gD, 3, none⟩ = some (.int .i16 0) := (blk_cell BKD.out 3).trans rfl; have hfzD3 := blk_frozen BKD.out 3; have hczD4 : x2.cell? ⟨gD, 4, none⟩ = some (.int .i32 5) := (blk_cell BKD.out 4).trans rfl; have hfzD4 := blk_frozen BKD.out 4) | (go_at_call 30; (with_reducible refine (insn_Reads.calls 40 183 1 0 0 5 [] _ alive_rA).mono ?_); rintro e x3 ⟨vr, rfl, ho0, hb⟩; obtain ⟨Ao, co, rfl⟩ := Kd.R_slice ho0; clear ho0; have n_A := am (blk_below (g := gA) (o := aA) (by (with_reducible repeat (first | refine blk_drewN ?_ _ | refine blk_drew ?_ | refine blk_alloc ?_ _)); exact BKA.out) hb); have n_B := am (blk_below (g := gB) (o := aB) (by (with_reducible repeat (first | refine blk_drewN ?_ _ | refine blk_drew ?_ | refine blk_alloc ?_ _)); exact BKB.out) hb); have n_D := am (blk_below (g := gD) (o := aD) (by (with_reducible repeat (first | refine blk_drewN ?_ _ | refine blk_drew ?_ | refine blk_alloc ?_ _)); exact BKD.out) hb); have n_ := am (below_step (by repeat (first | exact HB.out | apply pb | apply pa | apply pd)) hb); clear BKA; have BKA := n_A; clear n_A; clear BKB; have BKB := n_B; clear n_B; clear BKD; have BKD := n_D; clear n_D; clear HB; have HB := n_; clear n_; (try clear hb); have hczA0 : x3.cell? ⟨gA, 0, none⟩ = some (.int .u8 183) := (blk_cell BKA.out 0).trans rfl; have hfzA0 := blk_frozen BKA.out 0; have hczA1 : x3.cell? ⟨gA, 1, none⟩ = some (.int .u8 1) := (blk_cell BKA.out 1).trans rfl; have hfzA1 := blk_frozen BKA.out 1; have hczA2 : x3.cell? ⟨gA, 2, none⟩ = some (.int .u8 0) := (blk_cell BKA.out 2).trans rfl; have hfzA2 := blk_frozen BKA.out 2; have hczA3 : x3.cell? ⟨gA, 3, none⟩ = some (.int .i16 0) := (blk_cell BKA.out 3).trans rfl; have hfzA3 := blk_frozen BKA.out 3; have hczA4 : x3.cell? ⟨gA, 4, none⟩ = some (.int .i32 5) := (blk_cell BKA.out 4).trans rfl; have hfzA4 := blk_frozen BKA.out 4; have hczB0 : x3.cell? ⟨gB, 0, none⟩ = some (.int .u8 121) := (blk_cell BKB.out 0).trans rfl; have hfzB0 := blk_frozen BKB.out 0; have hczB1 : x3.cell? ⟨gB, 1, none⟩ = some (.int .u8 1) := (blk_cell BKB.out 1).trans rfl; have hfzB1 := blk_frozen BKB.out 1; have hczB2 : x3.cell? ⟨gB, 2, none⟩ = some (.int .u8 2) := (blk_cell BKB.out 2).trans rfl; have hfzB2 := blk_frozen BKB.out 2; have hczB3 : x3.cell? ⟨gB, 3, none⟩ = some (.int .i16 8) := (blk_cell BKB.out 3).trans rfl; have hfzB3 := blk_frozen BKB.out 3; have hczB4 : x3.cell? ⟨gB, 4, none⟩ = some (.int .i32 0) := (blk_cell BKB.out 4).trans rfl; have hfzB4 := blk_frozen BKB.out 4; have hczD0 : x3.cell? ⟨gD, 0, none⟩ = some (.int .u8 183) := (blk_cell BKD.out 0).trans rfl; have hfzD0 := blk_frozen BKD.out 0; have hczD1 : x3.cell? ⟨gD, 1, none⟩ = some (.int .u8 10) := (blk_cell BKD.out 1).trans rfl; have hfzD1 := blk_frozen BKD.out 1; have hczD2 : x3.cell? ⟨gD, 2, none⟩ = some (.int .u8 0) := (blk_cell BKD.out 2).trans rfl; have hfzD2 := blk_frozen BKD.out 2; have hczD3 : x3.cell? ⟨gD, 3, none⟩ = some (.int .i16 0) := (blk_cell BKD.out 3).trans rfl; have hfzD3 := blk_frozen BKD.out 3; have hczD4 : x3.cell? ⟨gD, 4, none⟩ = some (.int .i32 5) := (blk_cell BKD.out 4).trans rfl; have hfzD4 := blk_frozen BKD.out 4) | (go_at_call 19; (with_reducible refine (insn_Kind.calls 40 121 1 2 8 0 2 _ alive_kB).mono ?_); rintro e x4 ⟨rfl, hb⟩; have n_A := am (blk_below (g := gA) (o := aA) (by (with_reducible repeat (first | refine blk_drewN ?_ _ | refine blk_drew ?_ | refine blk_alloc ?_ _)); exact BKA.out) hb); have n_B := am (blk_below (g := gB) (o := aB) (by (with_reducible repeat (first | refine blk_drewN ?_ _ | refine blk_drew ?_ | refine blk_alloc ?_ _)); exact BKB.out) hb); have n_D := am (blk_below (g := gD) (o := aD) (by (with_reducible repeat (first | refine blk_drewN ?_ _ | refine blk_drew ?_ | refine blk_alloc ?_ _)); exact BKD.out) hb); have n_ := am (below_step (by repeat (first | exact HB.out | apply pb | apply pa | apply pd)) hb); clear BKA; have BKA := n_A; clear n_A; clear BKB; have BKB := n_B; clear n_B; clear BKD; have BKD := n_D; clear n_D; clear HB; have HB := n_; clear n_; (try clear hb); have hczA0 : x4.cell? ⟨gA, 0, none⟩ = some (.int .u8 183) := (blk_cell BKA.out 0).trans rfl; have hfzA0 := blk_frozen BKA.out 0; have hczA1 : x4.cell? ⟨gA, 1, none⟩ = some (.int .u8 1) := (blk_cell BKA.out 1).trans rfl; have hfzA1 := blk_frozen BKA.out 1; have hczA2 : x4.cell? ⟨gA, 2, none⟩ = some (.int .u8 0) := (blk_cell BKA.out 2).trans rfl; have hfzA2 := blk_frozen BKA.out 2; have hczA3 : x4.cell? ⟨gA, 3, none⟩ = some (.int .i16 0) := (blk_cell BKA.out 3).trans rfl; have hfzA3 := blk_frozen BKA.out 3; have hczA4 : x4.cell? ⟨gA, 4, none⟩ = some (.int .i32 5) := (blk_cell BKA.out 4).trans rfl; have hfzA4 := blk_frozen BKA.out 4; have hczB0 : x4.cell? ⟨gB, 0, none⟩ = some (.int .u8 121) := (blk_cell BKB.out 0).trans rfl; have hfzB0 := blk_frozen BKB.out 0; have hczB1 : x4.cell? ⟨gB, 1, none⟩ = some (.int .u8 1) := (blk_cell BKB.out 1).trans rfl; have hfzB1 := blk_frozen BKB.out 1; have hczB2 : x4.cell? ⟨gB, 2, none⟩ = some (.int .u8 2) := (blk_cell BKB.out 2).trans rfl; have hfzB2 := blk_frozen BKB.out 2; have hczB3 : x4.cell? ⟨gB, 3, none⟩ = some (.int .i16 8) := (blk_cell BKB.out 3).trans rfl; have hfzB3 := blk_frozen BKB.out 3; have hczB4 : x4.cell? ⟨gB, 4, none⟩ = some (.int .i32 0) := (blk_cell BKB.out 4).trans rfl; have hfzB4 := blk_frozen BKB.out 4; have hczD0 : x4.cell? ⟨gD, 0, none⟩ = some (.int .u8 183) := (blk_cell BKD.out 0).trans rfl; have hfzD0 := blk_frozen BKD.out 0; have hczD1 : x4.cell? ⟨gD, 1, none⟩ = some (.int .u8 10) := (blk_cell BKD.out 1).trans rfl; have hfzD1 := blk_frozen BKD.out 1; have hczD2 : x4.cell? ⟨gD, 2, none⟩ = some (.int .u8 0) := (blk_cell BKD.out 2).trans rfl; have hfzD2 := blk_frozen BKD.out 2; have hczD3 : x4.cell? ⟨gD, 3, none⟩ = some (.int .i16 0) := (blk_cell BKD.out 3).trans rfl; have hfzD3 := blk_frozen BKD.out 3; have hczD4 : x4.cell? ⟨gD, 4, none⟩ = some (.int .i32 5) := (blk_cell BKD.out 4).trans rfl; have hfzD4 := blk_frozen BKD.out 4) | (go_at_call 23; (with_reducible refine (insn_Size.calls 40 121 1 2 8 0 8 _ alive_sB).mono ?_); rintro e x5 ⟨rfl, hb⟩; have n_A := am (blk_below (g := gA) (o := aA) (by (with_reducible repeat (first | refine blk_drewN ?_ _ | refine blk_drew ?_ | refine blk_alloc ?_ _)); exact BKA.out) hb); have n_B := am (blk_below (g := gB) (o := aB) (by (with_reducible repeat (first | refine blk_drewN ?_ _ | refine blk_drew ?_ | refine blk_alloc ?_ _)); exact BKB.out) hb); have n_D := am (blk_below (g := gD) (o := aD) (by (with_reducible repeat (first | refine blk_drewN ?_ _ | refine blk_drew ?_ | refine blk_alloc ?_ _)); exact BKD.out) hb); have n_ := am (below_step (by repeat (first | exact HB.out | apply pb | apply pa | apply pd)) hb); clear BKA; have BKA := n_A; clear n_A; clear BKB; have BKB := n_B; clear n_B; clear BKD; have BKD := n_D; clear n_D; clear HB; have HB := n_; clear n_; (try clear hb); have hczA0 : x5.cell? ⟨gA, 0, none⟩ = some (.int .u8 183) := (blk_cell BKA.out 0).trans rfl; have hfzA0 := blk_frozen BKA.out 0; have hczA1 : x5.cell? ⟨gA, 1, none⟩ = some (.int .u8 1) := (blk_cell BKA.out 1).trans rfl; have hfzA1 := blk_frozen BKA.out 1; have hczA2 : x5.cell? ⟨gA, 2, none⟩ = some (.int .u8 0) := (blk_cell BKA.out 2).trans rfl; have hfzA2 := blk_frozen BKA.out 2; have hczA3 : x5.cell? ⟨gA, 3, none⟩ = some (.int .i16 0) := (blk_cell BKA.out 3).trans rfl; have hfzA3 := blk_frozen BKA.out 3; have hczA4 : x5.cell? ⟨gA, 4, none⟩ = some (.int .i32 5) := (blk_cell BKA.out 4).trans rfl; have hfzA4 := blk_frozen BKA.out 4; have hczB0 : x5.cell? ⟨gB, 0, none⟩ = some (.int .u8 121) := (blk_cell BKB.out 0).trans rfl; have hfzB0 := blk_frozen BKB.out 0; have hczB1 : x5.cell? ⟨gB, 1, none⟩ = some (.int .u8 1) := (blk_cell BKB.out 1).trans rfl; have hfzB1 := blk_frozen BKB.out 1; have hczB2 : x5.cell? ⟨gB, 2, none⟩ = some (.int .u8 2) := (blk_cell BKB.out 2).trans rfl; have hfzB2 := blk_frozen BKB.out 2; have hczB3 : x5.cell? ⟨gB, 3, none⟩ = some (.int .i16 8) := (blk_cell BKB.out 3).trans rfl; have hfzB3 := blk_frozen BKB.out 3; have hczB4 : x5.cell? ⟨gB, 4, none⟩ = some (.int .i32 0) := (blk_cell BKB.out 4).trans rfl; have hfzB4 := blk_frozen BKB.out 4; have hczD0 : x5.cell? ⟨gD, 0, none⟩ = some (.int .u8 183) := (blk_cell BKD.out 0).trans rfl; have hfzD0 := blk_frozen BKD.out 0; have hczD1 : x5.cell? ⟨gD, 1, none⟩ = some (.int .u8 10) := (blk_cell BKD.out 1).trans rfl; have hfzD1 := blk_frozen BKD.out 1; have hczD2 : x5.cell? ⟨gD, 2, none⟩ = some (.int .u8 0) := (blk_cell BKD.out 2).trans rfl; have hfzD2 := blk_frozen BKD.out 2; have hczD3 : x5.cell? ⟨gD, 3, none⟩ = some (.int .i16 0) := (blk_cell BKD.out 3).trans rfl; have hfzD3 := blk_frozen BKD.out 3; have hczD4 : x5.cell? ⟨gD, 4, none⟩ = some (.int .i32 5) := (blk_cell BKD.out 4).trans rfl; have hfzD4 := blk_frozen BKD.out 4) | (go_at_call 19; (with_reducible refine (insn_Kind.calls 40 183 10 0 0 5 0 _ alive_kD).mono ?_); rintro e x6 ⟨rfl, hb⟩; have n_A := am (blk_below (g := gA) (o := aA) (by (with_reducible repeat (first | refine blk_drewN ?_ _ | refine blk_drew ?_ | refine blk_alloc ?_ _)); exact BKA.out) hb); have n_B := am (blk_below (g := gB) (o := aB) (by (with_reducible repeat (first | refine blk_drewN ?_ _ | refine blk_drew ?_ | refine blk_alloc ?_ _)); exact BKB.out) hb); have n_D := am (blk_below (g := gD) (o := aD) (by (with_reducible repeat (first | refine blk_drewN ?_ _ | refine blk_drew ?_ | refine blk_alloc ?_ _)); exact BKD.out) hb); have n_ := am (below_step (by repeat (first | exact HB.out | apply pb | apply pa | apply pd)) hb); clear BKA; have BKA := n_A; clear n_A; clear BKB; have BKB := n_B; clear n_B; clear BKD; have BKD := n_D; clear n_D; clear HB; have HB := n_; clear n_; (try clear hb); have hczA0 : x6.cell? ⟨gA, 0, none⟩ = some (.int .u8 183) := (blk_cell BKA.out 0).trans rfl; have hfzA0 := blk_frozen BKA.out 0; have hczA1 : x6.cell? ⟨gA, 1, none⟩ = some (.int .u8 1) := (blk_cell BKA.out 1).trans rfl; have hfzA1 := blk_frozen BKA.out 1; have hczA2 : x6.cell? ⟨gA, 2, none⟩ = some (.int .u8 0) := (blk_cell BKA.out 2).trans rfl; have hfzA2 := blk_frozen BKA.out 2; have hczA3 : x6.cell? ⟨gA, 3, none⟩ = some (.int .i16 0) := (blk_cell BKA.out 3).trans rfl; have hfzA3 := blk_frozen BKA.out 3; have hczA4 : x6.cell? ⟨gA, 4, none⟩ = some (.int .i32 5) := (blk_cell BKA.out 4).trans rfl; have hfzA4 := blk_frozen BKA.out 4; have hczB0 : x6.cell? ⟨gB, 0, none⟩ = some (.int .u8 121) := (blk_cell BKB.out 0).trans rfl; have hfzB0 := blk_frozen BKB.out 0; have hczB1 : x6.cell? ⟨gB, 1, none⟩ = some (.int .u8 1) := (blk_cell BKB.out 1).trans rfl; have hfzB1 := blk_frozen BKB.out 1; have hczB2 : x6.cell? ⟨gB, 2, none⟩ = some (.int .u8 2) := (blk_cell BKB.out 2).trans rfl; have hfzB2 := blk_frozen BKB.out 2; have hczB3 : x6.cell? ⟨gB, 3, none⟩ = some (.int .i16 8) := (blk_cell BKB.out 3).trans rfl; have hfzB3 := blk_frozen BKB.out 3; have hczB4 : x6.cell? ⟨gB, 4, none⟩ = some (.int .i32 0) := (blk_cell BKB.out 4).trans rfl; have hfzB4 := blk_frozen BKB.out 4; have hczD0 : x6.cell? ⟨gD, 0, none⟩ = some (.int .u8 183) := (blk_cell BKD.out 0).trans rfl; have hfzD0 := blk_frozen BKD.out 0; have hczD1 : x6.cell? ⟨gD, 1, none⟩ = some (.int .u8 10) := (blk_cell BKD.out 1).trans rfl; have hfzD1 := blk_frozen BKD.out 1; have hczD2 : x6.cell? ⟨gD, 2, none⟩ = some (.int .u8 0) := (blk_cell BKD.out 2).trans rfl; have hfzD2 := blk_frozen BKD.out 2; have hczD3 : x6.cell? ⟨gD, 3, none⟩ = some (.int .i16 0) := (blk_cell BKD.out 3).trans rfl; have hfzD3 := blk_frozen BKD.out 3; have hczD4 : x6.cell? ⟨gD, 4, none⟩ = some (.int .i32 5) := (blk_cell BKD.out 4).trans rfl; have hfzD4 := blk_frozen BKD.out 4) | (go_at_call 19; (with_reducible refine (insn_Kind.calls 40 149 0 0 0 0 8 _ alive_kX).mono ?_); rintro e x7 ⟨rfl, hb⟩; have n_A := am (blk_below (g := gA) (o := aA) (by (with_reducible repeat (first | refine blk_drewN ?_ _ | refine blk_drew ?_ | refine blk_alloc ?_ _)); exact BKA.out) hb); have n_B := am (blk_below (g := gB) (o := aB) (by (with_reducible repeat (first | refine blk_drewN ?_ _ | refine blk_drew ?_ | refine blk_alloc ?_ _)); exact BKB.out) hb); have n_D := am (blk_below (g := gD) (o := aD) (by (with_reducible repeat (first | refine blk_drewN ?_ _ | refine blk_drew ?_ | refine blk_alloc ?_ _)); exact BKD.out) hb); have n_ := am (below_step (by repeat (first | exact HB.out | apply pb | apply pa | apply pd)) hb); clear BKA; have BKA := n_A; clear n_A; clear BKB; have BKB := n_B; clear n_B; clear BKD; have BKD := n_D; clear n_D; clear HB; have HB := n_; clear n_; (try clear hb); have hczA0 : x7.cell? ⟨gA, 0, none⟩ = some (.int .u8 183) := (blk_cell BKA.out 0).trans rfl; have hfzA0 := blk_frozen BKA.out 0; have hczA1 : x7.cell? ⟨gA, 1, none⟩ = some (.int .u8 1) := (blk_cell BKA.out 1).trans rfl; have hfzA1 := blk_frozen BKA.out 1; have hczA2 : x7.cell? ⟨gA, 2, none⟩ = some (.int .u8 0) := (blk_cell BKA.out 2).trans rfl; have hfzA2 := blk_frozen BKA.out 2; have hczA3 : x7.cell? ⟨gA, 3, none⟩ = some (.int .i16 0) := (blk_cell BKA.out 3).trans rfl; have hfzA3 := blk_frozen BKA.out 3; have hczA4 : x7.cell? ⟨gA, 4, none⟩ = some (.int .i32 5) := (blk_cell BKA.out 4).trans rfl; have hfzA4 := blk_frozen BKA.out 4; have hczB0 : x7.cell? ⟨gB, 0, none⟩ = some (.int .u8 121) := (blk_cell BKB.out 0).trans rfl; have hfzB0 := blk_frozen BKB.out 0; have hczB1 : x7.cell? ⟨gB, 1, none⟩ = some (.int .u8 1) := (blk_cell BKB.out 1).trans rfl; have hfzB1 := blk_frozen BKB.out 1; have hczB2 : x7.cell? ⟨gB, 2, none⟩ = some (.int .u8 2) := (blk_cell BKB.out 2).trans rfl; have hfzB2 := blk_frozen BKB.out 2; have hczB3 : x7.cell? ⟨gB, 3, none⟩ = some (.int .i16 8) := (blk_cell BKB.out 3).trans rfl; have hfzB3 := blk_frozen BKB.out 3; have hczB4 : x7.cell? ⟨gB, 4, none⟩ = some (.int .i32 0) := (blk_cell BKB.out 4).trans rfl; have hfzB4 := blk_frozen BKB.out 4; have hczD0 : x7.cell? ⟨gD, 0, none⟩ = some (.int .u8 183) := (blk_cell BKD.out 0).trans rfl; have hfzD0 := blk_frozen BKD.out 0; have hczD1 : x7.cell? ⟨gD, 1, none⟩ = some (.int .u8 10) := (blk_cell BKD.out 1).trans rfl; have hfzD1 := blk_frozen BKD.out 1; have hczD2 : x7.cell? ⟨gD, 2, none⟩ = some (.int .u8 0) := (blk_cell BKD.out 2).trans rfl; have hfzD2 := blk_frozen BKD.out 2; have hczD3 : x7.cell? ⟨gD, 3, none⟩ = some (.int .i16 0) := (blk_cell BKD.out 3).trans rfl; have hfzD3 := blk_frozen BKD.out 3; have hczD4 : x7.cell? ⟨gD, 4, none⟩ = some (.int .i32 5) := (blk_cell BKD.out 4).trans rfl; have hfzD4 := blk_frozen BKD.out 4) | (go_at_call 17; (with_reducible refine (insn_Encode.calls 40 183 1 0 0 5 (⟨#[183, 1, 0, 0, 5, 0, 0, 0]⟩ : ByteArray) _ alive_eA).mono ?_); rintro e x8 ⟨rfl, hb⟩; have n_A := am (blk_below (g := gA) (o := aA) (by (with_reducible repeat (first | refine blk_drewN ?_ _ | refine blk_drew ?_ | refine blk_alloc ?_ _)); exact BKA.out) hb); have n_B := am (blk_below (g := gB) (o := aB) (by (with_reducible repeat (first | refine blk_drewN ?_ _ | refine blk_drew ?_ | refine blk_alloc ?_ _)); exact BKB.out) hb); have n_D := am (blk_below (g := gD) (o := aD) (by (with_reducible repeat (first | refine blk_drewN ?_ _ | refine blk_drew ?_ | refine blk_alloc ?_ _)); exact BKD.out) hb); have n_ := am (below_step (by repeat (first | exact HB.out | apply pb | apply pa | apply pd)) hb); clear BKA; have BKA := n_A; clear n_A; clear BKB; have BKB := n_B; clear n_B; clear BKD; have BKD := n_D; clear n_D; clear HB; have HB := n_; clear n_; (try clear hb); have hczA0 : x8.cell? ⟨gA, 0, none⟩ = some (.int .u8 183) := (blk_cell BKA.out 0).trans rfl; have hfzA0 := blk_frozen BKA.out 0; have hczA1 : x8.cell? ⟨gA, 1, none⟩ = some (.int .u8 1) := (blk_cell BKA.out 1).trans rfl; have hfzA1 := blk_frozen BKA.out 1; have hczA2 : x8.cell? ⟨gA, 2, none⟩ = some (.int .u8 0) := (blk_cell BKA.out 2).trans rfl; have hfzA2 := blk_frozen BKA.out 2; have hczA3 : x8.cell? ⟨gA, 3, none⟩ = some (.int .i16 0) := (blk_cell BKA.out 3).trans rfl; have hfzA3 := blk_frozen BKA.out 3; have hczA4 : x8.cell? ⟨gA, 4, none⟩ = some (.int .i32 5) := (blk_cell BKA.out 4).trans rfl; have hfzA4 := blk_frozen BKA.out 4; have hczB0 : x8.cell? ⟨gB, 0, none⟩ = some (.int .u8 121) := (blk_cell BKB.out 0).trans rfl; have hfzB0 := blk_frozen BKB.out 0; have hczB1 : x8.cell? ⟨gB, 1, none⟩ = some (.int .u8 1) := (blk_cell BKB.out 1).trans rfl; have hfzB1 := blk_frozen BKB.out 1; have hczB2 : x8.cell? ⟨gB, 2, none⟩ = some (.int .u8 2) := (blk_cell BKB.out 2).trans rfl; have hfzB2 := blk_frozen BKB.out 2; have hczB3 : x8.cell? ⟨gB, 3, none⟩ = some (.int .i16 8) := (blk_cell BKB.out 3).trans rfl; have hfzB3 := blk_frozen BKB.out 3; have hczB4 : x8.cell? ⟨gB, 4, none⟩ = some (.int .i32 0) := (blk_cell BKB.out 4).trans rfl; have hfzB4 := blk_frozen BKB.out 4; have hczD0 : x8.cell? ⟨gD, 0, none⟩ = some (.int .u8 183) := (blk_cell BKD.out 0).trans rfl; have hfzD0 := blk_frozen BKD.out 0; have hczD1 : x8.cell? ⟨gD, 1, none⟩ = some (.int .u8 10) := (blk_cell BKD.out 1).trans rfl; have hfzD1 := blk_frozen BKD.out 1; have hczD2 : x8.cell? ⟨gD, 2, none⟩ = some (.int .u8 0) := (blk_cell BKD.out 2).trans rfl; have hfzD2 := blk_frozen BKD.out 2; have hczD3 : x8.cell? ⟨gD, 3, none⟩ = some (.int .i16 0) := (blk_cell BKD.out 3).trans rfl; have hfzD3 := blk_frozen BKD.out 3; have hczD4 : x8.cell? ⟨gD, 4, none⟩ = some (.int .i32 5) := (blk_cell BKD.out 4).trans rfl; have hfzD4 := blk_frozen BKD.out 4))
        go_ret
        exact ⟨rfl, by repeat (first | exact HB.out | apply pb | apply pa | apply pd)⟩
/-! ### wardenref01_May: function 92 -/
def wardenref01_May.f (a0 : Int) : Option (Bool) := if a0 = 1 then (some true) else (if a0 = 2 then (some true) else (if a0 = 4 then (some true) else (some (a0 == 8))))
set_option maxHeartbeats 8000000 in
set_option maxRecDepth 100000 in
theorem wardenref01_May.calls (a0 : Int) (r : Bool) (w : World) (h : wardenref01_May.f a0 = some r) :
  Calls Try.prog 92 #[.int .i64 a0] w fun e w' => e = .returned (.bool r) ∧ Drawn0 w w' := by
 have H : (if a0 = 1 then (some true) else (if a0 = 2 then (some true) else (if a0 = 4 then (some true) else (some (a0 == 8))))) = some r := h
 clear h
 by_cases c2 : a0 = 1
 ·rw [if_pos c2] at H
  have c2b0 : (a0 == 1) = true := beq_iff_eq.mpr c2
  have c2b1 : (a0 != 1) = false := bne_eq_false_iff_eq.mpr c2
  clear c2
  obtain rfl := Option.some.inj H
  go_enter Try.func92, Try.ntmps92
  go_wp2
  go_ret
  exact ⟨by first | rfl | (simp; done) | (simp [*]; done), by repeat (first | exact Drawn0.refl _ | apply Drawn0.step)⟩
 ·rw [if_neg c2] at H
  have c2b0 : (a0 == 1) = false := beq_eq_false_iff_ne.mpr c2
  have c2b1 : (a0 != 1) = true := bne_iff_ne.mpr c2
  by_cases c3 : a0 = 2
  ·rw [if_pos c3] at H
   have c3b0 : (a0 == 2) = true := beq_iff_eq.mpr c3
   have c3b1 : (a0 != 2) = false := bne_eq_false_iff_eq.mpr c3
   clear c3
   obtain rfl := Option.some.inj H
   go_enter Try.func92, Try.ntmps92
   go_wp2
   go_ret
   exact ⟨by first | rfl | (simp; done) | (simp [*]; done), by repeat (first | exact Drawn0.refl _ | apply Drawn0.step)⟩
  ·rw [if_neg c3] at H
   have c3b0 : (a0 == 2) = false := beq_eq_false_iff_ne.mpr c3
   have c3b1 : (a0 != 2) = true := bne_iff_ne.mpr c3
   by_cases c4 : a0 = 4
   ·rw [if_pos c4] at H
    have c4b0 : (a0 == 4) = true := beq_iff_eq.mpr c4
    have c4b1 : (a0 != 4) = false := bne_eq_false_iff_eq.mpr c4
    clear c4
    obtain rfl := Option.some.inj H
    go_enter Try.func92, Try.ntmps92
    go_wp2
    go_ret
    exact ⟨by first | rfl | (simp; done) | (simp [*]; done), by repeat (first | exact Drawn0.refl _ | apply Drawn0.step)⟩
   ·rw [if_neg c4] at H
    have c4b0 : (a0 == 4) = false := beq_eq_false_iff_ne.mpr c4
    have c4b1 : (a0 != 4) = true := bne_iff_ne.mpr c4
    obtain rfl := Option.some.inj H
    go_enter Try.func92, Try.ntmps92
    go_wp2
    go_ret
    exact ⟨by first | rfl | (simp; done) | (simp [*]; done), by repeat (first | exact Drawn0.refl _ | apply Drawn0.step)⟩

/-! ### wardenref01_Get: function 46 -/
mutual
def wardenref01_Get.j0 : Nat → ByteArray → Int → Int → Bool → Option (Int × Int)
 | 0, _, _, _, _ => none
 | k + 1, x0, x1, x2, x16 => if x16 = true then (some (0, 2)) else (if x1 > (x0.size : Int) then (wardenref01_Get.j1 k x0 x1 x2 true) else (wardenref01_Get.j1 k x0 x1 x2 (decide ((wrap64 ((x0.size : Int) - x1)) < x2))))
def wardenref01_Get.j1 : Nat → ByteArray → Int → Int → Bool → Option (Int × Int)
 | 0, _, _, _, _ => none
 | k + 1, x0, x1, x2, x28 => if x28 = true then (some (0, 10)) else (wardenref01_Get.l0 k x0 x1 0 (wrap64 (x2 - 1)))
def wardenref01_Get.l0 : Nat → ByteArray → Int → Int → Int → Option (Int × Int)
 | 0, _, _, _, _ => none
 | k + 1, x0, x1, x8, x9 => if x9 ≥ 0 then (if 0 ≤ (wrap64 (x1 + x9)) then (if (wrap64 (x1 + x9)) < (x0.size : Int) then (wardenref01_Get.l0 k x0 x1 (IntKind.u64.wrap ((IntKind.u64.wrap (256 * x8)) + (IntKind.u64.wrap (bt x0 (wrap64 (x1 + x9)))))) (wrap64 (x9 - 1))) else (none)) else (none)) else (some (x8, 0))
end
def wardenref01_Get.f (k : Nat) (a0 : ByteArray) (a1 : Int) (a2 : Int) : Option (Int × Int) := (wardenref01_May.f a2).bind fun t269 => (if t269 = true then (wardenref01_Get.j0 k a0 a1 a2 (decide (a1 < 0))) else (wardenref01_Get.j0 k a0 a1 a2 true))
theorem wardenref01_Get.mono_l : ∀ k, (∀ y0 y1 y2 y3, LeO (wardenref01_Get.j0 k y0 y1 y2 y3) (wardenref01_Get.j0 (k + 1) y0 y1 y2 y3)) ∧ (∀ y0 y1 y2 y3, LeO (wardenref01_Get.j1 k y0 y1 y2 y3) (wardenref01_Get.j1 (k + 1) y0 y1 y2 y3)) ∧ (∀ y0 y1 y2 y3, LeO (wardenref01_Get.l0 k y0 y1 y2 y3) (wardenref01_Get.l0 (k + 1) y0 y1 y2 y3))
 | 0 => ⟨fun _ _ _ _ r h => by simp [wardenref01_Get.j0] at h, fun _ _ _ _ r h => by simp [wardenref01_Get.j1] at h, fun _ _ _ _ r h => by simp [wardenref01_Get.l0] at h⟩
 | k + 1 => by
  obtain ⟨ih0, ih1, ih2⟩ := wardenref01_Get.mono_l k
  refine ⟨?_, ?_, ?_⟩
  ·intro y0 y1 y2 y3
   unfold wardenref01_Get.j0
   repeat' first
   | (with_reducible exact ih0 _ _ _ _)
   | (with_reducible exact ih1 _ _ _ _)
   | (with_reducible exact ih2 _ _ _ _)
   | (with_reducible exact LeO.refl _)
   | (with_reducible exact LeO.none _)
   | (with_reducible refine LeO.ite ?_ ?_)
   | (with_reducible refine LeO.bind ?_ (fun _ => ?_))
   | exact ih0 _ _ _ _
   | exact ih1 _ _ _ _
   | exact ih2 _ _ _ _
   | exact LeO.none _
   | refine LeO.ite ?_ ?_
   | refine LeO.bind ?_ (fun _ => ?_)
  ·intro y0 y1 y2 y3
   unfold wardenref01_Get.j1
   repeat' first
   | (with_reducible exact ih0 _ _ _ _)
   | (with_reducible exact ih1 _ _ _ _)
   | (with_reducible exact ih2 _ _ _ _)
   | (with_reducible exact LeO.refl _)
   | (with_reducible exact LeO.none _)
   | (with_reducible refine LeO.ite ?_ ?_)
   | (with_reducible refine LeO.bind ?_ (fun _ => ?_))
   | exact ih0 _ _ _ _
   | exact ih1 _ _ _ _
   | exact ih2 _ _ _ _
   | exact LeO.none _
   | refine LeO.ite ?_ ?_
   | refine LeO.bind ?_ (fun _ => ?_)
  ·intro y0 y1 y2 y3
   unfold wardenref01_Get.l0
   repeat' first
   | (with_reducible exact ih0 _ _ _ _)
   | (with_reducible exact ih1 _ _ _ _)
   | (with_reducible exact ih2 _ _ _ _)
   | (with_reducible exact LeO.refl _)
   | (with_reducible exact LeO.none _)
   | (with_reducible refine LeO.ite ?_ ?_)
   | (with_reducible refine LeO.bind ?_ (fun _ => ?_))
   | exact ih0 _ _ _ _
   | exact ih1 _ _ _ _
   | exact ih2 _ _ _ _
   | exact LeO.none _
   | refine LeO.ite ?_ ?_
   | refine LeO.bind ?_ (fun _ => ?_)
theorem wardenref01_Get.mono : ∀ a0 a1 a2 k, LeO (wardenref01_Get.f k a0 a1 a2) (wardenref01_Get.f (k + 1) a0 a1 a2) := by
 intro a0 a1 a2 k
 obtain ⟨ih0, ih1, ih2⟩ := wardenref01_Get.mono_l k
 unfold wardenref01_Get.f
 repeat' first
   | (with_reducible exact ih0 _ _ _ _)
   | (with_reducible exact ih1 _ _ _ _)
   | (with_reducible exact ih2 _ _ _ _)
   | (with_reducible exact LeO.refl _)
   | (with_reducible exact LeO.none _)
   | (with_reducible refine LeO.ite ?_ ?_)
   | (with_reducible refine LeO.bind ?_ (fun _ => ?_))
   | exact ih0 _ _ _ _
   | exact ih1 _ _ _ _
   | exact ih2 _ _ _ _
   | exact LeO.none _
   | refine LeO.ite ?_ ?_
   | refine LeO.bind ?_ (fun _ => ?_)
set_option maxHeartbeats 8000000 in
set_option maxRecDepth 100000 in
theorem wardenref01_Get.calls (k : Nat) (a0 : ByteArray) (a1 : Int) (a2 : Int) (r1 : Int) (r2 : Int) (w : World) (h : wardenref01_Get.f k a0 a1 a2 = some (r1, r2)) :
  Calls Try.prog 46 #[.string a0, .int .i64 a1, .int .i64 a2] w fun e w' => e = .returned (.tuple #[.int .u64 r1, .int .i64 r2]) ∧ Drawn0 w w' := by
 have H : ((wardenref01_May.f a2).bind fun t269 => (if t269 = true then (wardenref01_Get.j0 k a0 a1 a2 (decide (a1 < 0))) else (wardenref01_Get.j0 k a0 a1 a2 true))) = some (r1, r2) := h
 clear h
 have HC4 := am H
 clear H
 go_enter Try.func46, Try.ntmps46
 go_upto_region 1 with (fail)
 go_cut [16] (fun v16 wc => ∃ (kq : Nat) (x16_3 : Bool), v16 = .bool x16_3 ∧ Aside0 (wardenref01_Get.j0 kq a0 a1 a2 x16_3 = some (r1, r2)) ∧ Aside0 (kq ≤ k) ∧ Drawn0 w wc)
 case first =>
  have H := HC4.out
  clear HC4
  replace H := Option.bind_eq_some_iff.mp H
  obtain ⟨t269, A50, H⟩ := H
  replace H : (if t269 = true then (wardenref01_Get.j0 k a0 a1 a2 (decide (a1 < 0))) else (wardenref01_Get.j0 k a0 a1 a2 true)) = some (r1, r2) := H
  have A5 := am A50
  clear A50
  by_cases c6 : t269 = true
  ·subst c6
   have H1 : (wardenref01_Get.j0 k a0 a1 a2 (decide (a1 < 0))) = some (r1, r2) := by rw [if_pos rfl] at H; exact H
   clear H
   have H := H1
   clear H1
   have H' := am H
   clear H
   go_wp2_with (first | ((with_reducible refine gate_callee (f := 92) rfl ?_); refine goesL_ (some 11) rfl rfl Try.func92 (by kernel_rfl) rfl #[.int .i64 a2] rfl (by (try simp only [List.map_toArray, List.map_cons, List.map_nil]); first | done | rfl) ?_; (with_reducible refine (wardenref01_May.calls a2 true _ A5.out).mono ?_); rintro e w' ⟨rfl, ⟨nd, rfl⟩⟩; refine ⟨_, rfl, ?_⟩))
   go_meet
   case rel => exact ⟨_, (decide (a1 < 0)), (by first | rfl | (simp; done) | (simp [*]; done)), H', ⟨by first | omega | exact Nat.le_refl _⟩, by repeat (first | exact Drawn0.refl _ | apply Drawn0.step)⟩
  ·replace c6 := Bool.eq_false_iff.mpr c6
   subst c6
   have H1 : (wardenref01_Get.j0 k a0 a1 a2 true) = some (r1, r2) := by rw [if_neg (show ¬ (false = true) by decide)] at H; exact H
   clear H
   have H := H1
   clear H1
   have H' := am H
   clear H
   go_wp2_with (first | ((with_reducible refine gate_callee (f := 92) rfl ?_); refine goesL_ (some 11) rfl rfl Try.func92 (by kernel_rfl) rfl #[.int .i64 a2] rfl (by (try simp only [List.map_toArray, List.map_cons, List.map_nil]); first | done | rfl) ?_; (with_reducible refine (wardenref01_May.calls a2 false _ A5.out).mono ?_); rintro e w' ⟨rfl, ⟨nd, rfl⟩⟩; refine ⟨_, rfl, ?_⟩))
   go_meet
   case rel => exact ⟨_, (true), (by first | rfl | (simp; done) | (simp [*]; done)), H', ⟨by first | omega | exact Nat.le_refl _⟩, by repeat (first | exact Drawn0.refl _ | apply Drawn0.step)⟩
 case rest =>
  clear HC4
  try clear p2
  try clear c4
  try clear c6
  obtain ⟨kq, x16_3, rfl, HA, HJ3, ⟨mc3, rfl⟩⟩ := hcut
  cases kq with
  | zero => exact absurd HA.out (by simp [wardenref01_Get.j0])
  | succ kj3 =>
   have H := HA.out
   clear HA
   simp only [wardenref01_Get.j0] at H
   by_cases c7 : x16_3 = true
   ·subst c7
    have H1 : (some (0, 2)) = some (r1, r2) := by rw [if_pos rfl] at H; exact H
    clear H
    have H := H1
    clear H1
    simp only [Option.some.injEq, Prod.mk.injEq] at H
    obtain ⟨rfl, rfl⟩ := H
    go_wp2
    go_ret2
    exact ⟨by first | rfl | (simp; done) | (simp [*]; done), by repeat (first | exact Drawn0.refl _ | apply Drawn0.step)⟩
   ·replace c7 := Bool.eq_false_iff.mpr c7
    subst c7
    have H1 : (if a1 > (a0.size : Int) then (wardenref01_Get.j1 kj3 a0 a1 a2 true) else (wardenref01_Get.j1 kj3 a0 a1 a2 (decide ((wrap64 ((a0.size : Int) - a1)) < a2)))) = some (r1, r2) := by rw [if_neg (show ¬ (false = true) by decide)] at H; exact H
    clear H
    have H := H1
    clear H1
    have HC8 := am H
    clear H
    go_upto_region 3 with (fail)
    go_cut [28] (fun v28 wc => ∃ (kq : Nat) (x28_7 : Bool), v28 = .bool x28_7 ∧ Aside0 (wardenref01_Get.j1 kq a0 a1 a2 x28_7 = some (r1, r2)) ∧ Aside0 (kq ≤ kj3) ∧ Drawn0 w wc)
    case first =>
     have H := HC8.out
     clear HC8
     by_cases c9 : a1 > (a0.size : Int)
     ·rw [if_pos c9] at H
      have c9b0 : decide ((a0.size : Int) < a1) = true := decide_eq_true c9
      clear c9
      (first | rw [c9b0] | (simp only [i64_w, i32_w]; rw [c9b0]) | skip)
      have H' := am H
      clear H
      go_wp2
      go_meet
      case rel => exact ⟨_, (true), (by first | rfl | (simp; done) | (simp [*]; done)), H', ⟨by have := HJ3.out; first | omega | exact Nat.le_refl _⟩, by repeat (first | exact Drawn0.refl _ | apply Drawn0.step)⟩
     ·rw [if_neg c9] at H
      have c9b0 : decide ((a0.size : Int) < a1) = false := decide_eq_false c9
      clear c9
      (first | rw [c9b0] | (simp only [i64_w, i32_w]; rw [c9b0]) | skip)
      have H' := am H
      clear H
      go_wp2
      go_meet
      case rel => exact ⟨_, (decide ((wrap64 ((a0.size : Int) - a1)) < a2)), (by first | rfl | (simp; done) | (simp [*]; done)), H', ⟨by have := HJ3.out; first | omega | exact Nat.le_refl _⟩, by repeat (first | exact Drawn0.refl _ | apply Drawn0.step)⟩
    case rest =>
     clear HC8
     try clear p2
     try clear c3
     try clear c4
     try clear c6
     try clear p6
     try clear c7
     try clear c9
     try clear c9b0
     try clear p2
     obtain ⟨kq, x28_7, rfl, HA, HJ7, ⟨mc7, rfl⟩⟩ := hcut
     cases kq with
     | zero => exact absurd HA.out (by simp [wardenref01_Get.j1])
     | succ kj7 =>
      have H := HA.out
      clear HA
      simp only [wardenref01_Get.j1] at H
      by_cases c10 : x28_7 = true
      ·subst c10
       have H1 : (some (0, 10)) = some (r1, r2) := by rw [if_pos rfl] at H; exact H
       clear H
       have H := H1
       clear H1
       simp only [Option.some.injEq, Prod.mk.injEq] at H
       obtain ⟨rfl, rfl⟩ := H
       go_wp2
       go_ret2
       exact ⟨by first | rfl | (simp; done) | (simp [*]; done), by repeat (first | exact Drawn0.refl _ | apply Drawn0.step)⟩
      ·replace c10 := Bool.eq_false_iff.mpr c10
       subst c10
       have H1 : (wardenref01_Get.l0 kj7 a0 a1 0 (wrap64 (a2 - 1))) = some (r1, r2) := by rw [if_neg (show ¬ (false = true) by decide)] at H; exact H
       clear H
       have H := H1
       clear H1
       have H' := am H
       clear H
       go_wp2
       go_loopg [8, 9] kj7 (fun kq v8 v9 w' => ∃ (x8_3 : Int) (x9_3 : Int), v8 = .int .u64 x8_3 ∧ v9 = .int .i64 x9_3 ∧ Aside0 (wardenref01_Get.l0 kq a0 a1 x8_3 x9_3 = some (r1, r2)) ∧ Aside0 (kq ≤ kj7) ∧ Drawn0 w w')
       case atStart => exact ⟨(0), (wrap64 (a2 - 1)), (by first | rfl | (simp; done) | (simp [*]; done)), (by first | rfl | (simp; done) | (simp [*]; done)), H', ⟨Nat.le_refl _⟩, by repeat (first | exact Drawn0.refl _ | apply Drawn0.step)⟩
       case round =>
        clear H'
        try clear c1
        try clear p2
        try clear c3
        try clear c4
        try clear c6
        try clear p6
        try clear c7
        try clear c9
        try clear c9b0
        try clear c10
        try clear p2
        try clear p6
        obtain ⟨x8_3, x9_3, rfl, rfl, HA, HK3, ⟨m3, rfl⟩⟩ := hrel
        cases gk with
        | zero => exact absurd HA.out (by simp [wardenref01_Get.l0])
        | succ k3 =>
         have H := HA.out
         clear HA
         simp only [wardenref01_Get.l0] at H
         by_cases c11 : x9_3 ≥ 0
         ·rw [if_pos c11] at H
          have c11b0 : decide (0 ≤ x9_3) = true := decide_eq_true c11
          clear c11
          obtain ⟨ji12, hji12⟩ : ∃ j_ : Int, (wrap64 (a1 + x9_3)) = j_ := ⟨_, rfl⟩
          replace H : (if 0 ≤ (ji12) then (if (ji12) < (a0.size : Int) then (wardenref01_Get.l0 k3 a0 a1 (IntKind.u64.wrap ((IntKind.u64.wrap (256 * x8_3)) + (IntKind.u64.wrap (bt a0 (ji12))))) (wrap64 (x9_3 - 1))) else (none)) else (none)) = some (r1, r2) := by first | (rw [hji12] at H; exact H) | (simp only [hji12] at H ⊢; exact H)
          have hji12w : (IntKind.i64.wrap (a1 + x9_3)) = ji12 := (i64_w _).trans hji12
          by_cases c13 : 0 ≤ (ji12)
          ·rw [if_pos c13] at H
           have c13b0 : decide (0 ≤ (ji12)) = true := decide_eq_true c13
           clear c13
           by_cases c14 : (ji12) < (a0.size : Int)
           ·rw [if_pos c14] at H
            have c14b0 : decide ((ji12) < (a0.size : Int)) = true := decide_eq_true c14
            clear c14
            have H' := am H
            clear H
            have p15 : 0 ≤ ((ji12) : Int) := of_decide_eq_true (by first | (with_reducible assumption) | assumption)
            have q15 : (ji12) < (a0.size : Int) := of_decide_eq_true (by first | (with_reducible assumption) | assumption)
            have hx15 := bt_at a0 (ji12)
            replace p15 := eq_true p15
            replace q15 := eq_true q15
            go_wp2
            go_roundg k3
            case measure => have := HJ3.out; have := HJ7.out; have := HK3.out; omega
            case rel => exact ⟨(IntKind.u64.wrap ((IntKind.u64.wrap (256 * x8_3)) + (IntKind.u64.wrap (bt a0 (ji12))))), (wrap64 (x9_3 - 1)), (by first | rfl | (simp; done) | (simp only [← hji12] <;> (first | rfl | simp)) | (simp [*]; done)), (by first | rfl | (simp; done) | (simp [*]; done)), H', ⟨by have := HJ3.out; have := HJ7.out; have := HK3.out; omega⟩, by repeat (first | exact Drawn0.refl _ | apply Drawn0.step)⟩
           ·rw [if_neg c14] at H
            exact absurd H (by simp)
          ·rw [if_neg c13] at H
           exact absurd H (by simp)
         ·rw [if_neg c11] at H
          have c11b0 : decide (0 ≤ x9_3) = false := decide_eq_false c11
          clear c11
          simp only [Option.some.injEq, Prod.mk.injEq] at H
          obtain ⟨rfl, rfl⟩ := H
          go_wp2
          go_ret2
          exact ⟨by first | rfl | (simp; done) | (simp [*]; done), by repeat (first | exact Drawn0.refl _ | apply Drawn0.step)⟩

/-! ### wardenref01_Of: function 49 -/
def wardenref01_Of.l0 : Nat → Int → Int → ByteArray → Int → Option (ByteArray)
 | 0, _, _, _, _ => none
 | k + 1, x0, x1, x5, x6 => if x6 < x1 then ((some (([(Int.tmod x0 256) % 256] : List Int) : List Int)).bind fun y271 => (if x5.size + (strOfNums y271).size ≤ 9223372036854775807 then (wardenref01_Of.l0 k (IntKind.u64.wrap (Int.tdiv x0 256)) x1 (x5 ++ (strOfNums y271)) (wrap64 (x6 + 1))) else (none))) else (some x5)
def wardenref01_Of.f (k : Nat) (a0 : Int) (a1 : Int) : Option (ByteArray) := (wardenref01_May.f a1).bind fun t270 => (if t270 = true then (wardenref01_Of.l0 k a0 a1 (⟨#[]⟩ : ByteArray) 0) else (some (⟨#[]⟩ : ByteArray)))
theorem wardenref01_Of.mono_l : ∀ k, (∀ y0 y1 y2 y3, LeO (wardenref01_Of.l0 k y0 y1 y2 y3) (wardenref01_Of.l0 (k + 1) y0 y1 y2 y3))
 | 0 => fun _ _ _ _ r h => by simp [wardenref01_Of.l0] at h
 | k + 1 => by
  have ih0 := wardenref01_Of.mono_l k
  ·intro y0 y1 y2 y3
   unfold wardenref01_Of.l0
   repeat' first
   | (with_reducible exact ih0 _ _ _ _)
   | (with_reducible exact LeO.refl _)
   | (with_reducible exact LeO.none _)
   | (with_reducible refine LeO.ite ?_ ?_)
   | (with_reducible refine LeO.bind ?_ (fun _ => ?_))
   | exact ih0 _ _ _ _
   | exact LeO.none _
   | refine LeO.ite ?_ ?_
   | refine LeO.bind ?_ (fun _ => ?_)
theorem wardenref01_Of.mono : ∀ a0 a1 k, LeO (wardenref01_Of.f k a0 a1) (wardenref01_Of.f (k + 1) a0 a1) := by
 intro a0 a1 k
 have ih0 := wardenref01_Of.mono_l k
 unfold wardenref01_Of.f
 repeat' first
   | (with_reducible exact ih0 _ _ _ _)
   | (with_reducible exact LeO.refl _)
   | (with_reducible exact LeO.none _)
   | (with_reducible refine LeO.ite ?_ ?_)
   | (with_reducible refine LeO.bind ?_ (fun _ => ?_))
   | exact ih0 _ _ _ _
   | exact LeO.none _
   | refine LeO.ite ?_ ?_
   | refine LeO.bind ?_ (fun _ => ?_)
set_option maxHeartbeats 8000000 in
set_option maxRecDepth 100000 in
theorem wardenref01_Of.calls (k : Nat) (a0 : Int) (a1 : Int) (r : ByteArray) (w : World) (h : wardenref01_Of.f k a0 a1 = some r) :
  Calls Try.prog 49 #[.int .u64 a0, .int .i64 a1] w fun e w' => e = .returned (.string r) ∧ Below w.heap.size w w' := by
 have HB := am (Below.refl w.heap.size w)
 have H : ((wardenref01_May.f a1).bind fun t270 => (if t270 = true then (wardenref01_Of.l0 k a0 a1 (⟨#[]⟩ : ByteArray) 0) else (some (⟨#[]⟩ : ByteArray)))) = some r := h
 clear h
 replace H := Option.bind_eq_some_iff.mp H
 obtain ⟨t270, A30, H⟩ := H
 try dsimp only at H
 have A3 := am A30
 clear A30
 by_cases c4 : t270 = true
 ·subst c4
  have H1 : (wardenref01_Of.l0 k a0 a1 (⟨#[]⟩ : ByteArray) 0) = some r := by rw [if_pos rfl] at H; exact H
  clear H
  have H := H1
  clear H1
  have H' := am H
  clear H
  go_enter Try.func49, Try.ntmps49
  go_wp2_with (first | ((with_reducible refine gate_callee (f := 92) rfl ?_); refine goesL_ (some 8) rfl rfl Try.func92 (by kernel_rfl) rfl #[.int .i64 a1] rfl (by (try simp only [List.map_toArray, List.map_cons, List.map_nil]); first | done | rfl) ?_; (with_reducible refine (wardenref01_May.calls a1 true _ A3.out).mono ?_); rintro e w' ⟨rfl, ⟨nd, rfl⟩⟩; refine ⟨_, rfl, ?_⟩))
  go_loopg [0, 5, 6] k (fun kq v0 v5 v6 w' => ∃ (x0_1 : Int) (x5_1 : ByteArray) (x6_1 : Int), v0 = .int .u64 x0_1 ∧ v5 = .string x5_1 ∧ v6 = .int .i64 x6_1 ∧ Aside0 (wardenref01_Of.l0 kq x0_1 a1 x5_1 x6_1 = some r) ∧ Aside0 (kq ≤ k) ∧ Aside0 (Below w.heap.size w w'))
  case atStart => exact ⟨(a0), ((⟨#[]⟩ : ByteArray)), (0), (by first | rfl | (simp; done) | (simp [*]; done)), (by first | rfl | (simp; done) | (simp [*]; done)), (by first | rfl | (simp; done) | (simp [*]; done)), H', ⟨Nat.le_refl _⟩, ⟨by repeat (first | (with_reducible first | exact HB.out | apply below_alloc | apply pw_below_drewN | apply below_drew1) | exact HB.out)⟩⟩
  case round =>
   clear H'
   try clear p2
   try clear c4
   obtain ⟨x0_1, x5_1, x6_1, rfl, rfl, rfl, HA, HK1, HB⟩ := hrel
   cases gk with
   | zero => exact absurd HA.out (by simp [wardenref01_Of.l0])
   | succ k1 =>
    have H := HA.out
    clear HA
    simp only [wardenref01_Of.l0] at H
    by_cases c5 : x6_1 < a1
    ·rw [if_pos c5] at H
     have c5b0 : decide (x6_1 < a1) = true := decide_eq_true c5
     clear c5
     obtain ⟨y271, hy271⟩ : ∃ y_ : List Int, y_ = (([(Int.tmod x0_1 256) % 256] : List Int)) := ⟨_, rfl⟩
     replace H : (if x5_1.size + (strOfNums y271).size ≤ 9223372036854775807 then (wardenref01_Of.l0 k1 (IntKind.u64.wrap (Int.tdiv x0_1 256)) a1 (x5_1 ++ (strOfNums y271)) (wrap64 (x6_1 + 1))) else (none)) = some r := by first | (rw [hy271]; with_reducible exact H) | (have H2_ := (Option.bind_some _ _).symm.trans H; rw [hy271]; with_reducible exact H2_) | (have H2_ := (Option.bind_some _ _).symm.trans H; with_reducible exact H2_) | with_reducible exact H | (rw [hy271]; exact H) | exact H
     have Ny271 := am hy271
     clear hy271
     by_cases c6 : x5_1.size + (strOfNums y271).size ≤ 9223372036854775807
     ·rw [if_pos c6] at H
      have c6b0 := eq_true c6
      have c6b1 : decide (x5_1.size + (strOfNums y271).size ≤ 9223372036854775807) = true := decide_eq_true c6
      try have c6b2 : (9223372036854775807 < x5_1.size + (strOfNums y271).size) = False := eq_false (Nat.not_lt.2 c6)
      have H' := am H
      clear H
      go_wp2_with (first | ((with_reducible refine gate_dst (N := 19) rfl ?_); refine Kd.R_lit (Kd.int .u8) _ 5 ?hg (N := 19) ?hd (xs := ([(Int.tmod x0_1 256) % 256] : List Int)) (inner := [.int .u8 ((Int.tmod x0_1 256) % 256)]) (ok := fun _ => True) (okp := fun _ => True) ?hr ?hp (fun _ hk => hk) trivial (Below.refl _ _) (Nat.le_refl _) (by simp) ?_; (case hd => rfl); (case hg => rfl); (case hr => first | (go_simp; done) | (go_simp; rfl)); (case hp => exact (Reps.one (show Kd.M (Kd.int .u8) _ _ _ ((Int.tmod x0_1 256) % 256) [.int .u8 ((Int.tmod x0_1 256) % 256)] from rfl) (Reps.none _ _))); intro v272 w7 ho8 hb hg_ hnew_; clear hg_ hnew_; (first | rw [← Ny271.out] at ho8 | (simp only [Int.reduceToNat] at ho8; rw [← Ny271.out] at ho8)); have n0_ := am (Kd.R_lower ho8 (below_size (by repeat (first | exact HB.out | apply pb | apply pa | apply pd)))); have n1_ := am (below_step (by repeat (first | exact HB.out | apply pb | apply pa | apply pd)) hb); clear HB; have HO273 := n0_; have HB := n1_; clear n0_ n1_; clear hb ho8; have hcv9 := own_string (P := Try.prog) Try.underlying39 Try.underlying5 Try.underlying9 (Kd.own_of_R HO273.out)))
      go_roundg k1
      case measure => have := HK1.out; omega
      case rel => exact ⟨(IntKind.u64.wrap (Int.tdiv x0_1 256)), (x5_1 ++ (strOfNums y271)), (wrap64 (x6_1 + 1)), (by first | rfl | (simp; done) | (simp [*]; done)), (by first | rfl | (simp; done) | (simp [*]; done)), (by first | rfl | (simp; done) | (simp [*]; done)), H', ⟨by have := HK1.out; omega⟩, ⟨by repeat (first | (with_reducible first | exact HB.out | apply below_alloc | apply pw_below_drewN | apply below_drew1) | exact HB.out)⟩⟩
     ·rw [if_neg c6] at H
      exact absurd H (by simp)
    ·rw [if_neg c5] at H
     have c5b0 : decide (x6_1 < a1) = false := decide_eq_false c5
     clear c5
     obtain rfl := Option.some.inj H
     go_wp2
     go_ret
     exact ⟨by first | rfl | (simp [errW_none, errW_some] <;> rfl) | (simp [*, errW_none, errW_some] <;> rfl), by repeat (first | (with_reducible first | exact HB.out | apply below_alloc | apply pw_below_drewN | apply below_drew1) | exact HB.out)⟩
 ·replace c4 := Bool.eq_false_iff.mpr c4
  subst c4
  have H1 : (some (⟨#[]⟩ : ByteArray)) = some r := by rw [if_neg (show ¬ (false = true) by decide)] at H; exact H
  clear H
  have H := H1
  clear H1
  obtain rfl := Option.some.inj H
  go_enter Try.func49, Try.ntmps49
  go_wp2_with (first | ((with_reducible refine gate_callee (f := 92) rfl ?_); refine goesL_ (some 8) rfl rfl Try.func92 (by kernel_rfl) rfl #[.int .i64 a1] rfl (by (try simp only [List.map_toArray, List.map_cons, List.map_nil]); first | done | rfl) ?_; (with_reducible refine (wardenref01_May.calls a1 false _ A3.out).mono ?_); rintro e w' ⟨rfl, ⟨nd, rfl⟩⟩; refine ⟨_, rfl, ?_⟩))
  go_ret
  exact ⟨by first | rfl | (simp [errW_none, errW_some] <;> rfl) | (simp [*, errW_none, errW_some] <;> rfl), by repeat (first | (with_reducible first | exact HB.out | apply below_alloc | apply pw_below_drewN | apply below_drew1) | exact HB.out)⟩


end Go.Proofs.Ytibghcmkmbamjaa.PI
