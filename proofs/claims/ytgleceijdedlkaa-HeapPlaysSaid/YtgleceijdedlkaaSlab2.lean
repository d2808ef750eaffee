/- The slab: Take where it takes nothing, Used, Room, Size, Give; the document's example. -/
import Derived.Test.YtgleceijdedlkaaSlab
import Derived.StillTailTactics
namespace Go.Proofs.Ytgleceijdedlkaa
open Go.RowKit
set_option linter.unusedVariables false
set_option linter.unusedSimpArgs false
theorem cls_rng (n : Int) : 0 ≤ cls n ∧ cls n ≤ 128 := by
  unfold cls
  repeat split
  all_goals omega
theorem cls_bad {n : Int} (h : okc n = false) : cls n = 0 := by
  simp only [okc, Bool.and_eq_false_iff, decide_eq_false_iff_not] at h
  unfold cls
  repeat split
  all_goals omega
set_option maxRecDepth 100000 in
set_option maxHeartbeats 2000000 in
theorem Take_arg (w : World) (s bm : Nat) (room used n : Int) (l : Slots) (h : SlabAt w s bm room used l) (hn : okc n = false) :
    Calls Try.prog 23 #[.pointer (some ⟨s, 0, none⟩), .int .i64 n] w fun e w' => e = .returned (.tuple #[.int .i64 0, .int .i64 2]) ∧ Upd [] w w' := by
  have e116 := en116
  go_enter Try.func23, Try.ntmps23
  go_wp2_with fail
  go_step3
  go_wp2_with fail
  refine (Class_spec n _).mono ?_
  rintro e w1 ⟨rfl, u1⟩
  rw [hn]
  have c2 := (h.keep u1).c2
  go_wp2_with fail
  rw [Exit.noGoto_ret]
  go_ret2
  exact ⟨rfl, u1⟩
set_option maxRecDepth 100000 in
set_option maxHeartbeats 2000000 in
theorem Take_full (w : World) (s bm : Nat) (room used n : Int) (l : Slots) (h : SlabAt w s bm room used l) (hn : okc n = true) (hr : room < used + cls n) (h0 : 0 ≤ used) (h1 : used ≤ 65536) :
    Calls Try.prog 23 #[.pointer (some ⟨s, 0, none⟩), .int .i64 n] w fun e w' => e = .returned (.tuple #[.int .i64 0, .int .i64 6]) ∧ Upd [] w w' := by
  obtain ⟨b1, b2, b3, b4, b5⟩ := cls_bd hn
  have e116 := en116
  generalize hc : cls n = c at *
  go_enter Try.func23, Try.ntmps23
  go_wp2_with fail
  go_step3
  go_wp2_with fail
  refine (Class_spec n _).mono ?_
  rintro e w1 ⟨rfl, u1⟩
  rw [hc, hn]
  clear hn hc
  have c0 := (h.keep u1).c0
  have c1 := (h.keep u1).c1
  have c2 := (h.keep u1).c2
  have z3 : decide (room < used + c) = true := decide_eq_true (by omega)
  go_wp2_with fail
  go_quiet (fail)
  go_wp2_with fail
  rw [Exit.noGoto_ret]
  go_ret2
  exact ⟨rfl, u1.drewN _⟩
theorem Used_spec (w : World) (s bm : Nat) (room used : Int) (l : Slots) (h : SlabAt w s bm room used l) : Calls Try.prog 50 #[.pointer (some ⟨s, 0, none⟩)] w fun e w' => e = .returned (.int .i64 used) ∧ w = w' := by
  have c1 := h.c1
  go_enter Try.func50, Try.ntmps50
  go_wp2
  go_ret
  exact ⟨rfl, rfl⟩
theorem Room_spec (w : World) (s bm : Nat) (room used : Int) (l : Slots) (h : SlabAt w s bm room used l) : Calls Try.prog 56 #[.pointer (some ⟨s, 0, none⟩)] w fun e w' => e = .returned (.int .i64 room) ∧ w = w' := by
  have c1 := h.c0
  go_enter Try.func56, Try.ntmps56
  go_wp2
  go_ret
  exact ⟨rfl, rfl⟩
theorem look_some' {w : World} {s bm : Nat} {room used : Int} {l : Slots} (h : SlabAt w s bm room used l) {x : Int} (hx : okI x) {b : Nat} {bs : List UInt8} (hn : aget l x = some (b, bs)) :
    (Instr.lookup 116 (.map (some bm)) (.int .i64 x) false).run Try.prog w = .ok (.slice (some ⟨b, 0, none⟩) bs.length bs.length) w := by
  rw [h.map.lookup ki Try.underlying116 (zero36 _) hx false, hn]; rfl
theorem of_zero (w : World) (s bm : Nat) (room used : Int) (l : Slots) (slot : Int) (h : SlabAt w s bm room used l) (hs : okI slot) (b : Nat) (bs : List UInt8) (hn : aget l slot = some (b, bs)) (hl : bs.length ≤ 1000) :
    Calls Try.prog 65 #[.pointer (some ⟨s, 0, none⟩), .int .i64 slot, .int .i64 0, .int .i64 0] w fun e w' => ∃ v, e = .returned (.tuple #[v, .int .i64 0]) ∧ w = w' :=
  (of_ok w s bm room used l slot 0 0 h hs b bs hn hl (by omega)).mono fun e w' ⟨h1, h2⟩ => ⟨_, h1, h2⟩
set_option maxRecDepth 100000 in
set_option maxHeartbeats 1000000 in
theorem Size_no (w : World) (s bm : Nat) (room used : Int) (l : Slots) (slot : Int) (h : SlabAt w s bm room used l) (hs : okI slot) (hn : aget l slot = none) : Calls Try.prog 57 #[.pointer (some ⟨s, 0, none⟩), .int .i64 slot] w fun e w' => e = .returned (.tuple #[.int .i64 0, .bool false]) ∧ w = w' := by
  go_enter Try.func57, Try.ntmps57
  go_wp2_with fail
  refine (of_none _ s bm room used l slot 0 0 h hs hn).mono ?_
  rintro e w1 ⟨rfl, rfl⟩
  go_wp2_with fail
  go_ret2
  exact ⟨rfl, rfl⟩
set_option maxRecDepth 100000 in
set_option maxHeartbeats 1000000 in
theorem Size_ok (w : World) (s bm : Nat) (room used : Int) (l : Slots) (slot : Int) (h : SlabAt w s bm room used l) (hs : okI slot) (b : Nat) (bs : List UInt8) (hn : aget l slot = some (b, bs)) (hl : bs.length ≤ 1000) : Calls Try.prog 57 #[.pointer (some ⟨s, 0, none⟩), .int .i64 slot] w fun e w' => e = .returned (.tuple #[.int .i64 (bs.length : Int), .bool true]) ∧ w = w' := by
  have r1 := look_some' h hs hn
  have c2 := h.c2
  go_enter Try.func57, Try.ntmps57
  go_wp2_with fail
  refine (of_zero _ s bm room used l slot h hs b bs hn hl).mono ?_
  rintro e w1 ⟨v, rfl, rfl⟩
  go_wp2_with fail
  go_ret2
  exact ⟨rfl, rfl⟩
set_option maxRecDepth 100000 in
set_option maxHeartbeats 1000000 in
theorem Give_no (w : World) (s bm : Nat) (room used : Int) (l : Slots) (slot : Int) (h : SlabAt w s bm room used l) (hs : okI slot) (hn : aget l slot = none) : Calls Try.prog 51 #[.pointer (some ⟨s, 0, none⟩), .int .i64 slot] w fun e w' => e = .returned (.int .i64 5) ∧ w = w' := by
  go_enter Try.func51, Try.ntmps51
  go_wp2_with fail
  refine (of_none _ s bm room used l slot 0 0 h hs hn).mono ?_
  rintro e w1 ⟨rfl, rfl⟩
  go_wp2_with fail
  go_ret
  exact ⟨rfl, rfl⟩
set_option maxRecDepth 100000 in
set_option maxHeartbeats 1000000 in
theorem Give_ok (w : World) (s bm : Nat) (room used : Int) (l : Slots) (slot : Int) (h : SlabAt w s bm room used l) (hs : okI slot) (b : Nat) (bs : List UInt8) (hn : aget l slot = some (b, bs)) (hl : bs.length ≤ 1000) (h0 : 0 ≤ used) (h1 : used ≤ 65536) :
    Calls Try.prog 51 #[.pointer (some ⟨s, 0, none⟩), .int .i64 slot] w fun e w' => e = .returned (.int .i64 0) ∧ SlabAt w' s bm room (used - cls bs.length) (adel l slot) ∧ Upd [s, bm] w w' := by
  have hc := cls_rng (bs.length : Int)
  generalize hce : cls (bs.length : Int) = c at hc ⊢
  have r1 := look_some' h hs hn
  have c2 := h.c2
  go_enter Try.func51, Try.ntmps51
  go_wp2_with fail
  refine (of_zero _ s bm room used l slot h hs b bs hn hl).mono ?_
  rintro e w1 ⟨v, rfl, rfl⟩
  go_wp2_with fail
  refine (Class_spec _ _).mono ?_
  rintro e w1 ⟨rfl, u1⟩
  rw [hce]
  clear hce
  have h1' := h.keep u1
  have q0 := h1'.c0
  have q1 := h1'.c1
  have q2 := h1'.c2
  have f1 := frozen_of h1'.cells 1
  have X := (Upd.refl [s] w1).setCell ⟨s, 1, none⟩ (Value.int .i64 (used - c)) (.inl (by simp))
  have hm := h1'.map.kept X (by simpa using Ne.symm h.d)
  have hs2 := heap_setCell_same h1'.cells 1 (Value.int .i64 (used - c))
  clear r1 c2
  go_wp2_with (at_delete; refine wl_delete rfl (.tmp 40) (.tmp 41) _ rfl rfl ki Try.underlying116 rfl hm slot rfl hs ?_; intro w2 m2 u2 z2)
  go_ret
  have U2 : Upd [s, bm] w w2 := ((u1.mono (T := [s, bm]) (by simp)).step X (by simp)).step u2 (by simp)
  refine ⟨rfl, ⟨u2.heap hs2 (by simpa using h.d), m2, fun p hp => ?_, ?_, h.d⟩, U2⟩
  · have hp' := (mem_adel hp).1
    exact ⟨(((h1'.bytes p hp').1).kept X (by simpa using (h.bytes p hp').2.1)).kept u2 (by simpa using (h.bytes p hp').2.2), (h.bytes p hp').2⟩
  · exact (List.Sublist.map _ List.filter_sublist).nodup h.apart
end Go.Proofs.Ytgleceijdedlkaa
