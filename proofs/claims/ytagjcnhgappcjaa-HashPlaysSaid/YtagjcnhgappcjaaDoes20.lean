/- HashPlays: a call of both. -/
import Derived.Test.YtagjcnhgappcjaaHRef4
import Derived.Deep.RegionHeld3
namespace Go.Proofs.Ytagjcnhgappcjaa
open Go.RowKit
set_option linter.unusedVariables false
set_option linter.unusedSimpArgs false
set_option linter.unusedSectionVars false
section
variable {w0 w : World} {K : List (Nat × Obj)} {T : Res} [Good T] {h r : Nat} {size : Int} {m : Nat} {bs bv : Nat} {vs : Vs} {v : Value}
abbrev both (size : Int) (m bs bv : Nat) (va vb : Vs) (v : Value) (T : Res) : Res := hashR size (m : Int) bs bv va (star (refR m vb v) T)
set_option maxRecDepth 100000 in
set_option maxHeartbeats 4000000 in
theorem does20_put0 (H : SepK w0 w K (both size m bs bv vs vs v T)) (hKh : (h, hblk size (m : Int) bs bv) ∈ K) (hKr : (r, rblk size v) ∈ K) (x : St) (hx : okU x) (hxk : x.key.size ≤ 256) (hxs : x.s.size ≤ 1024) (hd7 : x.d % 7 = 0) :
    Calls Try.prog 18 #[.pointer (some ⟨h, 0, none⟩), .pointer (some ⟨r, 0, none⟩), .agg #[.int .u8 x.d, .string x.key, .int .i64 x.slot, .int .i64 x.pos, .string x.s]] w fun e w' => ∃ vs', e = .returned (.bool true) ∧ SepK w0 w' K (both size m bs bv vs' vs' v T) := by
  have hb := H.open.1
  have hh := H.alloc (.cells #[.int .u8 x.d, .string x.key, .int .i64 x.slot, .int .i64 x.pos, .string x.s] 32)
  have hKh' := List.mem_cons_of_mem (w.heap.size, Obj.cells #[.int .u8 x.d, .string x.key, .int .i64 x.slot, .int .i64 x.pos, .string x.s] 32 (0, 0)) hKh
  have hKr' := List.mem_cons_of_mem (w.heap.size, Obj.cells #[.int .u8 x.d, .string x.key, .int .i64 x.slot, .int .i64 x.pos, .string x.s] 32 (0, 0)) hKr
  have hd := hx.1
  have f1 := hh.blk (b := w.heap.size) List.mem_cons_self; have k0 := cell_of f1 0; have k1 := cell_of f1 1; have k2 := cell_of f1 2; have k3 := cell_of f1 3; have k4 := cell_of f1 4; have l1 := lt_of_heap f1; simp only [List.getElem?_toArray, List.getElem?_cons_zero, List.getElem?_cons_succ] at k0 k1 k2 k3 k4; clear f1
  clear H
  have z0 : (x.d % 7 == 0) = true := by simp [hd7]
  clear hd7
  go_enter Try.func18, Try.ntmps18
  go_wp2_with fail
  refine (cPut hh hKh' x.key).mono ?_
  rintro e w1 ⟨rfl, ha⟩
  replace hh := ha
  clear k0 k1 k2 k3 k4 l1
  have f1 := hh.blk (b := w.heap.size) List.mem_cons_self; have k0 := cell_of f1 0; have k1 := cell_of f1 1; have k2 := cell_of f1 2; have k3 := cell_of f1 3; have k4 := cell_of f1 4; have l1 := lt_of_heap f1; simp only [List.getElem?_toArray, List.getElem?_cons_zero, List.getElem?_cons_succ] at k0 k1 k2 k3 k4; clear f1
  unfold putV
  go_wp2_with fail
  refine (rPut hh.outt hKr' hb x.key hxk).mono ?_
  rintro e w2 hr
  obtain ⟨rfl, ha⟩ := (Iff.of_eq (RPutDid.eq_1 ..)).1 hr
  replace hh := ha.inn
  unfold putV
  go_wp2_with fail
  go_ret
  exact ⟨_, rfl, hh.drop K (fun p hp => List.mem_cons_of_mem _ hp)⟩
set_option maxRecDepth 100000 in
set_option maxHeartbeats 4000000 in
theorem does20_put1 (H : SepK w0 w K (both size m bs bv vs vs v T)) (hKh : (h, hblk size (m : Int) bs bv) ∈ K) (hKr : (r, rblk size v) ∈ K) (x : St) (hx : okU x) (hxk : x.key.size ≤ 256) (hxs : x.s.size ≤ 1024) (hd7 : x.d % 7 = 1) :
    Calls Try.prog 18 #[.pointer (some ⟨h, 0, none⟩), .pointer (some ⟨r, 0, none⟩), .agg #[.int .u8 x.d, .string x.key, .int .i64 x.slot, .int .i64 x.pos, .string x.s]] w fun e w' => ∃ vs', e = .returned (.bool true) ∧ SepK w0 w' K (both size m bs bv vs' vs' v T) := by
  have hb := H.open.1
  have hh := H.alloc (.cells #[.int .u8 x.d, .string x.key, .int .i64 x.slot, .int .i64 x.pos, .string x.s] 32)
  have hKh' := List.mem_cons_of_mem (w.heap.size, Obj.cells #[.int .u8 x.d, .string x.key, .int .i64 x.slot, .int .i64 x.pos, .string x.s] 32 (0, 0)) hKh
  have hKr' := List.mem_cons_of_mem (w.heap.size, Obj.cells #[.int .u8 x.d, .string x.key, .int .i64 x.slot, .int .i64 x.pos, .string x.s] 32 (0, 0)) hKr
  have hd := hx.1
  have f1 := hh.blk (b := w.heap.size) List.mem_cons_self; have k0 := cell_of f1 0; have k1 := cell_of f1 1; have k2 := cell_of f1 2; have k3 := cell_of f1 3; have k4 := cell_of f1 4; have l1 := lt_of_heap f1; simp only [List.getElem?_toArray, List.getElem?_cons_zero, List.getElem?_cons_succ] at k0 k1 k2 k3 k4; clear f1
  clear H
  have z0 : (x.d % 7 == 0) = false := by simp [hd7]
  have z1 : (x.d % 7 == 1) = true := by simp [hd7]
  clear hd7
  go_enter Try.func18, Try.ntmps18
  go_wp2_with fail
  refine (cPut hh hKh' x.key).mono ?_
  rintro e w1 ⟨rfl, ha⟩
  replace hh := ha
  clear k0 k1 k2 k3 k4 l1
  have f1 := hh.blk (b := w.heap.size) List.mem_cons_self; have k0 := cell_of f1 0; have k1 := cell_of f1 1; have k2 := cell_of f1 2; have k3 := cell_of f1 3; have k4 := cell_of f1 4; have l1 := lt_of_heap f1; simp only [List.getElem?_toArray, List.getElem?_cons_zero, List.getElem?_cons_succ] at k0 k1 k2 k3 k4; clear f1
  unfold putV
  go_wp2_with fail
  refine (rPut hh.outt hKr' hb x.key hxk).mono ?_
  rintro e w2 hr
  obtain ⟨rfl, ha⟩ := (Iff.of_eq (RPutDid.eq_1 ..)).1 hr
  replace hh := ha.inn
  unfold putV
  go_wp2_with fail
  go_ret
  exact ⟨_, rfl, hh.drop K (fun p hp => List.mem_cons_of_mem _ hp)⟩
set_option maxRecDepth 100000 in
set_option maxHeartbeats 4000000 in
theorem does20_put2 (H : SepK w0 w K (both size m bs bv vs vs v T)) (hKh : (h, hblk size (m : Int) bs bv) ∈ K) (hKr : (r, rblk size v) ∈ K) (x : St) (hx : okU x) (hxk : x.key.size ≤ 256) (hxs : x.s.size ≤ 1024) (hd7 : x.d % 7 = 2) :
    Calls Try.prog 18 #[.pointer (some ⟨h, 0, none⟩), .pointer (some ⟨r, 0, none⟩), .agg #[.int .u8 x.d, .string x.key, .int .i64 x.slot, .int .i64 x.pos, .string x.s]] w fun e w' => ∃ vs', e = .returned (.bool true) ∧ SepK w0 w' K (both size m bs bv vs' vs' v T) := by
  have hb := H.open.1
  have hh := H.alloc (.cells #[.int .u8 x.d, .string x.key, .int .i64 x.slot, .int .i64 x.pos, .string x.s] 32)
  have hKh' := List.mem_cons_of_mem (w.heap.size, Obj.cells #[.int .u8 x.d, .string x.key, .int .i64 x.slot, .int .i64 x.pos, .string x.s] 32 (0, 0)) hKh
  have hKr' := List.mem_cons_of_mem (w.heap.size, Obj.cells #[.int .u8 x.d, .string x.key, .int .i64 x.slot, .int .i64 x.pos, .string x.s] 32 (0, 0)) hKr
  have hd := hx.1
  have f1 := hh.blk (b := w.heap.size) List.mem_cons_self; have k0 := cell_of f1 0; have k1 := cell_of f1 1; have k2 := cell_of f1 2; have k3 := cell_of f1 3; have k4 := cell_of f1 4; have l1 := lt_of_heap f1; simp only [List.getElem?_toArray, List.getElem?_cons_zero, List.getElem?_cons_succ] at k0 k1 k2 k3 k4; clear f1
  clear H
  have z0 : (x.d % 7 == 0) = false := by simp [hd7]
  have z1 : (x.d % 7 == 1) = false := by simp [hd7]
  have z2 : (x.d % 7 == 2) = true := by simp [hd7]
  clear hd7
  go_enter Try.func18, Try.ntmps18
  go_wp2_with fail
  refine (cPut hh hKh' x.key).mono ?_
  rintro e w1 ⟨rfl, ha⟩
  replace hh := ha
  clear k0 k1 k2 k3 k4 l1
  have f1 := hh.blk (b := w.heap.size) List.mem_cons_self; have k0 := cell_of f1 0; have k1 := cell_of f1 1; have k2 := cell_of f1 2; have k3 := cell_of f1 3; have k4 := cell_of f1 4; have l1 := lt_of_heap f1; simp only [List.getElem?_toArray, List.getElem?_cons_zero, List.getElem?_cons_succ] at k0 k1 k2 k3 k4; clear f1
  unfold putV
  go_wp2_with fail
  refine (rPut hh.outt hKr' hb x.key hxk).mono ?_
  rintro e w2 hr
  obtain ⟨rfl, ha⟩ := (Iff.of_eq (RPutDid.eq_1 ..)).1 hr
  replace hh := ha.inn
  unfold putV
  go_wp2_with fail
  go_ret
  exact ⟨_, rfl, hh.drop K (fun p hp => List.mem_cons_of_mem _ hp)⟩
set_option maxRecDepth 100000 in
set_option maxHeartbeats 4000000 in
theorem does20_drop (H : SepK w0 w K (both size m bs bv vs vs v T)) (hKh : (h, hblk size (m : Int) bs bv) ∈ K) (hKr : (r, rblk size v) ∈ K) (x : St) (hx : okU x) (hxk : x.key.size ≤ 256) (hxs : x.s.size ≤ 1024) (hd7 : x.d % 7 = 3) :
    Calls Try.prog 18 #[.pointer (some ⟨h, 0, none⟩), .pointer (some ⟨r, 0, none⟩), .agg #[.int .u8 x.d, .string x.key, .int .i64 x.slot, .int .i64 x.pos, .string x.s]] w fun e w' => ∃ vs', e = .returned (.bool true) ∧ SepK w0 w' K (both size m bs bv vs' vs' v T) := by
  have hb := H.open.1
  have hh := H.alloc (.cells #[.int .u8 x.d, .string x.key, .int .i64 x.slot, .int .i64 x.pos, .string x.s] 32)
  have hKh' := List.mem_cons_of_mem (w.heap.size, Obj.cells #[.int .u8 x.d, .string x.key, .int .i64 x.slot, .int .i64 x.pos, .string x.s] 32 (0, 0)) hKh
  have hKr' := List.mem_cons_of_mem (w.heap.size, Obj.cells #[.int .u8 x.d, .string x.key, .int .i64 x.slot, .int .i64 x.pos, .string x.s] 32 (0, 0)) hKr
  have hd := hx.1
  have f1 := hh.blk (b := w.heap.size) List.mem_cons_self; have k0 := cell_of f1 0; have k1 := cell_of f1 1; have k2 := cell_of f1 2; have k3 := cell_of f1 3; have k4 := cell_of f1 4; have l1 := lt_of_heap f1; simp only [List.getElem?_toArray, List.getElem?_cons_zero, List.getElem?_cons_succ] at k0 k1 k2 k3 k4; clear f1
  clear H
  have z0 : (x.d % 7 == 0) = false := by simp [hd7]
  have z1 : (x.d % 7 == 1) = false := by simp [hd7]
  have z2 : (x.d % 7 == 2) = false := by simp [hd7]
  have z3 : (x.d % 7 == 3) = true := by simp [hd7]
  clear hd7
  go_enter Try.func18, Try.ntmps18
  go_wp2_with fail
  refine (cDrop hh hKh' x.key).mono ?_
  rintro e w1 ⟨rfl, ha⟩
  replace hh := ha
  clear k0 k1 k2 k3 k4 l1
  have f1 := hh.blk (b := w.heap.size) List.mem_cons_self; have k0 := cell_of f1 0; have k1 := cell_of f1 1; have k2 := cell_of f1 2; have k3 := cell_of f1 3; have k4 := cell_of f1 4; have l1 := lt_of_heap f1; simp only [List.getElem?_toArray, List.getElem?_cons_zero, List.getElem?_cons_succ] at k0 k1 k2 k3 k4; clear f1
  unfold twoV
  go_wp2_with fail
  refine (rDrop hh.outt hKr' hb x.key hxk).mono ?_
  rintro e w2 ⟨rfl, ha⟩
  replace hh := ha.inn
  unfold twoV
  go_wp2_with fail
  go_ret
  exact ⟨_, rfl, hh.drop K (fun p hp => List.mem_cons_of_mem _ hp)⟩
set_option maxRecDepth 100000 in
set_option maxHeartbeats 4000000 in
theorem does20_write4 (H : SepK w0 w K (both size m bs bv vs vs v T)) (hKh : (h, hblk size (m : Int) bs bv) ∈ K) (hKr : (r, rblk size v) ∈ K) (x : St) (hx : okU x) (hxk : x.key.size ≤ 256) (hxs : x.s.size ≤ 1024) (hd7 : x.d % 7 = 4) :
    Calls Try.prog 18 #[.pointer (some ⟨h, 0, none⟩), .pointer (some ⟨r, 0, none⟩), .agg #[.int .u8 x.d, .string x.key, .int .i64 x.slot, .int .i64 x.pos, .string x.s]] w fun e w' => ∃ vs', e = .returned (.bool true) ∧ SepK w0 w' K (both size m bs bv vs' vs' v T) := by
  have hb := H.open.1
  have hh := H.alloc (.cells #[.int .u8 x.d, .string x.key, .int .i64 x.slot, .int .i64 x.pos, .string x.s] 32)
  have hKh' := List.mem_cons_of_mem (w.heap.size, Obj.cells #[.int .u8 x.d, .string x.key, .int .i64 x.slot, .int .i64 x.pos, .string x.s] 32 (0, 0)) hKh
  have hKr' := List.mem_cons_of_mem (w.heap.size, Obj.cells #[.int .u8 x.d, .string x.key, .int .i64 x.slot, .int .i64 x.pos, .string x.s] 32 (0, 0)) hKr
  have hd := hx.1
  have f1 := hh.blk (b := w.heap.size) List.mem_cons_self; have k0 := cell_of f1 0; have k1 := cell_of f1 1; have k2 := cell_of f1 2; have k3 := cell_of f1 3; have k4 := cell_of f1 4; have l1 := lt_of_heap f1; simp only [List.getElem?_toArray, List.getElem?_cons_zero, List.getElem?_cons_succ] at k0 k1 k2 k3 k4; clear f1
  clear H
  have z0 : (x.d % 7 == 0) = false := by simp [hd7]
  have z1 : (x.d % 7 == 1) = false := by simp [hd7]
  have z2 : (x.d % 7 == 2) = false := by simp [hd7]
  have z3 : (x.d % 7 == 3) = false := by simp [hd7]
  have z4 : (x.d % 7 == 4) = true := by simp [hd7]
  clear hd7
  have hok := hx.2.2.1
  have hop := hx.2.2.2.1
  go_enter Try.func18, Try.ntmps18
  go_wp2_with fail
  replace hh := hh.upd (Upd.refl [] _).drew
  clear k0 k1 k2 k3 k4 l1
  have f1 := hh.blk (b := w.heap.size) List.mem_cons_self; have k0 := cell_of f1 0; have k1 := cell_of f1 1; have k2 := cell_of f1 2; have k3 := cell_of f1 3; have k4 := cell_of f1 4; have l1 := lt_of_heap f1; simp only [List.getElem?_toArray, List.getElem?_cons_zero, List.getElem?_cons_succ] at k0 k1 k2 k3 k4; clear f1
  go_region_held3 (fun w' => w'.cell? ⟨w.heap.size, 2, none⟩ = some (.int .i64 x.slot) ∧ w'.cell? ⟨w.heap.size, 3, none⟩ = some (.int .i64 x.pos) ∧ w'.cell? ⟨w.heap.size, 4, none⟩ = some (.string x.s)) (exact ⟨k2, k3, k4⟩)
    (first
      | (go_at_call 13; refine (cWrite hh hKh' x.slot x.pos hok x.s).mono ?_; rintro e wa ⟨rfl, ha⟩; replace hh := ha; clear k0 k1 k2 k3 k4 l1; have f1 := hh.blk (b := w.heap.size) List.mem_cons_self; have k0 := cell_of f1 0; have k1 := cell_of f1 1; have k2 := cell_of f1 2; have k3 := cell_of f1 3; have k4 := cell_of f1 4; have l1 := lt_of_heap f1; simp only [List.getElem?_toArray, List.getElem?_cons_zero, List.getElem?_cons_succ] at k0 k1 k2 k3 k4; clear f1)
      | (go_at_call 33; refine (rWrite hh.outt hKr' hb x.slot x.pos hok hop x.s hxs).mono ?_; rintro e wb ⟨rfl, ha⟩; replace hh := ha.inn; clear k0 k1 k2 k3 k4 l1; have f1 := hh.blk (b := w.heap.size) List.mem_cons_self; have k0 := cell_of f1 0; have k1 := cell_of f1 1; have k2 := cell_of f1 2; have k3 := cell_of f1 3; have k4 := cell_of f1 4; have l1 := lt_of_heap f1; simp only [List.getElem?_toArray, List.getElem?_cons_zero, List.getElem?_cons_succ] at k0 k1 k2 k3 k4; clear f1))
  all_goals
    go_wp2_with fail
    go_ret
    exact ⟨_, rfl, hh.drop K (fun p hp => List.mem_cons_of_mem _ hp)⟩
set_option maxRecDepth 100000 in
set_option maxHeartbeats 4000000 in
theorem does20_write5 (H : SepK w0 w K (both size m bs bv vs vs v T)) (hKh : (h, hblk size (m : Int) bs bv) ∈ K) (hKr : (r, rblk size v) ∈ K) (x : St) (hx : okU x) (hxk : x.key.size ≤ 256) (hxs : x.s.size ≤ 1024) (hd7 : x.d % 7 = 5) :
    Calls Try.prog 18 #[.pointer (some ⟨h, 0, none⟩), .pointer (some ⟨r, 0, none⟩), .agg #[.int .u8 x.d, .string x.key, .int .i64 x.slot, .int .i64 x.pos, .string x.s]] w fun e w' => ∃ vs', e = .returned (.bool true) ∧ SepK w0 w' K (both size m bs bv vs' vs' v T) := by
  have hb := H.open.1
  have hh := H.alloc (.cells #[.int .u8 x.d, .string x.key, .int .i64 x.slot, .int .i64 x.pos, .string x.s] 32)
  have hKh' := List.mem_cons_of_mem (w.heap.size, Obj.cells #[.int .u8 x.d, .string x.key, .int .i64 x.slot, .int .i64 x.pos, .string x.s] 32 (0, 0)) hKh
  have hKr' := List.mem_cons_of_mem (w.heap.size, Obj.cells #[.int .u8 x.d, .string x.key, .int .i64 x.slot, .int .i64 x.pos, .string x.s] 32 (0, 0)) hKr
  have hd := hx.1
  have f1 := hh.blk (b := w.heap.size) List.mem_cons_self; have k0 := cell_of f1 0; have k1 := cell_of f1 1; have k2 := cell_of f1 2; have k3 := cell_of f1 3; have k4 := cell_of f1 4; have l1 := lt_of_heap f1; simp only [List.getElem?_toArray, List.getElem?_cons_zero, List.getElem?_cons_succ] at k0 k1 k2 k3 k4; clear f1
  clear H
  have z0 : (x.d % 7 == 0) = false := by simp [hd7]
  have z1 : (x.d % 7 == 1) = false := by simp [hd7]
  have z2 : (x.d % 7 == 2) = false := by simp [hd7]
  have z3 : (x.d % 7 == 3) = false := by simp [hd7]
  have z4 : (x.d % 7 == 4) = false := by simp [hd7]
  have z5 : (x.d % 7 == 5) = true := by simp [hd7]
  clear hd7
  have hok := hx.2.2.1
  have hop := hx.2.2.2.1
  go_enter Try.func18, Try.ntmps18
  go_wp2_with fail
  replace hh := hh.upd (Upd.refl [] _).drew
  clear k0 k1 k2 k3 k4 l1
  have f1 := hh.blk (b := w.heap.size) List.mem_cons_self; have k0 := cell_of f1 0; have k1 := cell_of f1 1; have k2 := cell_of f1 2; have k3 := cell_of f1 3; have k4 := cell_of f1 4; have l1 := lt_of_heap f1; simp only [List.getElem?_toArray, List.getElem?_cons_zero, List.getElem?_cons_succ] at k0 k1 k2 k3 k4; clear f1
  go_region_held3 (fun w' => w'.cell? ⟨w.heap.size, 2, none⟩ = some (.int .i64 x.slot) ∧ w'.cell? ⟨w.heap.size, 3, none⟩ = some (.int .i64 x.pos) ∧ w'.cell? ⟨w.heap.size, 4, none⟩ = some (.string x.s)) (exact ⟨k2, k3, k4⟩)
    (first
      | (go_at_call 13; refine (cWrite hh hKh' x.slot x.pos hok x.s).mono ?_; rintro e wa ⟨rfl, ha⟩; replace hh := ha; clear k0 k1 k2 k3 k4 l1; have f1 := hh.blk (b := w.heap.size) List.mem_cons_self; have k0 := cell_of f1 0; have k1 := cell_of f1 1; have k2 := cell_of f1 2; have k3 := cell_of f1 3; have k4 := cell_of f1 4; have l1 := lt_of_heap f1; simp only [List.getElem?_toArray, List.getElem?_cons_zero, List.getElem?_cons_succ] at k0 k1 k2 k3 k4; clear f1)
      | (go_at_call 33; refine (rWrite hh.outt hKr' hb x.slot x.pos hok hop x.s hxs).mono ?_; rintro e wb ⟨rfl, ha⟩; replace hh := ha.inn; clear k0 k1 k2 k3 k4 l1; have f1 := hh.blk (b := w.heap.size) List.mem_cons_self; have k0 := cell_of f1 0; have k1 := cell_of f1 1; have k2 := cell_of f1 2; have k3 := cell_of f1 3; have k4 := cell_of f1 4; have l1 := lt_of_heap f1; simp only [List.getElem?_toArray, List.getElem?_cons_zero, List.getElem?_cons_succ] at k0 k1 k2 k3 k4; clear f1))
  all_goals
    go_wp2_with fail
    go_ret
    exact ⟨_, rfl, hh.drop K (fun p hp => List.mem_cons_of_mem _ hp)⟩
set_option maxRecDepth 100000 in
set_option maxHeartbeats 4000000 in
theorem does20_find (H : SepK w0 w K (both size m bs bv vs vs v T)) (hKh : (h, hblk size (m : Int) bs bv) ∈ K) (hKr : (r, rblk size v) ∈ K) (x : St) (hx : okU x) (hxk : x.key.size ≤ 256) (hxs : x.s.size ≤ 1024) (hd7 : x.d % 7 = 6) :
    Calls Try.prog 18 #[.pointer (some ⟨h, 0, none⟩), .pointer (some ⟨r, 0, none⟩), .agg #[.int .u8 x.d, .string x.key, .int .i64 x.slot, .int .i64 x.pos, .string x.s]] w fun e w' => ∃ vs', e = .returned (.bool true) ∧ SepK w0 w' K (both size m bs bv vs' vs' v T) := by
  have hb := H.open.1
  have hh := H.alloc (.cells #[.int .u8 x.d, .string x.key, .int .i64 x.slot, .int .i64 x.pos, .string x.s] 32)
  have hKh' := List.mem_cons_of_mem (w.heap.size, Obj.cells #[.int .u8 x.d, .string x.key, .int .i64 x.slot, .int .i64 x.pos, .string x.s] 32 (0, 0)) hKh
  have hKr' := List.mem_cons_of_mem (w.heap.size, Obj.cells #[.int .u8 x.d, .string x.key, .int .i64 x.slot, .int .i64 x.pos, .string x.s] 32 (0, 0)) hKr
  have hd := hx.1
  have f1 := hh.blk (b := w.heap.size) List.mem_cons_self; have k0 := cell_of f1 0; have k1 := cell_of f1 1; have k2 := cell_of f1 2; have k3 := cell_of f1 3; have k4 := cell_of f1 4; have l1 := lt_of_heap f1; simp only [List.getElem?_toArray, List.getElem?_cons_zero, List.getElem?_cons_succ] at k0 k1 k2 k3 k4; clear f1
  clear H
  have z0 : (x.d % 7 == 0) = false := by simp [hd7]
  have z1 : (x.d % 7 == 1) = false := by simp [hd7]
  have z2 : (x.d % 7 == 2) = false := by simp [hd7]
  have z3 : (x.d % 7 == 3) = false := by simp [hd7]
  have z4 : (x.d % 7 == 4) = false := by simp [hd7]
  have z5 : (x.d % 7 == 5) = false := by simp [hd7]
  clear hd7
  go_enter Try.func18, Try.ntmps18
  go_wp2_with fail
  refine (cFind hh hKh' x.key).mono ?_
  rintro e w1 ⟨rfl, rfl⟩
  unfold twoV
  go_wp2_with fail
  refine (rFind hh.outt hKr' hb x.key hxk).mono ?_
  rintro e w2 ⟨rfl, rfl⟩
  unfold twoV
  go_wp2_with fail
  go_ret
  exact ⟨_, rfl, hh.drop K (fun p hp => List.mem_cons_of_mem _ hp)⟩
theorem does20 (H : SepK w0 w K (both size m bs bv vs vs v T)) (hKh : (h, hblk size (m : Int) bs bv) ∈ K) (hKr : (r, rblk size v) ∈ K) (x : St) (hx : okU x) (hxk : x.key.size ≤ 256) (hxs : x.s.size ≤ 1024) :
    Calls Try.prog 18 #[.pointer (some ⟨h, 0, none⟩), .pointer (some ⟨r, 0, none⟩), .agg #[.int .u8 x.d, .string x.key, .int .i64 x.slot, .int .i64 x.pos, .string x.s]] w fun e w' => ∃ vs', e = .returned (.bool true) ∧ SepK w0 w' K (both size m bs bv vs' vs' v T) := by
  have hd := hx.1
  rcases (by omega : x.d % 7 = 0 ∨ x.d % 7 = 1 ∨ x.d % 7 = 2 ∨ x.d % 7 = 3 ∨ x.d % 7 = 4 ∨ x.d % 7 = 5 ∨ x.d % 7 = 6) with h7 | h7 | h7 | h7 | h7 | h7 | h7
  · exact does20_put0 H hKh hKr x hx hxk hxs h7
  · exact does20_put1 H hKh hKr x hx hxk hxs h7
  · exact does20_put2 H hKh hKr x hx hxk hxs h7
  · exact does20_drop H hKh hKr x hx hxk hxs h7
  · exact does20_write4 H hKh hKr x hx hxk hxs h7
  · exact does20_write5 H hKh hKr x hx hxk hxs h7
  · exact does20_find H hKh hKr x hx hxk hxs h7
end
end Go.Proofs.Ytagjcnhgappcjaa
