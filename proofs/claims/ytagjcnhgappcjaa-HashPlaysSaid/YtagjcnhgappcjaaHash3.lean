/- A hash: Key, Get, Drop. -/
import Derived.Test.YtagjcnhgappcjaaHash2
namespace Go.Proofs.Ytagjcnhgappcjaa
open Go.RowKit
set_option linter.unusedVariables false
set_option linter.unusedSimpArgs false
set_option linter.unusedSectionVars false
section
variable {w0 w : World} {K : List (Nat × Obj)} {T : Res} [Good T] {h : Nat} {size n : Int} {bs bv : Nat} {l : List Ent}
theorem SepK.one (H : SepK w0 w K (hR bs bv l T)) {x : Int} {v : Nat × Nat × ByteArray × List UInt8} (hv : aget l x = some v) : w.heap[v.1]? = some (oneObj (x, v)) ∧ BytesAt 5 w v.2.1 v.2.2.2 := by
  obtain ⟨N, h1, _⟩ := H.ones
  have := h1 (x, v) (aget_mem hv)
  exact ⟨this.1, this.2.1⟩
theorem hKey (H : SepK w0 w K (hR bs bv l T)) (hK : (h, hblk size n bs bv) ∈ K) (x : Int) (hx : okI x) {v : Nat × Nat × ByteArray × List UInt8} (hv : aget l x = some v) :
    Calls Try.prog 15 #[.pointer (some ⟨h, 0, none⟩), .int .i64 x] w fun e w' => e = .returned (.tuple #[.string v.2.2.1, .bool true]) ∧ w = w' := by
  obtain ⟨ho, hb⟩ := H.one hv
  have c0 := cell_of ho 0
  have lt := lt_of_heap ho
  simp only [List.getElem?_toArray, List.getElem?_cons_zero, List.getElem?_cons_succ] at c0
  clear ho hb
  go_enter Try.func15, Try.ntmps15
  go_wp2_with (go_at_call 29; (with_reducible refine (of_some H hK x hx hv).mono ?_); rintro e w1 ⟨rfl, rfl⟩)
  go_ret2
  exact ⟨rfl, rfl⟩
theorem hKey_none (H : SepK w0 w K (hR bs bv l T)) (hK : (h, hblk size n bs bv) ∈ K) (x : Int) (hx : okI x) (hv : aget l x = none) :
    Calls Try.prog 15 #[.pointer (some ⟨h, 0, none⟩), .int .i64 x] w fun e w' => e = .returned (.tuple #[.string ⟨#[]⟩, .bool false]) ∧ w = w' := by
  go_enter Try.func15, Try.ntmps15
  go_wp2_with (go_at_call 29; (with_reducible refine (of_none H hK x hx hv).mono ?_); rintro e w1 ⟨rfl, rfl⟩)
  go_ret2
  exact ⟨rfl, rfl⟩
theorem hKey_nil (w : World) (x : Int) : Calls Try.prog 15 #[.pointer none, .int .i64 x] w fun e w' => e = .returned (.tuple #[.string ⟨#[]⟩, .bool false]) ∧ w = w' := by
  go_enter Try.func15, Try.ntmps15
  go_wp2_with (go_at_call 29; (with_reducible refine (of_nil _ x).mono ?_); rintro e w1 ⟨rfl, rfl⟩)
  go_ret2
  exact ⟨rfl, rfl⟩
theorem hGet (H : SepK w0 w K (hR bs bv l T)) (hK : (h, hblk size n bs bv) ∈ K) (x : Int) (hx : okI x) {v : Nat × Nat × ByteArray × List UInt8} (hv : aget l x = some v) :
    Calls Try.prog 14 #[.pointer (some ⟨h, 0, none⟩), .int .i64 x] w fun e w' => e = .returned (.tuple #[.string (bstr v.2.2.2), .bool true]) ∧ w = w' := by
  obtain ⟨ho, hb⟩ := H.one hv
  have c1 := cell_of ho 1
  have lt := lt_of_heap ho
  simp only [List.getElem?_toArray, List.getElem?_cons_zero, List.getElem?_cons_succ] at c1
  have hcv : (convert 58 9 (.slice (some ⟨v.2.1, 0, none⟩) v.2.2.2.length v.2.2.2.length)).run Try.prog w = .ok (.string (bstr v.2.2.2)) w := by
    have := hb.conv (P := Try.prog) Try.underlying58 Try.underlying5 Try.underlying9 0 v.2.2.2.length v.2.2.2.length (by simp)
    rw [List.drop_zero, List.take_of_length_le (Nat.le_refl _)] at this
    exact this
  clear ho hb
  go_enter Try.func14, Try.ntmps14
  go_wp2_with (go_at_call 29; (with_reducible refine (of_some H hK x hx hv).mono ?_); rintro e w1 ⟨rfl, rfl⟩)
  go_ret2
  exact ⟨rfl, rfl⟩
theorem hGet_none (H : SepK w0 w K (hR bs bv l T)) (hK : (h, hblk size n bs bv) ∈ K) (x : Int) (hx : okI x) (hv : aget l x = none) :
    Calls Try.prog 14 #[.pointer (some ⟨h, 0, none⟩), .int .i64 x] w fun e w' => e = .returned (.tuple #[.string ⟨#[]⟩, .bool false]) ∧ w = w' := by
  go_enter Try.func14, Try.ntmps14
  go_wp2_with (go_at_call 29; (with_reducible refine (of_none H hK x hx hv).mono ?_); rintro e w1 ⟨rfl, rfl⟩)
  go_ret2
  exact ⟨rfl, rfl⟩
theorem hGet_nil (w : World) (x : Int) : Calls Try.prog 14 #[.pointer none, .int .i64 x] w fun e w' => e = .returned (.tuple #[.string ⟨#[]⟩, .bool false]) ∧ w = w' := by
  go_enter Try.func14, Try.ntmps14
  go_wp2_with (go_at_call 29; (with_reducible refine (of_nil _ x).mono ?_); rintro e w1 ⟨rfl, rfl⟩)
  go_ret2
  exact ⟨rfl, rfl⟩
theorem vsOf_adel (l : List Ent) (x : Int) : vsOf (adel l x) = adel (vsOf l) x := by
  unfold vsOf adel
  rw [List.filter_map]
  rfl
theorem allR_del {w : World} {N : Nat → Prop} (x : Int) (h : allR l w N) : allR (adel l x) w N := by
  have hs : (adel l x).Sublist l := List.filter_sublist
  exact ⟨fun p hp => h.1 p (hs.subset hp), h.2.1.sublist (hs.map _), h.2.2.1.sublist (hs.map _), fun p hp q hq => h.2.2.2 p (hs.subset hp) q (hs.subset hq)⟩
theorem star_map {R R' : Res} {N : Nat → Prop} (h : star R T w N) (f : ∀ M, R w M → R' w M) : star R' T w N := by
  obtain ⟨A, B, h1, h2, h3⟩ := h
  exact ⟨A, B, f _ h1, h2, h3⟩
set_option maxRecDepth 100000 in
set_option maxHeartbeats 2000000 in
theorem hDrop (H : SepK w0 w K (hR bs bv l T)) (hK : (h, hblk size n bs bv) ∈ K) (hI : HInv size n (vsOf l)) (k : ByteArray) (hk : k.size = 8) (i : Int) (hi : aget (swp (vsOf l)) k = some i) (hx : okI i) :
    Calls Try.prog 12 #[.pointer (some ⟨h, 0, none⟩), .string k] w fun e w' => e = .returned (.tuple #[.int .i64 i, .int .i64 0]) ∧ SepK w0 w' K (hR bs bv (adel l i) T) := by
  have hb := H.blk hK
  have c2 := cell_of hb 2
  have c3 := cell_of hb 3
  have lt := lt_of_heap hb
  simp only [List.getElem?_toArray, List.getElem?_cons_zero, List.getElem?_cons_succ] at c2 c3
  obtain ⟨bb, hf⟩ := hI.find hi
  go_enter Try.func12, Try.ntmps12
  go_wp2_with (first
    | (go_at_call 26; (with_reducible refine (hFind H hK k hk i hi).mono ?_); rintro e w1 ⟨rfl, rfl⟩)
    | (at_delete; refine wl_del rfl (.tmp 19) (.tmp 20) #[56, 9] rfl rfl ks Try.underlying56 rfl (show SepK w0 w K (star (mapR Value.string (Value.int .i64) okS8 bs (swp (vsOf l))) (star (mapR (Value.int .i64) eo okI bv l) (star (allR l) T))) from H) k rfl (by unfold okS8 maxLen; omega) ?_; intro w2 h2; have hb2 := h2.blk hK; have d3 := cell_of hb2 3; have lt2 := lt_of_heap hb2; simp only [List.getElem?_toArray, List.getElem?_cons_zero, List.getElem?_cons_succ] at d3)
    | (at_delete; refine wl_del rfl (.tmp 24) (.tmp 25) #[63, 3] rfl rfl ki Try.underlying63 rfl h2.swap i rfl hx ?_; intro w3 h3))
  go_ret2
  refine ⟨rfl, ?_⟩
  unfold hR
  rw [vsOf_adel, swp_adel hI hf]
  exact h3.swap.imp fun _ g => star_imp g fun _ g => star_imp g fun _ g => star_map g fun _ g => allR_del i g
theorem hDrop_none (H : SepK w0 w K (hR bs bv l T)) (hK : (h, hblk size n bs bv) ∈ K) (k : ByteArray) (hk : k.size = 8) (hi : aget (swp (vsOf l)) k = none) :
    Calls Try.prog 12 #[.pointer (some ⟨h, 0, none⟩), .string k] w fun e w' => e = .returned (.tuple #[.int .i64 0, .int .i64 5]) ∧ w = w' := by
  go_enter Try.func12, Try.ntmps12
  go_wp2_with (go_at_call 26; (with_reducible refine (hFind_none H hK k hk hi).mono ?_); rintro e w1 ⟨rfl, rfl⟩)
  go_ret2
  exact ⟨rfl, rfl⟩
theorem hDrop_no (H : SepK w0 w K (hR bs bv l T)) (hK : (h, hblk size n bs bv) ∈ K) (k : ByteArray) (hk : k.size ≠ 8) :
    Calls Try.prog 12 #[.pointer (some ⟨h, 0, none⟩), .string k] w fun e w' => e = .returned (.tuple #[.int .i64 0, .int .i64 2]) ∧ w = w' := by
  go_enter Try.func12, Try.ntmps12
  go_wp2_with (go_at_call 26; (with_reducible refine (hFind_no H hK k hk).mono ?_); rintro e w1 ⟨rfl, rfl⟩)
  go_ret2
  exact ⟨rfl, rfl⟩
theorem hDrop_nil (w : World) (k : ByteArray) :
    Calls Try.prog 12 #[.pointer none, .string k] w fun e w' => e = .returned (.tuple #[.int .i64 0, .int .i64 1]) ∧ w = w' := by
  go_enter Try.func12, Try.ntmps12
  go_wp2_with (go_at_call 26; (with_reducible refine (hFind_nil _ k).mono ?_); rintro e w1 ⟨rfl, rfl⟩)
  go_ret2
  exact ⟨rfl, rfl⟩
end
end Go.Proofs.Ytagjcnhgappcjaa
