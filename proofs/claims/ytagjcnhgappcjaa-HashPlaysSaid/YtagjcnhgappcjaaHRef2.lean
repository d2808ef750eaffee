/- The document's hash: New, Put, Drop, Write, Slots. -/
import Derived.Test.YtagjcnhgappcjaaHRef1
namespace Go.Proofs.Ytagjcnhgappcjaa
open Go.RowKit
set_option linter.unusedVariables false
set_option linter.unusedSimpArgs false
set_option linter.unusedSectionVars false
theorem flatten_set3 (x y z : Value) : ∀ {l : List (List Value)}, (∀ r ∈ l, r.length = 3) → ∀ {i : Nat}, i < l.length → (l.set i [x, y, z]).flatten = ((l.flatten.set (i * 3) x).set (i * 3 + 1) y).set (i * 3 + 2) z
  | [], _, i, h => by simp at h
  | r :: l, h, 0, _ => by
    have hr : r.length = 3 := h r (by simp)
    obtain ⟨a, b, c, rfl⟩ : ∃ a b c, r = [a, b, c] := by
      match r, hr with
      | [a, b, c], _ => exact ⟨a, b, c, rfl⟩
    simp
  | r :: l, h, i + 1, hi => by
    have hr : r.length = 3 := h r (by simp)
    obtain ⟨a, b, c, rfl⟩ : ∃ a b c, r = [a, b, c] := by
      match r, hr with
      | [a, b, c], _ => exact ⟨a, b, c, rfl⟩
    have := flatten_set3 x y z (l := l) (fun r hr => h r (by simp [hr])) (i := i) (by simpa using hi)
    have e : (i + 1) * 3 = i * 3 + 1 + 1 + 1 := by omega
    rw [e]
    simp only [List.set_cons_succ, List.flatten_cons, this, List.cons_append, List.nil_append]
def set3 (w : World) (b o : Nat) (x y z : Value) : World := ((w.setCell ⟨b, o, none⟩ x).setCell ⟨b, o + 1, none⟩ y).setCell ⟨b, o + 2, none⟩ z
theorem rowR_set3 {e : TypeId} {w : World} {N : Nat → Prop} {b off n c : Nat} {l : List (List Value)} (h : rowR e 3 (.slice (some ⟨b, off, none⟩) n c) l w N) {i : Nat} (hi : i < l.length) (x y z : Value) :
    off = 0 ∧ N b ∧ (∀ o, w.frozen? ⟨b, o, none⟩ = false) ∧ rowR e 3 (.slice (some ⟨b, off, none⟩) n c) (l.set i [x, y, z]) (set3 w b (off + i * 3) x y z) N := by
  obtain ⟨h1, h2, h3⟩ := h
  have hN := h3 b rfl
  rcases h1.2 with ⟨e0, _⟩ | ⟨g, cap, cur, e0, _, hg, hc, hm, hcs, ht⟩
  · cases e0
  · cases e0
    refine ⟨rfl, hN, fun o => frozen_of hg o, ⟨⟨?_, .inr ⟨b, c, ((cur.setIfInBounds (0 + i * 3) x).setIfInBounds (0 + i * 3 + 1) y).setIfInBounds (0 + i * 3 + 2) z, by simp, Nat.zero_le _, ?_, by simpa using hc, hm, ?_, ?_⟩⟩, fun r hr => ?_, h3⟩⟩
    · rw [flatten_len (k := 3)]
      intro r hr
      rcases List.mem_or_eq_of_mem_set hr with hr | rfl
      · exact h2 r hr
      · rfl
    · exact heap_setCell_same (heap_setCell_same (heap_setCell_same hg (0 + i * 3) x) (0 + i * 3 + 1) y) (0 + i * 3 + 2) z
    · simp [hcs]
    · rw [flatten_set3 x y z h2 hi, ← ht]
      simp [List.take_set]
    · rcases List.mem_or_eq_of_mem_set hr with hr | rfl
      · exact h2 r hr
      · rfl
theorem SepK.set3 {w0 w : World} {K : List (Nat × Obj)} {T : Res} [Good T] {e : TypeId} {b off n c : Nat} {l : List (List Value)} (H : SepK w0 w K (star (rowR e 3 (.slice (some ⟨b, off, none⟩) n c) l) T)) {i : Nat} (hi : i < l.length) (x y z : Value) :
    SepK w0 (Ytagjcnhgappcjaa.set3 w b (off + i * 3) x y z) K (star (rowR e 3 (.slice (some ⟨b, off, none⟩) n c) (l.set i [x, y, z])) T) :=
  H.step fun N hR hN => by
    obtain ⟨-, hb, -, hs⟩ := rowR_set3 hR hi x y z
    exact ⟨hs, .of1 ((((Upd.refl [b] w).setCell _ _ (.inl (by simp))).setCell _ _ (.inl (by simp))).setCell _ _ (.inl (by simp))) hb⟩
theorem SepK.free3 {w0 w : World} {K : List (Nat × Obj)} {T : Res} [Good T] {e : TypeId} {b off n c : Nat} {l : List (List Value)} (H : SepK w0 w K (star (rowR e 3 (.slice (some ⟨b, off, none⟩) n c) l) T)) {i : Nat} (hi : i < l.length) : off = 0 ∧ (∀ o, w.frozen? ⟨b, o, none⟩ = false) ∧ b < w.heap.size := by
  obtain ⟨N, hN⟩ := H.get
  obtain ⟨h1, h2, h3, h4⟩ := rowR_set3 hN hi (.int .i64 0) (.int .i64 0) (.int .i64 0)
  exact ⟨h1, h3, ownsRow_lt hN.1 rfl⟩
section
variable {w0 w : World} {K : List (Nat × Obj)} {T : Res} [Good T] {r : Nat} {size : Int} {m : Nat} {vs : Vs} {v : Value}
set_option maxRecDepth 100000 in
set_option maxHeartbeats 4000000 in
theorem rDrop (H : SepK w0 w K (star (refR m vs v) T)) (hK : (r, rblk size v) ∈ K) (hb : HB size (m : Int) vs) (k : ByteArray) (hks : k.size ≤ 256) :
    Calls Try.prog 32 #[.pointer (some ⟨r, 0, none⟩), .string k] w fun e w' => e = .returned (twoV (drop vs k).1) ∧ SepK w0 w' K (star (refR m (drop vs k).2 v) T) := by
  have hf : find vs k = (drop vs k).1 := by
    unfold find drop
    split
    · rfl
    · split <;> rfl
  cases hg : aget (swp vs) k with
  | none =>
    have hd : (drop vs k).2 = vs ∧ ((drop vs k).1.2 != 0) = true := by
      by_cases h8 : k.size = 8
      · rw [drop_no h8 hg]; exact ⟨rfl, rfl⟩
      · rw [drop_bad h8]; exact ⟨rfl, rfl⟩
    have h0 : (drop vs k).1.1 = 0 := by
      by_cases h8 : k.size = 8
      · rw [drop_no h8 hg]
      · rw [drop_bad h8]
    obtain ⟨hd1, hd2⟩ := hd
    rw [hd1]
    clear hg hd1
    generalize (drop vs k).1 = p at hf h0 hd2 ⊢
    obtain ⟨p1, p2⟩ := p
    simp only at h0 hd2 ⊢
    subst h0
    go_enter Try.func32, Try.ntmps32
    go_wp2_with fail
    refine (rFind H hK hb k hks).mono ?_
    rw [hf]
    rintro e w' ⟨rfl, rfl⟩
    clear hf
    unfold twoV
    go_wp2_with fail
    go_ret2
    exact ⟨rfl, H⟩
  | some i =>
    have h8 : k.size = 8 := Classical.byContradiction fun h => by rw [no_key hb h] at hg; cases hg
    obtain ⟨L, hL⟩ := hb.inv.find hg
    have hi := hb.okI hL
    rw [drop_old h8 hg] at hf ⊢
    simp only at hf ⊢
    obtain ⟨j, rfl⟩ : ∃ j : Nat, i = j := ⟨i.toNat, by omega⟩
    have hjm : j < m := by omega
    have hset : rowsE m (adel vs (j : Int)) = (rowsE m vs).set j (rowE none) := by
      have e : aget (adel vs (j : Int)) (j : Int) = none := by rw [aget_adel, if_pos rfl]
      rw [← e]
      exact rowsE_set hjm fun l hl => by rw [aget_adel, if_neg (by omega)]
    obtain ⟨A, c, rfl, hr, -⟩ := H.parts
    obtain ⟨b, off, rfl, k0, k1, k2⟩ := row_cells hr hjm
    rw [rowsE_len] at H hK ⊢
    obtain ⟨rfl, ff, lb⟩ := H.free3 (i := j) (by rw [rowsE_len]; exact hjm)
    have fr := H.blk hK
    have c1 := cell_of fr 1
    have lt := lt_of_heap fr
    simp only [List.getElem?_toArray, List.getElem?_cons_zero, List.getElem?_cons_succ] at c1
    simp only [Nat.zero_add] at k0 k1 k2
    have f0 := ff (j * 3)
    have f1 := ff (j * 3 + 1)
    have f2 := ff (j * 3 + 2)
    have y1 : (0 : Int) ≤ (j : Int) := by omega
    have y2 : (j : Int) < (m : Int) := by omega
    clear hg hL h8 ff hr fr
    go_enter Try.func32, Try.ntmps32
    go_wp2_with fail
    refine (rFind H hK hb k hks).mono ?_
    rw [hf]
    rintro e w' ⟨rfl, rfl⟩
    clear hf
    unfold twoV
    go_wp2_with fail
    go_ret2
    refine ⟨rfl, ?_⟩
    have h5 := H.set3 (i := j) (by rw [rowsE_len]; exact hjm) (.string ⟨#[]⟩) (.string ⟨#[]⟩) (.bool false)
    rw [Nat.zero_add] at h5
    unfold refR
    rw [hset]
    exact h5
theorem made_three (a b c : Value) (m : Nat) : (madeCells #[a, b, c] (m * 3)).toList = (List.replicate m [a, b, c]).flatten := by
  apply List.ext_getElem?
  intro j
  have hl : (List.replicate m [a, b, c]).flatten.length = m * 3 := by simp
  by_cases hj : j < m * 3
  · have hi : (List.replicate m [a, b, c])[j / 3]? = some [a, b, c] := by rw [List.getElem?_replicate, if_pos (by omega)]
    have hlt : j % 3 < 3 := Nat.mod_lt _ (by omega)
    have e : ∀ q, [a, b, c][j % 3]? = some q → (List.replicate m [a, b, c]).flatten[j]? = some q := fun q hq => by
      have := flatten_at (k := 3) (l := List.replicate m [a, b, c]) (fun r hr => by rw [List.eq_of_mem_replicate hr]; rfl) hi hq
      rwa [show j / 3 * 3 + j % 3 = j by omega] at this
    have h3 : j % 3 = 0 ∨ j % 3 = 1 ∨ j % 3 = 2 := by omega
    rcases h3 with h3 | h3 | h3
    · rw [e a (by rw [h3]; rfl)]; simp [madeCells, hj, h3]
    · rw [e b (by rw [h3]; rfl)]; simp [madeCells, hj, h3]
    · rw [e c (by rw [h3]; rfl)]; simp [madeCells, hj, h3]
  · rw [List.getElem?_eq_none (by simp [madeCells]; omega), List.getElem?_eq_none (by rw [hl]; omega)]
theorem info48 : (Try.prog.info? 48).map (fun i => (i.zero, i.size, i.bytes)) = some (some (.agg #[.string ⟨#[]⟩, .string ⟨#[]⟩, .bool false]), 3, 40) := by kernel_rfl
set_option maxRecDepth 100000 in
set_option maxHeartbeats 2000000 in
theorem rNew (H : SepK w0 w K T) (size : Int) (m : Nat) (h1 : 1 ≤ size) (h2 : size ≤ 128) (h3 : 1 ≤ m) (h4 : m ≤ 256) :
    Calls Try.prog 16 #[.int .i64 size, .int .i64 (m : Int)] w fun e w' => ∃ r v, e = .returned (.pointer (some ⟨r, 0, none⟩)) ∧ SepK w0 w' ((r, rblk size v) :: K) (star (refR m [] v) T) := by
  obtain ⟨i0, hi0, hz0, hz1, hz2⟩ := info_parts info48
  have hmk : (Instr.makeSlice 49 (.int .i64 (m : Int)) (.int .i64 (m : Int))).run Try.prog w = .ok (.slice (some ⟨w.heap.size, 0, none⟩) m m) (w.alloc (.cells (madeCells #[.string ⟨#[]⟩, .string ⟨#[]⟩, .bool false] (m * 3)) 48)) := by
    have := run_make (P := Try.prog) w 49 48 i0 (.agg #[.string ⟨#[]⟩, .string ⟨#[]⟩, .bool false]) Try.underlying49 hi0 hz0 .i64 .i64 (m : Int) (m : Int) (by omega) (by omega) (by rw [hz2]; omega) (by omega)
    rw [hz1] at this
    exact this
  have z1 : decide (size < 1) = false := decide_eq_false (by omega)
  have z2 : decide (128 < size) = false := decide_eq_false (by omega)
  have z3 : decide ((m : Int) < 1) = false := decide_eq_false (by omega)
  have z4 : decide ((256 : Int) < (m : Int)) = false := decide_eq_false (by omega)
  have H1 : SepK w0 (w.alloc (.cells (madeCells #[.string ⟨#[]⟩, .string ⟨#[]⟩, .bool false] (m * 3)) 48)) K (star (refR m [] (.slice (some ⟨w.heap.size, 0, none⟩) m m)) T) := by
    refine H.more ((Upd.refl [] w).alloc _) (M := fun b => b = w.heap.size) ?_ (fun b hb => by omega)
    refine ⟨⟨?_, .inr ⟨w.heap.size, m, _, by rw [rowsE_len], Nat.zero_le _, heap_alloc_new _ _, by rw [rowsE_len]; exact Nat.le_refl _, by unfold maxLen; omega, by simp [madeCells], ?_⟩⟩, rowsE_three m [], fun g hg => by cases hg; rfl⟩
    · rw [flatten_len (rowsE_three m [])]
    · rw [rowsE_len, made_three, rowsE_nil, List.take_of_length_le (by simp)]
      rfl
  have H2 := H1.alloc (rblk size (.slice (some ⟨w.heap.size, 0, none⟩) m m))
  rw [alloc_size] at H2
  go_enter Try.func16, Try.ntmps16
  go_wp2_with fail
  go_ret
  exact ⟨_, _, rfl, H2⟩
theorem rNew_no (size n : Int) (w : World) (h : ¬ (1 ≤ size ∧ size ≤ 128 ∧ 1 ≤ n ∧ n ≤ 256)) :
    Calls Try.prog 16 #[.int .i64 size, .int .i64 n] w fun e w' => e = .returned (.pointer none) ∧ w = w' := by
  by_cases c1 : size < 1
  · have z1 : decide (size < 1) = true := decide_eq_true c1
    go_enter Try.func16, Try.ntmps16
    go_wp2_with fail
    go_ret
    exact ⟨rfl, rfl⟩
  have z1 : decide (size < 1) = false := decide_eq_false c1
  by_cases c2 : 128 < size
  · have z2 : decide (128 < size) = true := decide_eq_true c2
    go_enter Try.func16, Try.ntmps16
    go_wp2_with fail
    go_ret
    exact ⟨rfl, rfl⟩
  have z2 : decide (128 < size) = false := decide_eq_false c2
  by_cases c3 : n < 1
  · have z3 : decide (n < 1) = true := decide_eq_true c3
    go_enter Try.func16, Try.ntmps16
    go_wp2_with fail
    go_ret
    exact ⟨rfl, rfl⟩
  have z3 : decide (n < 1) = false := decide_eq_false c3
  have z4 : decide (256 < n) = true := decide_eq_true (by omega)
  go_enter Try.func16, Try.ntmps16
  go_wp2_with fail
  go_ret
  exact ⟨rfl, rfl⟩
def RPutDid (w0 : World) (K : List (Nat × Obj)) (T : Res) (size : Int) (m : Nat) (vs : Vs) (v : Value) (k : ByteArray) (e : Ending) (w' : World) : Prop :=
  e = .returned (putV (put size (m : Int) vs k).1) ∧ SepK w0 w' K (star (refR m (put size (m : Int) vs k).2 v) T)
set_option maxRecDepth 100000 in
set_option maxHeartbeats 4000000 in
theorem rPut (H : SepK w0 w K (star (refR m vs v) T)) (hK : (r, rblk size v) ∈ K) (hb : HB size (m : Int) vs) (k : ByteArray) (hks : k.size ≤ 256) :
    Calls Try.prog 31 #[.pointer (some ⟨r, 0, none⟩), .string k] w (RPutDid w0 K T size m vs v k) := by
  by_cases h8 : k.size = 8
  · have z1 : ((k.size : Int) != 8) = false := by simp [h8]
    cases hg : aget (swp vs) k with
    | some i =>
      have ha := atV_some hg
      obtain ⟨b, h2⟩ := hb.inv.find hg
      have h3 := hb.okI h2
      have z2 : decide (0 ≤ i) = true := decide_eq_true h3.1
      have hp : Unit → put size (m : Int) vs k = ((i, false, 0), vs) := fun _ => put_old h8 hg
      clear hg h8
      go_enter Try.func31, Try.ntmps31
      go_wp2_with fail
      refine (rAt H hK hb k).mono ?_
      rw [ha]
      rintro e w' ⟨rfl, rfl⟩
      clear ha
      go_wp2_with fail
      refine bodyPost_ret (v := .tuple #[.int .i64 i, .bool false, .int .i64 0]) (by simp [results, Try.results31, go_sem]) rfl ?_
      unfold RPutDid
      rw [hp ()]
      exact ⟨rfl, H⟩
    | none =>
      have ha : atV vs k = -1 := by unfold atV; rw [hg]; rfl
      have HG : Unit → aget (swp vs) k = none := fun _ => hg
      have H8 : Unit → k.size = 8 := fun _ => h8
      have hm2 := hb.n2
      clear hg h8
      obtain ⟨A, c, rfl, hr, -⟩ := H.parts
      rw [rowsE_len] at H hK ⊢
      have fr := H.blk hK
      have c0 := cell_of fr 0
      have c1 := cell_of fr 1
      have lt := lt_of_heap fr
      simp only [List.getElem?_toArray, List.getElem?_cons_zero, List.getElem?_cons_succ] at c0 c1
      go_enter Try.func31, Try.ntmps31
      go_wp2_with fail
      refine (rAt H hK hb k).mono ?_
      rw [ha]
      rintro e w' ⟨rfl, rfl⟩
      clear ha
      go_wp2_with fail
      go_loopg [8] m (fun kq v8 w' => ∃ i : Nat, v8 = .int .i64 (i : Int) ∧ kq + i = m ∧ w = w' ∧ ∀ j : Nat, j < i → aget vs (j : Int) ≠ none)
      case atStart => exact ⟨0, rfl, by omega, rfl, fun j hj => by omega⟩
      case round =>
        obtain ⟨i, rfl, hk, rfl, hn⟩ := hrel
        have HN : Unit → ∀ j : Nat, j < i → aget vs (j : Int) ≠ none := fun _ => hn
        clear hn
        by_cases hi : i < m
        · have z3 : decide ((i : Int) < (m : Int)) = true := decide_eq_true (by omega)
          obtain ⟨b, off, rfl, k0, k1, k2⟩ := row_cells hr hi
          have y3 : (0 : Int) ≤ (i : Int) := by omega
          have y4 : (i : Int) < (m : Int) := by omega
          cases hg : aget vs (i : Int) with
          | some p =>
            rw [hg] at k0 k2
            simp only [Option.isSome_some] at k2
            have HN2 : Unit → ∀ j : Nat, j < i + 1 → aget vs (j : Int) ≠ none := fun _ j hj => by
              by_cases e : j = i
              · subst e; rw [hg]; exact fun h => by cases h
              · exact HN () j (by omega)
            clear hg HN
            go_wp2_with fail
            go_roundg (gk - 1)
            case measure => omega
            case rel => exact ⟨i + 1, by go_num, by omega, rfl, HN2 ()⟩
          | none =>
            rw [hg] at k2
            simp only [Option.isSome_none] at k2
            have hp : Unit → put size (m : Int) vs k = (((i : Int), true, 0), vs ++ [((i : Int), k, List.replicate size.toNat 0)]) := fun _ => by
              unfold put
              have hfr : freeV (m : Int) vs = some i := freeV_some (by omega) ((aget_none_iff vs _).1 hg) fun j hj => by
                refine Classical.byContradiction fun hq => HN () j hj ((aget_none_iff vs _).2 hq)
              rw [if_neg (by have := H8 (); omega), HG (), hfr]
            have hset : Unit → rowsE m (vs ++ [((i : Int), k, List.replicate size.toNat 0)]) = (rowsE m vs).set i (rowE (some (k, List.replicate size.toNat 0))) := fun _ => by
              have e : aget (vs ++ [((i : Int), k, List.replicate size.toNat 0)]) (i : Int) = some (k, List.replicate size.toNat 0) := by rw [aget_app, hg]; simp [aget]
              rw [← e]
              exact rowsE_set hi fun l hl => by
                rw [aget_app]
                have : aget [((i : Int), k, List.replicate size.toNat (0 : UInt8))] (l : Int) = none := by simp [aget]; omega
                rw [this]; simp
            obtain ⟨rfl, ff, lb⟩ := H.free3 (i := i) (by rw [rowsE_len]; exact hi)
            simp only [Nat.zero_add] at k0 k1 k2
            have f0 := ff (i * 3)
            have f1 := ff (i * 3 + 1)
            have f2 := ff (i * 3 + 2)
            have hs1 := hb.s1
            have hs2 := hb.s2
            have hmk : ∀ w', (Instr.makeSlice 58 (.int .i64 size) (.int .i64 size)).run Try.prog w' = .ok (.slice (some ⟨w'.heap.size, 0, none⟩) size.toNat size.toNat) (w'.alloc (zb size.toNat)) := fun w' => make_bytes Try.underlying58 info5 w' size (by omega) (by omega)
            have hcv : (convert 58 9 (.slice (some ⟨w.heap.size, 0, none⟩) size.toNat size.toNat)).run Try.prog (w.alloc (zb size.toNat)).drew = .ok (.string (bstr (List.replicate size.toNat 0))) (w.alloc (zb size.toNat)).drew := by
              have hb : BytesAt 5 (w.alloc (zb size.toNat)).drew w.heap.size (List.replicate size.toNat 0) := BytesAt.made w size.toNat
              have := hb.conv (P := Try.prog) Try.underlying58 Try.underlying5 Try.underlying9 0 size.toNat size.toNat (by simp)
              rwa [List.drop_zero, List.take_of_length_le (by simp)] at this
            have h5 := (((H.set3 (i := i) (by rw [rowsE_len]; exact hi) (.string k) (.string (bstr (List.replicate size.toNat 0))) (.bool true)).alloc (zb size.toNat)).upd (Upd.refl [] _).drew).drop K (fun p hp => List.mem_cons_of_mem _ hp)
            rw [Nat.zero_add] at h5
            have hend : RPutDid w0 K T size m vs (.slice (some ⟨b, 0, none⟩) m c) k (.returned (.tuple #[.int .i64 (i : Int), .bool true, .int .i64 0])) _ := (Iff.of_eq (RPutDid.eq_1 ..)).2 ⟨by rw [hp ()]; rfl, by rw [hp ()]; show SepK w0 _ K (star (rowR 48 3 _ (rowsE m (vs ++ [((i : Int), k, List.replicate size.toNat 0)]))) T); rw [hset ()]; exact h5⟩
            unfold Ytagjcnhgappcjaa.set3 at hend
            clear hg HN HG ff hr fr hp hset H h5 hb
            go_wp2_with fail
            go_region
            all_goals go_wp2_with fail
            all_goals refine bodyPost_ret (v := .tuple #[.int .i64 (i : Int), .bool true, .int .i64 0]) (by simp [results, Try.results31, go_sem]) rfl ?_
            all_goals exact hend
        · have z3 : decide ((i : Int) < (m : Int)) = false := decide_eq_false (by omega)
          have hp : Unit → put size (m : Int) vs k = ((0, false, 6), vs) := fun _ => by
            unfold put
            have hfr : freeV (m : Int) vs = none := freeV_none fun j hj => Classical.byContradiction fun hq => HN () j (by omega) ((aget_none_iff vs _).2 hq)
            rw [if_neg (by have := H8 (); omega), HG (), hfr]
          clear HN HG
          go_wp2_with fail
          refine bodyPost_ret (v := .tuple #[.int .i64 0, .bool false, .int .i64 6]) (by simp [results, Try.results31, go_sem]) rfl ?_
          unfold RPutDid
          rw [hp ()]
          exact ⟨rfl, H⟩
  · have z1 : ((k.size : Int) != 8) = true := by simp; omega
    have hp : Unit → put size (m : Int) vs k = ((0, false, 2), vs) := fun _ => put_bad h8
    clear h8
    go_enter Try.func31, Try.ntmps31
    go_wp2_with fail
    refine bodyPost_ret (v := .tuple #[.int .i64 0, .bool false, .int .i64 2]) (by simp [results, Try.results31, go_sem]) rfl ?_
    unfold RPutDid
    rw [hp ()]
    exact ⟨rfl, H⟩
end
end Go.Proofs.Ytagjcnhgappcjaa
