/- SlabReuse: the walk. -/
import Derived.Test.YtgleceijdedlkaaRoom12
import Derived.IntWalk
namespace Go.Proofs.Ytgleceijdedlkaa
open Go.RowKit
set_option linter.unusedVariables false
set_option linter.unusedSimpArgs false
theorem usedOf_le (sl : List (Int × List UInt8)) : usedOf sl ≤ 128 * sl.length := by
  induction sl with
  | nil => simp [usedOf]
  | cons p l ih =>
    have := (cls_rng (p.2.length : Int)).2
    simp only [usedOf, List.map_cons, List.sum_cons, List.length_cons] at ih ⊢
    omega
/-- Which slots are taken: all up to the last one, and behind it those that were not given. -/
structure Ru (n c : Nat) (used : Int) (sl : List (Int × List UInt8)) (fr : List (Int × Bool)) (last : Int) : Prop where
  used_eq : used = usedOf sl
  len : sl.length ≤ c
  each : ∀ p ∈ sl, okc (p.2.length : Int) = true
  nd : (sl.map (·.1)).Nodup
  pos : ∀ x ∈ sl.map (·.1), 0 ≤ x
  lo : ∀ x : Int, 0 ≤ x → x ≤ last → x ∈ sl.map (·.1)
  hi : ∀ x : Int, last < x → (x ∈ sl.map (·.1) ↔ 0 ≤ x ∧ x < n ∧ (aget fr x).getD false = false)
section
variable {n c : Nat} {used : Int} {sl : List (Int × List UInt8)} {fr : List (Int × Bool)} {last : Int}
theorem Ru.lo0 (h : Ru n c used sl fr last) : 0 ≤ used := h.used_eq ▸ usedOf_nonneg _
theorem Ru.hi0 (h : Ru n c used sl fr last) (hc : c ≤ 400) : used ≤ 51200 := by
  have := usedOf_le sl
  have := h.len
  rw [h.used_eq]
  omega
theorem Ru.bs (h : Ru n c used sl fr last) {x : Int} {bs : List UInt8} (hb : aget sl x = some bs) : bs.length ≤ 128 := by
  have := h.each _ (aget_mem hb)
  simp [okc] at this
  omega
theorem Ru.give (h : Ru n c used sl fr (-1)) (k : Nat) (hk : k < n) {bs : List UInt8} (hb : aget sl k = some bs) : Ru n c (used - cls bs.length) (adel sl k) (aput fr k true) (-1) := by
  have hd : ∀ x : Int, x ∈ (adel sl (k : Int)).map (·.1) ↔ x ∈ sl.map (·.1) ∧ x ≠ k := fun x => by
    have h1 := aget_none_iff (adel sl (k : Int)) x
    have h2 := aget_none_iff sl x
    rw [aget_adel] at h1
    by_cases e : (k : Int) = x
    · simp only [e, if_true, true_iff] at h1
      subst e
      simp [h1]
    · simp only [if_neg e] at h1
      constructor
      · intro hx
        refine ⟨?_, Ne.symm e⟩
        by_cases hh : x ∈ sl.map (·.1)
        · exact hh
        · exact absurd hx (h1.1 (h2.2 hh))
      · intro ⟨hx, _⟩
        by_cases hh : x ∈ (adel sl (k : Int)).map (·.1)
        · exact hh
        · exact absurd hx (h2.1 (h1.2 hh))
  refine ⟨by rw [usedOf_del _ _ _ h.nd hb, h.used_eq], by have := length_adel sl (k : Int); have := h.len; omega, fun p hp => h.each p (mem_adel hp).1, ?_, fun x hx => h.pos x ((hd x).1 hx).1, fun x h0 h1 => by omega, fun x hx => ?_⟩
  · unfold adel
    exact (List.Sublist.map _ List.filter_sublist).nodup h.nd
  · rw [hd, h.hi x hx, aget_aput]
    by_cases e : (k : Int) = x
    · subst e; simp
    · simp [e, Ne.symm e]
theorem Ru.no (h : Ru n c used sl fr (-1)) (k : Nat) (hk : k < n) (hb : aget sl k = none) : (aget fr k).getD false = true ∧ Ru n c used sl (aput fr k true) (-1) := by
  have hn := (aget_none_iff sl (k : Int)).1 hb
  have hf : (aget fr (k : Int)).getD false = true := by
    cases hq : (aget fr (k : Int)).getD false with
    | true => rfl
    | false => exact absurd ((h.hi k (by omega)).2 ⟨by omega, by omega, hq⟩) hn
  refine ⟨hf, { h with hi := fun x hx => ?_ }⟩
  rw [h.hi x hx, aget_aput]
  by_cases e : (k : Int) = x
  · subst e; simp [hf]
  · simp [e]
theorem Ru.yes (h : Ru n c used sl fr (-1)) (k : Nat) {bs : List UInt8} (hb : aget sl k = some bs) : (aget fr k).getD false = false :=
  ((h.hi k (by omega)).1 (List.mem_map.2 ⟨_, aget_mem hb, rfl⟩)).2.2
theorem Ru.take (h : Ru n c used sl fr last) (k : Nat) (p1 : ∀ j : Nat, j < k → (j : Int) ∈ sl.map (·.1)) (p2 : (k : Int) ∉ sl.map (·.1)) :
    last < k ∧ ((k : Int) < n → (aget fr k).getD false = true) ∧ (∀ j : Int, last < j → j < k → (aget fr j).getD false = false ∨ j < 0) ∧ Ru n (c + 1) (used + cls 8) (sl ++ [((k : Int), List.replicate 8 0)]) fr k ∧ ((n : Int) ≤ k → sl.length = k) := by
  have hlt : last < k := by
    by_cases h1 : last < k
    · exact h1
    · exact absurd (h.lo k (by omega) (by omega)) p2
  refine ⟨hlt, fun hkn => ?_, fun j h1 h2 => ?_, ⟨by rw [usedOf_snoc, h.used_eq]; rfl, by simp [h.len], fun p hp => ?_, ?_, fun x hx => ?_, fun x h0 h1 => ?_, fun x hx => ?_⟩, fun hkn => ?_⟩
  · cases hq : (aget fr (k : Int)).getD false with
    | true => rfl
    | false => exact absurd ((h.hi k hlt).2 ⟨by omega, hkn, hq⟩) p2
  · by_cases h0 : 0 ≤ j
    · left
      have : j ∈ sl.map (·.1) := by
        have := p1 j.toNat (by omega)
        rwa [Int.toNat_of_nonneg h0] at this
      exact ((h.hi j h1).1 this).2.2
    · right; omega
  · rcases List.mem_append.1 hp with hp | hp
    · exact h.each p hp
    · obtain rfl := List.mem_singleton.1 hp
      rfl
  · rw [List.map_append]
    refine List.nodup_append.2 ⟨h.nd, by simp, fun a ha b hb e => ?_⟩
    simp at hb
    subst e hb
    exact p2 ha
  · rw [List.map_append] at hx
    rcases List.mem_append.1 hx with hx | hx
    · exact h.pos x hx
    · simp at hx; omega
  · rw [List.map_append]
    by_cases e : x = k
    · subst e; simp
    · have := p1 x.toNat (by omega)
      rw [Int.toNat_of_nonneg h0] at this
      exact List.mem_append_left _ this
  · rw [List.map_append]
    have : x ≠ k := by omega
    rw [← h.hi x (by omega)]
    simp [this]
  · have hsub : ∀ x, x ∈ sl.map (·.1) ↔ x ∈ upto k := fun x => by
      constructor
      · intro hx
        have h0 := h.pos x hx
        have hxk : x < k := by
          by_cases h1 : last < x
          · have := ((h.hi x h1).1 hx).2.1
            omega
          · omega
        have := (mem_upto k x.toNat).2 (by omega)
        rwa [Int.toNat_of_nonneg h0] at this
      · intro hx
        obtain ⟨j, hj, rfl⟩ := List.mem_map.1 hx
        exact p1 j (List.mem_range.1 hj)
    have hnd2 : (upto k).Nodup := by
      unfold upto
      exact List.nodup_range.map _ (fun a b hab e => hab (by omega))
    have := ((List.perm_ext_iff_of_nodup h.nd hnd2).2 hsub).length_eq
    simpa [upto] using this
end
/-- The first slots. -/
structure R1 (i : Nat) (used : Int) (sl : List (Int × List UInt8)) : Prop where
  used_eq : used = usedOf sl
  each : ∀ p ∈ sl, okc (p.2.length : Int) = true
  keys : sl.map (·.1) = upto i
theorem R1.len {i : Nat} {used : Int} {sl : List (Int × List UInt8)} (h : R1 i used sl) : sl.length = i := by
  have := congrArg List.length h.keys
  simpa [upto] using this
theorem R1.lo0 {i : Nat} {used : Int} {sl : List (Int × List UInt8)} (h : R1 i used sl) : 0 ≤ used := h.used_eq ▸ usedOf_nonneg _
theorem R1.hi0 {i : Nat} {used : Int} {sl : List (Int × List UInt8)} (h : R1 i used sl) : used ≤ 128 * i := by
  have := usedOf_le sl
  rw [h.len] at this
  rw [h.used_eq]
  exact this
theorem R1.take {i : Nat} {used : Int} {sl : List (Int × List UInt8)} (h : R1 i used sl) (hi : i < 100) : R1 (i + 1) (used + cls (1 + (i : Int))) (sl ++ [((i : Int), List.replicate (1 + (i : Int)).toNat 0)]) := by
  have e : (((1 + (i : Int)).toNat : Nat) : Int) = 1 + (i : Int) := by omega
  refine ⟨by rw [usedOf_snoc, h.used_eq, List.length_replicate, e], fun p hp => ?_, by rw [List.map_append, h.keys]; simp [upto, List.range_succ]⟩
  rcases List.mem_append.1 hp with hp | hp
  · exact h.each p hp
  · obtain rfl := List.mem_singleton.1 hp
    simp only [List.length_replicate, e]
    simp [okc]
    omega
theorem R1.ru {n : Nat} {used : Int} {sl : List (Int × List UInt8)} (h : R1 n used sl) (hnd : (sl.map (·.1)).Nodup) : Ru n n used sl [] (-1) := by
  refine ⟨h.used_eq, by rw [h.len]; exact Nat.le_refl _, h.each, hnd, fun x hx => ?_, fun x h0 h1 => by omega, fun x hx => ?_⟩
  · rw [h.keys] at hx
    obtain ⟨j, hj, rfl⟩ := List.mem_map.1 hx
    omega
  · rw [h.keys]
    simp only [aget, Option.getD_none, and_true]
    constructor
    · intro hx
      obtain ⟨j, hj, rfl⟩ := List.mem_map.1 hx
      have := List.mem_range.1 hj
      omega
    · intro ⟨h0, h1⟩
      have := (mem_upto n x.toNat).2 (by omega)
      rwa [Int.toNat_of_nonneg h0] at this
theorem zero4 (w : World) : (zeroValue 4).run Try.prog w = .ok (.bool false) w := by kernel_rfl
theorem look89 {w : World} {b : Nat} {fr : List (Int × Bool)} (h : MapAt (Value.int .i64) Value.bool okI w b fr) (x : Int) (hx : okI x) :
    (Instr.lookup 89 (.map (some b)) (.int .i64 x) false).run Try.prog w = .ok (.bool ((aget fr x).getD false)) w := by
  rw [h.lookup ki Try.underlying89 (zero4 w) hx false]
  unfold lookV
  cases aget fr x <;> rfl
set_option maxRecDepth 100000 in
set_option maxHeartbeats 8000000 in
theorem reuse_walk (many : UInt8) (A : Option Addr) (c : Nat) (l : List UInt8) (w : World) (hl : BytesRd w A l) :
    Calls Try.prog 12 #[.int .u8 (many.toNat : Int), .slice A l.length c] w fun e w' => e = .returned (.bool true) ∧ Upd [] w w' := by
  obtain ⟨m0, m1⟩ := byteBd many
  obtain ⟨n, hn⟩ : ∃ n, n = many.toNat % 100 := ⟨_, rfl⟩
  have hn2 : (many.toNat : Int) % 100 = (n : Int) := by omega
  have hn3 : n < 100 := by omega
  clear hn
  by_cases c1 : (200 : Int) < l.length
  · have z1 : decide ((200 : Int) < l.length) = true := decide_eq_true c1
    go_enter Try.func12, Try.ntmps12
    go_wp2_with (go_at_call 21; (with_reducible refine (works12 _).mono ?_); rintro e w1 ⟨rfl, u1⟩)
    go_ret
    exact ⟨rfl, u1⟩
  have z1 : decide ((200 : Int) < l.length) = false := decide_eq_false c1
  go_enter Try.func12, Try.ntmps12
  go_wp2_with fail
  refine (lNew (SepK.start w) 65536 (by omega) (by omega)).mono ?_
  rintro e w1 ⟨s, rfl, h1⟩
  go_wp2_with fail
  clear hn2
  go_loopg [8] n (fun kq v8 w' => ∃ (i : Nat) (used : Int) (sl : List (Int × List UInt8)), v8 = .int .i64 (i : Int) ∧ kq + i = n ∧ SepK w w' [] (star (slabR s 65536 used sl) emp) ∧ R1 i used sl)
  case atStart => exact ⟨0, 0, [], rfl, rfl, h1, ⟨rfl, by simp, rfl⟩⟩
  case round =>
    clear h1
    obtain ⟨i, used, sl, rfl, hk, hS, hR⟩ := hrel
    have hlo := hR.lo0
    have hhi := hR.hi0
    by_cases hi : i < n
    · have z4 : decide ((i : Int) < (n : Int)) = true := decide_eq_true (by omega)
      have hin : (i : Int) % 100 = (i : Int) := by omega
      have hok : okc (1 + (i : Int)) = true := by simp [okc]; omega
      have hcb := (cls_bd hok).2.1
      go_wp2_with fail
      refine (lTake_ok hS (1 + (i : Int)) hok (by omega) hlo (by omega) (by rw [hR.len]; omega)).mono ?_
      rintro e w2 ⟨k, ⟨rfl, p1, p2⟩, h2⟩
      rw [hR.keys] at p1 p2
      obtain rfl : k = i := next_is p1 p2
      clear p1 p2 hin
      go_wp2_with fail
      go_roundg (gk - 1)
      case measure => omega
      case rel => exact ⟨k + 1, _, _, by go_num, by omega, h2, hR.take (by omega)⟩
    · have z4 : decide ((i : Int) < (n : Int)) = false := decide_eq_false (by omega)
      obtain rfl : i = n := by omega
      have hRu := hR.ru hS.slots.1
      clear hR hlo hhi
      have h2 := (hS.map0 (Value.int .i64) Value.bool okI).swap
      have hmm := @run_makeMap Try.prog
      go_wp2_with fail
      generalize hbt : wr.heap.size = bt at h2 ⊢
      generalize hw2 : wr.alloc (.map #[] 0) = w2 at h2 ⊢
      clear hbt hw2 hS hk
      go_loopg [12] l.length (fun kq v12 w' => ∃ (j : Nat) (used : Int) (sl : List (Int × List UInt8)) (fr : List (Int × Bool)), v12 = .int .i64 (j : Int) ∧ kq + j = l.length ∧ SepK w w' [] (star (slabR s 65536 used sl) (star (mapR (Value.int .i64) Value.bool okI bt fr) emp)) ∧ Ru i i used sl fr (-1))
      case atStart => exact ⟨0, _, _, [], rfl, rfl, h2, hRu⟩
      case round =>
        clear h2 hRu
        obtain ⟨j, used, sl, fr, rfl, hk, hS, hR⟩ := hrel
        have hlo := hR.lo0
        have hhi := hR.hi0 (by omega)
        have hgo : (j < l.length ∧ 0 < i) ∨ ¬ (j < l.length ∧ 0 < i) := by omega
        by_cases hgo : j < l.length ∧ 0 < i
        · obtain ⟨hj, hi0⟩ := hgo
          have z4 : decide ((j : Int) < (l.length : Int)) = true := decide_eq_true (by omega)
          have z5 : decide ((0 : Int) < (i : Int)) = true := decide_eq_true (by omega)
          obtain ⟨x, hx⟩ : ∃ x, l[j]? = some x := ⟨l[j], List.getElem?_eq_getElem hj⟩
          obtain ⟨g, off, rfl, hc⟩ := (hl.keep hS.u) j x hx
          obtain ⟨b0, b1⟩ := byteBd x
          obtain ⟨k, hk'⟩ : ∃ k, k = x.toNat % i := ⟨_, rfl⟩
          have hki : (x.toNat : Int) % (i : Int) = (k : Int) := by rw [hk']; omega
          have hkn : k < i := by rw [hk']; exact Nat.mod_lt _ hi0
          clear hk'
          have hkI : okI (k : Int) := WalkArith.wf_i64 (by omega)
          go_wp2_with fail
          rw [hki]
          clear hki hc hx b0 b1 hgo
          have hSd := hS.upd (Upd.refl [] _).drew
          cases hb : aget sl (k : Int) with
          | none =>
            obtain ⟨hf, hR'⟩ := hR.no k hkn hb
            have r1 := look89 hSd.swap.map k hkI
            rw [hf] at r1
            have hh := hSd.swap
            go_region_with (go_at_call 51; refine (lGive_no hSd k hkI hb).mono ?_; rintro e wa ⟨rfl, rfl⟩)
            all_goals
              go_wp2_with (at_mapUpdate; refine wl_put rfl (.tmp 82) (.tmp 83) _ rfl ki Try.underlying89 rfl hh (k : Int) true rfl rfl hkI ?_; intro we hSe)
              go_roundg (gk - 1)
              case measure => omega
              case rel => exact ⟨j + 1, _, _, _, by go_num, by omega, hSe.swap, hR'⟩
          | some bs =>
            have hbl := hR.bs hb
            have hf := hR.yes k hb
            have hR' := hR.give k hkn hb
            have r1 := look89 hSd.swap.map k hkI
            rw [hf] at r1
            go_region_with (go_at_call 51; refine (lGive_ok hSd k hkI bs hb (by omega) hlo (by omega)).mono ?_; rintro e wa ⟨rfl, ha⟩; have hh := ha.swap; have r2 := look89 ha.swap.map k hkI; rw [hf] at r2)
            all_goals
              go_wp2_with (at_mapUpdate; refine wl_put rfl (.tmp 82) (.tmp 83) _ rfl ki Try.underlying89 rfl hh (k : Int) true rfl rfl hkI ?_; intro we hSe)
              go_roundg (gk - 1)
              case measure => omega
              case rel => exact ⟨j + 1, _, _, _, by go_num, by omega, hSe.swap, hR'⟩
        · have hz : (j < l.length ∧ ¬ 0 < i) ∨ ¬ j < l.length := by omega
          clear hgo hk hlo hhi hl hi
          rcases hz with ⟨z4, z5⟩ | z4
          all_goals
            go_wp2_with fail
            go_loopg [14, 15] (i + 3) (fun kq v14 v15 w' => ∃ (j : Nat) (last : Int) (used : Int) (sl : List (Int × List UInt8)), v15 = .int .i64 (j : Int) ∧ v14 = .int .i64 last ∧ kq + j = i + 3 ∧ -1 ≤ last ∧ last ≤ 400 ∧ SepK w w' [] (star (slabR s 65536 used sl) (star (mapR (Value.int .i64) Value.bool okI bt fr) emp)) ∧ Ru i (i + j) used sl fr last)
            case atStart => exact ⟨0, -1, _, _, rfl, rfl, rfl, by omega, by omega, hS, hR⟩
            case round =>
              clear hS hR
              obtain ⟨j, last, used, sl, rfl, rfl, hk, hl1, hl2, hS, hR⟩ := hrel
              obtain rfl : gk = i + 3 - j := by omega
              have hlo := hR.lo0
              have hlen := hR.len
              by_cases hj : j < i + 3
              · have z4 : decide ((j : Int) < (i : Int) + 3) = true := decide_eq_true (by omega)
                have hhi := hR.hi0 (by omega)
                go_wp2_with fail
                refine (lTake_ok hS 8 rfl (by have : cls 8 = 8 := rfl; omega) hlo (by omega) (by omega)).mono ?_
                rintro e w2 ⟨k, ⟨rfl, p1, p2⟩, h2⟩
                have hkI : okI (k : Int) := h2.slots.2 k (by simp)
                have hkl : k ≤ sl.length := by have := pigeon k _ p1; simpa using this
                obtain ⟨t1, t2, t3, t4, t5⟩ := hR.take k p1 p2
                clear p1 p2 hS hR
                have y0 : decide ((k : Int) ≤ last) = false := decide_eq_false (by omega)
                by_cases hkn : (k : Int) < i
                · have y1 : decide ((k : Int) < (i : Int)) = true := decide_eq_true hkn
                  have y2 : decide ((i : Int) ≤ (k : Int)) = false := decide_eq_false (by omega)
                  have r1 := look89 h2.swap.map k hkI
                  rw [t2 hkn] at r1
                  clear t2 t5
                  go_wp2_with fail
                  all_goals
                    clear y1 y2 r1 y0
                    have U2 := h2.u
                    have r2 : ∀ q : Int, last + 1 ≤ q → q < k → (Instr.lookup 89 (.map (some bt)) (.int .i64 q) false).run Try.prog w2 = .ok (.bool false) w2 := fun q a1 a2 => by
                      rw [look89 h2.swap.map q (WalkArith.wf_i64 (by omega))]
                      rcases t3 q (by omega) a2 with h | h
                      · rw [h]
                      · omega
                    obtain ⟨u9, hu9⟩ : ∃ u9 : Nat, (u9 : Int) = k - last - 1 := ⟨(k - last - 1).toNat, by omega⟩
                    go_wp2_with fail
                    go_loopg [18] u9 (fun kq v18 w' => ∃ q : Int, v18 = .int .i64 q ∧ last + 1 ≤ q ∧ (kq : Int) + q = k ∧ w' = w2)
                    case atStart => exact ⟨last + 1, rfl, by omega, by omega, rfl⟩
                    case round =>
                      obtain ⟨q, rfl, hq1, hq2, rfl⟩ := hrel
                      have hq3 : q ≤ k := by omega
                      by_cases hq : q < k ∧ q < i
                      · obtain ⟨hqa, hqb⟩ := hq
                        have y1 : decide (q < (k : Int)) = true := decide_eq_true hqa
                        have y2 : decide (q < (i : Int)) = true := decide_eq_true hqb
                        have r3 := r2 q hq1 hqa
                        clear r2
                        go_wp2_with fail
                        go_roundg (gk - 1)
                        case measure => omega
                        case rel => exact ⟨q + 1, rfl, by omega, by omega, rfl⟩
                      · have hy : (decide (q < (k : Int)) = true ∧ decide (q < (i : Int)) = false) ∨ decide (q < (k : Int)) = false := by
                          by_cases h1 : q < (k : Int)
                          · exact .inl ⟨decide_eq_true h1, decide_eq_false fun h2 => hq ⟨h1, h2⟩⟩
                          · exact .inr (decide_eq_false h1)
                        clear r2
                        rcases hy with ⟨y1, y2⟩ | y1
                        all_goals
                          go_wp2_with fail
                          go_roundg (i + 3 - j - 1)
                          case measure => omega
                          case rel => exact ⟨j + 1, (k : Int), _, _, by go_num, rfl, by omega, by omega, by omega, h2, t4⟩
                · have y1 : decide ((k : Int) < (i : Int)) = false := decide_eq_false hkn
                  have y2 : decide ((i : Int) ≤ (k : Int)) = true := decide_eq_true (by omega)
                  have hkk := t5 (by omega)
                  clear t2 t5
                  go_wp2_with fail
                  refine (lSlots h2 (by simp; omega)).mono ?_
                  rintro e w3 ⟨v, rfl, h3⟩
                  obtain ⟨A5, c5, rfl, hr5⟩ := h3.row
                  clear hr5
                  have e0 : ((keysOf (sl ++ [((k : Int), List.replicate (8 : Int).toNat 0)])).map encI).length = k + 1 := by rw [List.length_map, keysOf_len]; simp; omega
                  rw [e0] at h3 ⊢
                  have e1 : IntKind.i64.wrap (((k + 1 : Nat) : Int) - 1) = (k : Int) := by rw [IntWalk.i64_in _ (by omega)]; omega
                  clear e0 hkk
                  go_wp2_with fail
                  clear y1 y2 y0 e1
                  have U2 := h3.u
                  have r2 : ∀ q : Int, last + 1 ≤ q → q < k → (Instr.lookup 89 (.map (some bt)) (.int .i64 q) false).run Try.prog w3 = .ok (.bool false) w3 := fun q a1 a2 => by
                    rw [look89 h3.pull2.map q (WalkArith.wf_i64 (by omega))]
                    rcases t3 q (by omega) a2 with h | h
                    · rw [h]
                    · omega
                  obtain ⟨u9, hu9⟩ : ∃ u9 : Nat, (u9 : Int) = k - last - 1 := ⟨(k - last - 1).toNat, by omega⟩
                  go_wp2_with fail
                  go_loopg [18] u9 (fun kq v18 w' => ∃ q : Int, v18 = .int .i64 q ∧ last + 1 ≤ q ∧ (kq : Int) + q = k ∧ w' = w3)
                  case atStart => exact ⟨last + 1, rfl, by omega, by omega, rfl⟩
                  case round =>
                    obtain ⟨q, rfl, hq1, hq2, rfl⟩ := hrel
                    have hq3 : q ≤ k := by omega
                    by_cases hq : q < k ∧ q < i
                    · obtain ⟨hqa, hqb⟩ := hq
                      have y1 : decide (q < (k : Int)) = true := decide_eq_true hqa
                      have y2 : decide (q < (i : Int)) = true := decide_eq_true hqb
                      have r3 := r2 q hq1 hqa
                      clear r2
                      go_wp2_with fail
                      go_roundg (gk - 1)
                      case measure => omega
                      case rel => exact ⟨q + 1, rfl, by omega, by omega, rfl⟩
                    · have hy : (decide (q < (k : Int)) = true ∧ decide (q < (i : Int)) = false) ∨ decide (q < (k : Int)) = false := by
                        by_cases h1 : q < (k : Int)
                        · exact .inl ⟨decide_eq_true h1, decide_eq_false fun h2 => hq ⟨h1, h2⟩⟩
                        · exact .inr (decide_eq_false h1)
                      clear r2
                      rcases hy with ⟨y1, y2⟩ | y1
                      all_goals
                        go_wp2_with fail
                        go_roundg (i + 3 - j - 1)
                        case measure => omega
                        case rel => exact ⟨j + 1, (k : Int), _, _, by go_num, rfl, by omega, by omega, by omega, h3.imp fun _ g => star_tail g, t4⟩
              · have z4 : decide ((j : Int) < (i : Int) + 3) = false := decide_eq_false (by omega)
                have U := hS.u
                clear hS
                go_wp2_with (go_at_call 21; (with_reducible refine (works12 _).mono ?_); rintro e wc ⟨rfl, u1⟩)
                go_ret
                exact ⟨rfl, U.trans u1⟩
theorem reuse_of (a : Int) (A : Option Addr) (c : Nat) (l : List UInt8) (w : World) (hl : BytesRd w A l) (ha : (Lit.int .u8 a).wf = true) :
    Calls Try.prog 12 #[.int .u8 a, .slice A l.length c] w fun e w' => e = .returned (.bool true) ∧ Upd [] w w' := by
  have q1 : IntKind.u8.min ≤ a ∧ a ≤ IntKind.u8.max := by simpa [Lit.wf] using ha
  change (0 : Int) ≤ a ∧ a ≤ 255 at q1
  have e : ((UInt8.ofNat a.toNat).toNat : Int) = a := by simp [UInt8.toNat_ofNat']; omega
  have := reuse_walk (UInt8.ofNat a.toNat) A c l w hl
  rwa [e] at this
end Go.Proofs.Ytgleceijdedlkaa
