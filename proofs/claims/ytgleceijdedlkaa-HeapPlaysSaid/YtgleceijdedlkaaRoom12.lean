/- SlabRoom: the walk. -/
import Derived.Test.YtgleceijdedlkaaAll
import Derived.Test.YtgleceijdedlkaaApart12
namespace Go.Proofs.Ytgleceijdedlkaa
open Go.RowKit
set_option linter.unusedVariables false
set_option linter.unusedSimpArgs false
section
variable {w0 w : World} {K : List (Nat × Obj)} {T : Res} [Good T] {s : Nat} {room used : Int} {sl : List (Int × List UInt8)}
theorem lSlots (H : SepK w0 w K (star (slabR s room used sl) T)) (hl : sl.length ≤ 100000) :
    Calls Try.prog 52 #[.pointer (some ⟨s, 0, none⟩)] w fun e w' => ∃ v, e = .returned v ∧ SepK w0 w' K (star (rowR 3 1 v ((keysOf sl).map encI)) (star (slabR s room used sl) T)) := by
  obtain ⟨N, bm, l, h, e, -⟩ := H.get
  have hk : keysOf l = keysOf sl := by rw [← e]; unfold keysOf; rw [keys_mapv]
  have hll : l.length = sl.length := by rw [← e]; simp [mapv]
  refine (Slots_spec w s bm room used l h (by omega)).mono fun e' w' ⟨v, he, hr, u⟩ => ⟨v, he, ?_⟩
  rw [hk] at hr
  exact H.more u hr (fun _ hb => hb)
end
theorem usedOf_snoc (sl : List (Int × List UInt8)) (k : Int) (bs : List UInt8) : usedOf (sl ++ [(k, bs)]) = usedOf sl + cls bs.length := by
  simp [usedOf]
theorem adel_snoc {V : Type} (l : List (Int × V)) (x : Int) (v : V) (h : x ∉ l.map (·.1)) : adel (l ++ [(x, v)]) x = l := by
  have := adel_none h
  unfold adel at this ⊢
  rw [List.filter_append, this]
  simp
theorem aget_snoc {V : Type} (l : List (Int × V)) (x y : Int) (v : V) (h : x ∉ l.map (·.1)) : aget (l ++ [(x, v)]) y = if x = y then some v else aget l y := by
  rw [← aput_new v h, aget_aput]
/-- What the steps have made of a slab, and of what was written down. -/
structure Rm (room : Int) (n : Nat) (used : Int) (sl : List (Int × List UInt8)) (tk : List (Int × Int)) : Prop where
  used_eq : used = usedOf sl
  le : used ≤ room
  len : sl.length ≤ n
  each : ∀ p ∈ sl, okc (p.2.length : Int) = true
  took : ∀ x, (aget tk x).getD 0 = match aget sl x with | some bs => cls bs.length | none => 0
theorem Rm.lo {room : Int} {n : Nat} {used : Int} {sl : List (Int × List UInt8)} {tk : List (Int × Int)} (h : Rm room n used sl tk) : 0 ≤ used := h.used_eq ▸ usedOf_nonneg _
theorem Rm.more {room : Int} {n : Nat} {used : Int} {sl : List (Int × List UInt8)} {tk : List (Int × Int)} (h : Rm room n used sl tk) : Rm room (n + 1) used sl tk := { h with len := by have := h.len; omega }
theorem Rm.take {room : Int} {n : Nat} {used : Int} {sl : List (Int × List UInt8)} {tk : List (Int × Int)} (h : Rm room n used sl tk) (k : Int) (m : Nat) (hk : k ∉ sl.map (·.1)) (hm : okc (m : Int) = true) (hr : used + cls m ≤ room) :
    Rm room (n + 1) (used + cls m) (sl ++ [(k, List.replicate m 0)]) (aput tk k (cls m)) := by
  refine ⟨by rw [usedOf_snoc, h.used_eq]; simp, hr, by simp [h.len], fun p hp => ?_, fun x => ?_⟩
  · rcases List.mem_append.1 hp with hp | hp
    · exact h.each p hp
    · obtain rfl := List.mem_singleton.1 hp
      simpa using hm
  · rw [aget_aput, aget_snoc _ _ _ _ hk]
    split
    · simp
    · exact h.took x
theorem Rm.give {room : Int} {n : Nat} {used : Int} {sl : List (Int × List UInt8)} {tk : List (Int × Int)} (h : Rm room n used sl tk) (k c : Int) (hk : k ∉ sl.map (·.1)) : Rm room (n + 1) used sl (aput (aput tk k c) k 0) := by
  refine ⟨h.used_eq, h.le, by have := h.len; omega, h.each, fun x => ?_⟩
  rw [aget_aput]
  split
  · rename_i e
    subst e
    rw [(aget_none_iff sl k).2 hk]
    rfl
  · rename_i e
    rw [aget_aput_ne _ _ e]
    exact h.took x
theorem aget_dels {V : Type} (ks : List Int) (l : List (Int × V)) (x : Int) : aget (ks.foldl adel l) x = if x ∈ ks then none else aget l x := by
  induction ks generalizing l with
  | nil => simp
  | cons k ks ih =>
    rw [List.foldl_cons, ih, aget_adel]
    by_cases h1 : x ∈ ks
    · simp [h1]
    · by_cases h2 : k = x
      · subst h2; simp
      · simp [h1, h2, Ne.symm h2]
theorem mem_dels {V : Type} (ks : List Int) (l : List (Int × V)) (p : Int × V) (h : p ∈ ks.foldl adel l) : p ∈ l := by
  induction ks generalizing l with
  | nil => exact h
  | cons k ks ih => exact (mem_adel (ih _ h)).1
theorem none_nil {V : Type} (l : List (Int × V)) (h : ∀ x, aget l x = none) : l = [] := by
  cases l with
  | nil => rfl
  | cons p l => have := h p.1; simp [aget] at this
theorem zero3' (w : World) : (zeroValue 3).run Try.prog w = .ok (.int .i64 0) w := by kernel_rfl
theorem look82 {w : World} {b : Nat} {tk : List (Int × Int)} (h : MapAt (Value.int .i64) (Value.int .i64) okI w b tk) (x : Int) (hx : okI x) :
    (Instr.lookup 82 (.map (some b)) (.int .i64 x) false).run Try.prog w = .ok (.int .i64 ((aget tk x).getD 0)) w := by
  rw [h.lookup ki Try.underlying82 (zero3' w) hx false]
  unfold lookV
  cases aget tk x <;> rfl
set_option maxRecDepth 100000 in
set_option maxHeartbeats 8000000 in
theorem room_walk (room : Int) (A : Option Addr) (c : Nat) (l : List UInt8) (A2 : Option Addr) (c2 : Nat) (gl : List Bool) (w : World) (hl : BytesRd w A l) (hg : RowsAt w A2 1 (gl.map fun b => [Value.bool b])) (hr : 0 ≤ room ∧ room ≤ 65535) :
    Calls Try.prog 11 #[.int .u16 room, .slice A l.length c, .slice A2 gl.length c2] w fun e w' => e = .returned (.bool true) ∧ Upd [] w w' := by
  by_cases c1 : (300 : Int) < l.length
  · have z1 : decide ((300 : Int) < l.length) = true := decide_eq_true c1
    go_enter Try.func11, Try.ntmps11
    go_wp2_with (go_at_call 21; (with_reducible refine (works12 _).mono ?_); rintro e w1 ⟨rfl, u1⟩)
    go_ret
    exact ⟨rfl, u1⟩
  have z1 : decide ((300 : Int) < l.length) = false := decide_eq_false c1
  by_cases c3 : (300 : Int) < gl.length
  · have z2 : decide ((300 : Int) < gl.length) = true := decide_eq_true c3
    go_enter Try.func11, Try.ntmps11
    go_wp2_with (go_at_call 21; (with_reducible refine (works12 _).mono ?_); rintro e w1 ⟨rfl, u1⟩)
    go_ret
    exact ⟨rfl, u1⟩
  have z2 : decide ((300 : Int) < gl.length) = false := decide_eq_false c3
  go_enter Try.func11, Try.ntmps11
  go_wp2_with fail
  refine (lNew (SepK.start w) room hr.1 (by omega)).mono ?_
  rintro e w1 ⟨s, rfl, h1⟩
  have h2 := (h1.map0 (Value.int .i64) (Value.int .i64) okI).swap
  have hmm := @run_makeMap Try.prog
  go_wp2_with fail
  generalize hbt : w1.heap.size = bt at h2 ⊢
  generalize hw2 : w1.alloc (.map #[] 0) = w2 at h2 ⊢
  clear hbt hw2 h1
  go_loopg [10] l.length (fun kq v10 w' => ∃ (i : Nat) (used : Int) (sl : List (Int × List UInt8)) (tk : List (Int × Int)), v10 = .int .i64 (i : Int) ∧ kq + i = l.length ∧ SepK w w' [] (star (slabR s room used sl) (star (mapR (Value.int .i64) (Value.int .i64) okI bt tk) emp)) ∧ Rm room i used sl tk)
  case atStart => exact ⟨0, 0, [], [], rfl, rfl, h2, ⟨rfl, hr.1, by simp, by simp, fun x => rfl⟩⟩
  case round =>
    clear h2
    obtain ⟨i, used, sl, tk, rfl, hk, hS, hR⟩ := hrel
    by_cases hi : i < l.length
    · have z4 : decide ((i : Int) < (l.length : Int)) = true := decide_eq_true (by omega)
      obtain ⟨x, hx⟩ : ∃ x, l[i]? = some x := ⟨l[i], List.getElem?_eq_getElem hi⟩
      obtain ⟨g, off, rfl, hc⟩ := (hl.keep hS.u) i x hx
      have hsz := szN_int x
      have hbd := szN_bd x
      have hok := szN_ok x
      obtain ⟨b0, b1⟩ := byteBd x
      obtain ⟨m, hm⟩ : ∃ m, m = szN x := ⟨_, rfl⟩
      rw [← hm] at hsz hbd hok
      obtain ⟨b2, b3⟩ := hbd
      clear hm
      have hcb := cls_bd hok
      have hlo := hR.lo
      have hle := hR.le
      have hsl := hR.len
      go_wp2_with fail
      clear hsz hc
      refine (Class_spec _ _).mono ?_
      rintro e wa ⟨rfl, ua⟩
      rw [hok]
      have hSa := hS.upd ua
      clear hS ua
      obtain ⟨d1, d2, -, -, d3⟩ := hcb
      have y1 : decide (cls (m : Int) < (m : Int)) = false := decide_eq_false (by omega)
      have y2 : (decide (2 * (m : Int) ≤ cls (m : Int)) = false) ∨ (decide (2 * (m : Int) ≤ cls (m : Int)) = true ∧ decide ((8 : Int) < cls (m : Int)) = false) := by
        by_cases h : 2 * (m : Int) ≤ cls (m : Int)
        · refine .inr ⟨decide_eq_true h, decide_eq_false ?_⟩
          unfold cls at h ⊢
          revert h
          repeat' split
          all_goals omega
        · exact .inl (decide_eq_false h)
      go_wp2_with fail
      refine (lUsed hSa).mono ?_
      rintro e wb ⟨rfl, rfl⟩
      go_wp2_with fail
      have y4 : (((6 : Int) == 0) != false) = false := rfl
      by_cases hru : used + cls (m : Int) ≤ room
      · have y3 : decide (used + cls (m : Int) ≤ room) = true := decide_eq_true hru
        refine (lTake_ok hSa m hok hru hlo (by omega) (by omega)).mono ?_
        rintro e wc ⟨k, ⟨rfl, p1, p2⟩, hSc⟩
        rw [Int.toNat_natCast] at hSc
        have hkI : okI (k : Int) := by
          have := hSc.slots.2 k (by simp)
          exact this
        have hR' := hR.take k m p2 hok hru
        have htk : (aget tk (k : Int)).getD 0 = 0 := by rw [hR.took, (aget_none_iff sl (k : Int)).2 p2]
        have r1 := look82 hSc.swap.map k hkI
        rw [htk] at r1
        clear htk p1 hSa
        have hl2 : (List.replicate m (0 : UInt8)).length = m := by simp
        by_cases hgl : i < gl.length
        · have z6 : decide ((i : Int) < (gl.length : Int)) = true := decide_eq_true (by omega)
          obtain ⟨gb, hgb⟩ : ∃ gb, gl[i]? = some gb := ⟨gl[i], List.getElem?_eq_getElem hgl⟩
          obtain ⟨g2, off2, rfl, hc2⟩ := (hg.keep hSc.u) i [.bool gb] (by rw [List.getElem?_map, hgb]; rfl)
          have k2 : wc.cell? ⟨g2, off2 + i, none⟩ = some (.bool gb) := by simpa using hc2 0 _ rfl
          have k2f : ∀ w', Upd [] w w' → w'.cell? ⟨g2, off2 + i, none⟩ = some (.bool gb) := fun w' u => by
            obtain ⟨g', o', e, hc'⟩ := (hg.keep u) i [.bool gb] (by rw [List.getElem?_map, hgb]; rfl)
            cases e
            simpa using hc' 0 _ rfl
          clear hgb hc2
          cases gb
          · rcases y2 with y2 | ⟨y2, y2b⟩
            all_goals
              go_wp2_with (first
                | (go_at_call 50; refine (lUsed hSc).mono ?_; rintro e wd ⟨rfl, rfl⟩)
                | (at_mapUpdate; refine wl_put rfl (.tmp 109) (.tmp 110) _ rfl ki Try.underlying82 rfl hSc.swap (k : Int) _ rfl rfl hkI ?_; intro we hSe; have k3 := k2f _ hSe.u))
              go_roundg (gk - 1)
              case measure => omega
              case rel => exact ⟨i + 1, _, _, _, by go_num, by omega, hSe.swap, hR'⟩
          · rcases y2 with y2 | ⟨y2, y2b⟩
            all_goals
              go_wp2_with (first
                | (go_at_call 50; refine (lUsed hSc).mono ?_; rintro e wd ⟨rfl, rfl⟩)
                | (at_mapUpdate; refine wl_put rfl (.tmp 109) (.tmp 110) _ rfl ki Try.underlying82 rfl hSc.swap (k : Int) _ rfl rfl hkI ?_; intro we hSe; have k3 := k2f _ hSe.u))
              replace hSe := hSe.swap
              refine (lGive_ok hSe (k : Int) hkI (List.replicate m 0) (aget_last _ p2) (by simp; omega) (by omega) (by omega)).mono ?_
              rintro e wf ⟨rfl, hSf⟩
              rw [hl2, Int.add_sub_cancel, adel_snoc _ _ _ p2] at hSf
              have hR2 := hR.give k (cls (m : Int)) p2
              go_wp2_with (first
                | (go_at_call 50; refine (lUsed hSf).mono ?_; rintro e wd ⟨rfl, rfl⟩)
                | (at_mapUpdate; refine wl_put rfl (.tmp 136) (.tmp 137) _ rfl ki Try.underlying82 rfl hSf.swap (k : Int) _ rfl rfl hkI ?_; intro wg hSg))
              go_roundg (gk - 1)
              case measure => omega
              case rel => exact ⟨i + 1, _, _, _, by go_num, by omega, hSg.swap, hR2⟩
        · have z6 : decide ((i : Int) < (gl.length : Int)) = false := decide_eq_false (by omega)
          rcases y2 with y2 | ⟨y2, y2b⟩
          all_goals
            go_wp2_with (first
              | (go_at_call 50; refine (lUsed hSc).mono ?_; rintro e wd ⟨rfl, rfl⟩)
              | (at_mapUpdate; refine wl_put rfl (.tmp 109) (.tmp 110) _ rfl ki Try.underlying82 rfl hSc.swap (k : Int) _ rfl rfl hkI ?_; intro we hSe))
            go_roundg (gk - 1)
            case measure => omega
            case rel => exact ⟨i + 1, _, _, _, by go_num, by omega, hSe.swap, hR'⟩
      · have y3 : decide (used + cls (m : Int) ≤ room) = false := decide_eq_false hru
        refine (lTake_full hSa m hok (by omega) hlo (by omega)).mono ?_
        rintro e wc ⟨rfl, hSc⟩
        rcases y2 with y2 | ⟨y2, y2b⟩
        all_goals
          go_wp2_with fail
          go_roundg (gk - 1)
          case measure => omega
          case rel => exact ⟨i + 1, _, _, _, by go_num, by omega, hSc, hR.more⟩
    · have z4 : decide ((i : Int) < (l.length : Int)) = false := decide_eq_false (by omega)
      have hlen := hR.len
      go_wp2_with fail
      refine (lSlots hS (by omega)).mono ?_
      rintro e wa ⟨v, rfl, hSa⟩
      obtain ⟨A3, c3', rfl, hr3⟩ := hSa.row
      clear hr3 hS
      rw [List.length_map] at hSa ⊢
      obtain ⟨ks, hks⟩ : ∃ ks, ks = keysOf sl := ⟨_, rfl⟩
      have hmem : ∀ x, x ∈ ks ↔ x ∈ sl.map (·.1) := fun x => by rw [hks]; exact keysOf_mem sl x
      have hnd : ks.Nodup := by rw [hks]; exact ((List.mergeSort_perm _ _).nodup_iff).2 hSa.swap.slots.1
      have hkok : ∀ x ∈ ks, okI x := fun x hx => hSa.swap.slots.2 x ((hmem x).1 hx)
      rw [← hks] at hSa ⊢
      have hkl : ks.length ≤ 300 := by rw [hks, keysOf_len]; omega
      clear hks
      go_wp2_with fail
      go_loopg [18] ks.length (fun kq v18 w' => ∃ (j : Nat) (used' : Int), v18 = .int .i64 (j : Int) ∧ kq + j = ks.length ∧ SepK w w' [] (star (rowR 3 1 (.slice A3 ks.length c3') (ks.map encI)) (star (slabR s room used' ((ks.take j).foldl adel sl)) (star (mapR (Value.int .i64) (Value.int .i64) okI bt tk) emp))) ∧ used' = usedOf ((ks.take j).foldl adel sl) ∧ used' ≤ room)
      case atStart => exact ⟨0, used, rfl, rfl, hSa, hR.used_eq, hR.le⟩
      case round =>
        clear hSa
        obtain ⟨j, used', rfl, hk2, hS, hu, hur⟩ := hrel
        have hu0 := usedOf_nonneg ((ks.take j).foldl adel sl)
        by_cases hj : j < ks.length
        · have z5 : decide ((j : Int) < (ks.length : Int)) = true := decide_eq_true (by omega)
          obtain ⟨x, hx⟩ : ∃ x, ks[j]? = some x := ⟨ks[j], List.getElem?_eq_getElem hj⟩
          obtain ⟨A4, c4, e, hr⟩ := hS.row
          rw [List.length_map] at e
          cases e
          obtain ⟨b, off, rfl, hc⟩ := hr j (encI x) (by rw [List.getElem?_map, hx]; rfl)
          have k0 : wr.cell? ⟨b, off + j, none⟩ = some (.int .i64 x) := by simpa using hc 0 _ rfl
          clear hr hc
          have hxm : x ∈ ks := List.mem_of_getElem? hx
          have hxI := hkok x hxm
          have hnt : x ∉ ks.take j := fun hm => by
            obtain ⟨q, hq⟩ := List.mem_iff_getElem?.1 hm
            rw [List.getElem?_take] at hq
            split at hq
            · rename_i hqj
              have := (List.getElem?_inj (i := q) (j := j) (by omega) hnd).1 (hq.trans hx.symm)
              omega
            · cases hq
          obtain ⟨bs, hbs⟩ : ∃ bs, aget sl x = some bs := by
            cases h : aget sl x with
            | none => exact absurd ((hmem x).1 hxm) ((aget_none_iff sl x).1 h)
            | some bs => exact ⟨bs, rfl⟩
          have hbs' : aget ((ks.take j).foldl adel sl) x = some bs := by rw [aget_dels, if_neg hnt, hbs]
          have hok : okc (bs.length : Int) = true := hR.each _ (aget_mem hbs)
          have hcb := cls_bd hok
          have htk := hR.took x
          rw [hbs] at htk
          simp only at htk
          have r1 := look82 hS.pull2.map x hxI
          rw [htk] at r1
          have hts : ks.take (j + 1) = ks.take j ++ [x] := by rw [List.take_add_one, hx]; rfl
          have hfd : Unit → (ks.take (j + 1)).foldl adel sl = adel ((ks.take j).foldl adel sl) x := fun _ => by rw [hts, List.foldl_append]; rfl
          have hus : usedOf (adel ((ks.take j).foldl adel sl) x) = used' - cls bs.length := by rw [hu]; exact usedOf_del _ _ _ hS.swap.slots.1 hbs'
          have hub : used' ≤ 65536 := by omega
          clear htk hts hx
          have y1 : (cls (bs.length : Int) == 0) = false := beq_eq_false_iff_ne.2 (by omega)
          go_wp2_with fail
          refine (lGive_ok hS.swap x hxI bs hbs' (by simp [okc] at hok; omega) (by omega) hub).mono ?_
          rintro e wb ⟨rfl, hSb⟩
          go_wp2_with fail
          go_roundg (gk - 1)
          case measure => omega
          case rel =>
            refine ⟨j + 1, used' - cls (bs.length : Int), by go_num, by omega, ?_, ?_, by omega⟩
            · rw [hfd ()]
              exact hSb.swap
            · rw [hfd (), hus]
        · have z5 : decide ((j : Int) < (ks.length : Int)) = false := decide_eq_false (by omega)
          have hnil : (ks.take j).foldl adel sl = [] := none_nil _ fun x => by
            rw [aget_dels, List.take_of_length_le (by omega)]
            split
            · rfl
            · rename_i h
              exact (aget_none_iff sl x).2 fun hm => h ((hmem x).2 hm)
          rw [hnil] at hS hu
          obtain rfl : used' = 0 := by rw [hu]; rfl
          clear hu hnil hu0
          go_wp2_with fail
          refine (lUsed hS.swap).mono ?_
          rintro e wb ⟨rfl, rfl⟩
          go_wp2_with fail
          refine (lSlots hS.swap (by simp)).mono ?_
          rintro e wb ⟨v, rfl, hSb⟩
          obtain ⟨A5, c5, rfl, hr5⟩ := hSb.row
          clear hr5
          have U := hSb.u
          clear hSb hS
          have e0 : ((keysOf ([] : List (Int × List UInt8))).map encI).length = 0 := by simp [keysOf]
          rw [e0]
          go_wp2_with (go_at_call 21; (with_reducible refine (works12 _).mono ?_); rintro e wc ⟨rfl, u1⟩)
          go_ret
          exact ⟨rfl, U.trans u1⟩
end Go.Proofs.Ytgleceijdedlkaa
