/- HashMap: the walk. -/
import Derived.Test.YtagjcnhgappcjaaHKeeps
import Derived.Test.YtagjcnhgappcjaaHMap0
namespace Go.Proofs.Ytagjcnhgappcjaa
open Go.RowKit
set_option linter.unusedVariables false
set_option linter.unusedSimpArgs false
set_option linter.unusedSectionVars false
abbrev slotsR (ms : Nat) (vs : Vs) : Res := mapR Value.string (Value.int .i64) okS8 ms (swp vs)
theorem SepK.inn {w0 w : World} {K : List (Nat × Obj)} {R T : Res} {size n : Int} {bs bv : Nat} {vs : Vs} (H : SepK w0 w K (star R (hashR size n bs bv vs T))) : SepK w0 w K (hashR size n bs bv vs (star R T)) :=
  H.imp fun _ g => by
    obtain ⟨A, B, h1, ⟨hb, l, e, h2⟩, h3⟩ := g
    exact ⟨hb, l, e, star_imp (star_swap (R := R) ⟨A, B, h1, h2, h3⟩) fun _ g => star_imp (star_swap g) fun _ => star_swap⟩
theorem SepK.outt {w0 w : World} {K : List (Nat × Obj)} {R T : Res} {size n : Int} {bs bv : Nat} {vs : Vs} (H : SepK w0 w K (hashR size n bs bv vs (star R T))) : SepK w0 w K (star R (hashR size n bs bv vs T)) :=
  H.imp fun _ ⟨hb, l, e, g⟩ => star_imp (star_swap (star_imp g fun _ g => star_swap (star_imp g fun _ => star_swap))) fun _ g => ⟨hb, l, e, g⟩
theorem SepK.impT {w0 w : World} {K : List (Nat × Obj)} {T U : Res} {size n : Int} {bs bv : Nat} {vs : Vs} (H : SepK w0 w K (hashR size n bs bv vs T)) (f : ∀ N, T w N → U w N) : SepK w0 w K (hashR size n bs bv vs U) :=
  H.imp fun _ ⟨hb, l, e, g⟩ => ⟨hb, l, e, star_imp g fun _ g => star_imp g fun _ g => star_imp g f⟩
abbrev seenR (sm : Nat) (vs : Vs) (i : Nat) : Res := mapR (Value.int .i64) (Value.int .i64) okI sm (((tells vs).take i).map fun q => (slotOf vs q, (1 : Int)))
theorem seen_new {size n : Int} {vs : Vs} (hb : HB size n vs) {i : Nat} {q : List UInt8} (hq : (tells vs)[i]? = some q) : slotOf vs q ∉ (((tells vs).take i).map fun q => (slotOf vs q, (1 : Int))).map (·.1) := by
  have hs := tells_slots hb
  obtain ⟨hi, rfl⟩ := List.getElem?_eq_some_iff.1 hq
  rw [List.map_map]
  intro hm
  obtain ⟨q', hq', e⟩ := List.mem_map.1 hm
  obtain ⟨j, hj, rfl⟩ := List.mem_take_iff_getElem.1 hq'
  have h1 : ((tells vs).map (slotOf vs))[j]? = ((tells vs).map (slotOf vs))[i]? := by
    rw [List.getElem?_map, List.getElem?_map, List.getElem?_eq_getElem (by omega), List.getElem?_eq_getElem (by omega)]
    simp only [Option.map_some]
    exact congrArg some e
  have := (List.getElem?_inj (by simp; omega) hs).1 h1
  omega
theorem seen_more {vs : Vs} {i : Nat} {q : List UInt8} (hq : (tells vs)[i]? = some q) : (((tells vs).take (i + 1)).map fun q => (slotOf vs q, (1 : Int))) = (((tells vs).take i).map fun q => (slotOf vs q, (1 : Int))) ++ [(slotOf vs q, 1)] := by
  rw [List.take_add_one, hq]
  simp
theorem find_s {w0 w : World} {K : List (Nat × Obj)} {T : Res} {ms : Nat} {vs : Vs} (H : SepK w0 w K (star (slotsR ms vs) T)) (k : ByteArray) (hk : k.size ≤ 256) : (Instr.lookup 56 (.map (some ms)) (.string k) true).run Try.prog w = .ok (.tuple #[.int .i64 ((aget (swp vs) k).getD 0), .bool (aget (swp vs) k).isSome]) w := by
  rw [H.map.lookup ks Try.underlying56 (zero3h _) (by unfold okS8 maxLen; omega) true]
  cases aget (swp vs) k <;> rfl
theorem leq_no {p q : List UInt8} (h : ¬ q ≤ p) : Op.bytesLess (bstr q).toList (bstr p).toList = false ∧ ((bstr q).toList == (bstr p).toList) = false := by
  rw [Go.Lib.toList_data, Go.Lib.toList_data, Go.Proofs.bytesLess_eq]
  have h1 : p < q := List.not_le.1 h
  refine ⟨decide_eq_false fun h2 => List.lt_asymm h1 h2, ?_⟩
  rw [beq_eq_false_iff_ne]
  intro e
  have e2 : q = p := e
  subst e2
  exact List.lt_irrefl _ h1
set_option maxRecDepth 100000 in
set_option maxHeartbeats 8000000 in
theorem map_walk (nn : Int) (B : Option Addr) (cb : Nat) (lb : List St) (w : World) (hB : RowsAt w B 5 (lb.map encU)) (hsb : ∀ s ∈ lb, okU s) (hnn : 0 ≤ nn ∧ nn ≤ 255) :
    Calls Try.prog 5 #[.int .u8 nn, .slice B lb.length cb] w fun e w' => e = .returned (.bool true) ∧ Upd [] w w' := by
  cases hvb : heavyU lb with
  | true =>
    go_enter Try.func5, Try.ntmps5
    go_wp2_with (first | (go_at_call 8; (with_reducible refine (heavyU_spec B cb lb _ hB hsb).mono ?_); rw [hvb]; rintro e w1 ⟨rfl, u0⟩) | (go_at_call 9; (with_reducible refine (works _).mono ?_); rintro e w2 ⟨rfl, u1⟩))
    go_ret
    exact ⟨rfl, u0.trans u1⟩
  | false =>
  have hmm := @run_makeMap Try.prog
  have hlb := (heavyU_of hvb).1
  have hkb : ∀ s ∈ lb, s.key.size ≤ 256 := fun s hs => ((heavyU_of hvb).2 s hs).1
  have hn0 := hnn.1
  have hn1 := hnn.2
  go_enter Try.func5, Try.ntmps5
  go_wp2_with fail
  refine (heavyU_spec B cb lb _ hB hsb).mono ?_
  rw [hvb]
  rintro e w1 ⟨rfl, U⟩
  clear hvb
  have hm1 : 1 ≤ 1 + nn % 8 ∧ 1 + nn % 8 ≤ 8 := by omega
  obtain ⟨hm1, hm2⟩ := hm1
  go_wp2_with fail
  clear hn0 hn1 hnn
  generalize 1 + nn % 8 = m at hm1 hm2 ⊢
  refine (cNew ((SepK.start w).upd U) 8 m (by omega) (by omega) hm1 (by omega)).mono ?_
  rintro e w3 ⟨h, bs, bv, rfl, H0⟩
  clear U
  go_wp2_with fail
  have H1 := H0.map0 Value.string (Value.int .i64) okS8
  generalize hms : w3.heap.size = ms at H1 ⊢
  generalize w3.alloc (.map #[] 0) = w4 at H1 ⊢
  clear hms H0
  have H2 : SepK w w4 [(h, hblk 8 m bs bv)] (star (slotsR ms []) (hashR 8 m bs bv [] emp)) := H1
  clear H1 hmm
  go_loopg [9] lb.length (fun kq v9 w' => ∃ (i : Nat) (vs : Vs), v9 = .int .i64 (i : Int) ∧ kq + i = lb.length ∧ SepK w w' [(h, hblk 8 m bs bv)] (star (slotsR ms vs) (hashR 8 m bs bv vs emp)))
  case atStart => exact ⟨0, [], rfl, rfl, H2⟩
  case round =>
    clear H2
    obtain ⟨i, vs, rfl, hkk, H⟩ := hrel
    by_cases hi : i < lb.length
    · have z1 : decide ((i : Int) < (lb.length : Int)) = true := decide_eq_true (by omega)
      obtain ⟨x, hx⟩ : ∃ x, lb[i]? = some x := ⟨lb[i], List.getElem?_eq_getElem hi⟩
      obtain ⟨b, off, rfl, hc⟩ := (hB.keep H.u) i (encU x) (by rw [List.getElem?_map, hx]; rfl)
      have k0 : wr.cell? ⟨b, off + i * 5, none⟩ = some (.int .u8 x.d) := hc 0 _ rfl
      have k1 : wr.cell? ⟨b, off + i * 5 + 1, none⟩ = some (.string x.key) := hc 1 _ rfl
      have k2 : wr.cell? ⟨b, off + i * 5 + 2, none⟩ = some (.int .i64 x.slot) := hc 2 _ rfl
      have k3 : wr.cell? ⟨b, off + i * 5 + 3, none⟩ = some (.int .i64 x.pos) := hc 3 _ rfl
      have k4 : wr.cell? ⟨b, off + i * 5 + 4, none⟩ = some (.string x.s) := hc 4 _ rfl
      have y3 : (0 : Int) ≤ (i : Int) := by omega
      have y4 : (i : Int) < (lb.length : Int) := by omega
      have hxo := hsb x (List.mem_of_getElem? hx)
      have hxk := hkb x (List.mem_of_getElem? hx)
      have hd := hxo.1
      clear hc hx
      have H3 := H.alloc (.cells #[.int .u8 x.d, .string x.key, .int .i64 x.slot, .int .i64 x.pos, .string x.s] 32)
      have f3 := H3.blk List.mem_cons_self
      have q0 := cell_of f3 0
      have q1 := cell_of f3 1
      simp only [List.getElem?_toArray, List.getElem?_cons_zero, List.getElem?_cons_succ] at q0 q1
      have r1 := find_s H3 x.key hxk
      have l3 := lt_of_heap f3
      clear H
      have hb := H3.tl.open.1
      clear q0
      have q0 := cell_of f3 0
      simp only [List.getElem?_toArray, List.getElem?_cons_zero, List.getElem?_cons_succ] at q0
      go_upto_region 13 with fail
      clear k0 k1 k2 k3 k4 r1 q1
      generalize wr.alloc (.cells #[.int .u8 x.d, .string x.key, .int .i64 x.slot, .int .i64 x.pos, .string x.s] 32) = w5 at *
      generalize wr.heap.size = g at *
      have l3 := lt_of_heap (H3.blk List.mem_cons_self)
      have f3 := H3.blk List.mem_cons_self
      have q1 := cell_of f3 1
      simp only [List.getElem?_toArray, List.getElem?_cons_zero, List.getElem?_cons_succ] at q1
      rcases (by omega : x.d % 7 = 0 ∨ x.d % 7 = 1 ∨ x.d % 7 = 2 ∨ x.d % 7 = 3 ∨ 4 ≤ x.d % 7) with h7 | h7 | h7 | h7 | h7
      · have z0 : (x.d % 7 == 0) = true := by simp [h7]
        clear h7
        cases hg : aget (swp vs) x.key with
        | some s =>
          have h8 : x.key.size = 8 := Classical.byContradiction fun h => by rw [no_key hb h] at hg; cases hg
          have zk : ((x.key.size : Int) != 8) = false := by simp [h8]
          have hp := put_old (size := 8) (n := m) h8 hg
          obtain ⟨L, hL⟩ := hb.inv.find hg
          have hso := hb.okI hL
          have hap := aput_same hg
          have hgt : hget vs s = (bstr L, true) := by unfold hget; rw [hL]
          clear hg h8 hL
          simp only [Option.getD_some, Option.isSome_some]
          go_wp2_with fail
          refine (cPut H3.inn (List.mem_cons_of_mem _ (List.mem_cons_self ..)) x.key).mono ?_
          rw [hp]
          rintro e w6 ⟨rfl, H4⟩
          unfold putV
          have f4 := H4.blk List.mem_cons_self
          have q1 := cell_of f4 1
          have l4 := lt_of_heap f4
          simp only [List.getElem?_toArray, List.getElem?_cons_zero, List.getElem?_cons_succ] at q1
          clear f4 hp
          go_wp2_with fail
          refine (cGet H4 (List.mem_cons_of_mem _ (List.mem_cons_self ..)) s (okI_of hso (by omega))).mono ?_
          rw [hgt]
          rintro e w7 ⟨rfl, rfl⟩
          clear hgt
          unfold strV
          go_wp2_with (at_mapUpdate; refine wl_put rfl (.tmp 126) (.tmp 128) _ rfl ks Try.underlying56 rfl H4.outt x.key s rfl rfl (by unfold okS8 maxLen; omega) ?_; intro w8 H5)
          rw [hap] at H5
          go_roundg (gk - 1)
          case measure => omega
          case rel => exact ⟨i + 1, vs, by go_num, by omega, H5.drop _ (fun p hp => List.mem_cons_of_mem _ hp)⟩
        | none =>
          simp only [Option.getD_none, Option.isSome_none]
          by_cases h8 : x.key.size = 8
          · have zk : ((x.key.size : Int) != 8) = false := by simp [h8]
            by_cases hl : vs.length = m.toNat
            · have hp := put_full hb h8 hg hl
              have zl : ((vs.length : Int) == m) = true := by simp; omega
              clear hg h8 hl
              go_wp2_with fail
              refine (cPut H3.inn (List.mem_cons_of_mem _ (List.mem_cons_self ..)) x.key).mono ?_
              rw [hp]
              rintro e w6 ⟨rfl, H4⟩
              unfold putV
              have f4 := H4.blk List.mem_cons_self
              have q1 := cell_of f4 1
              have l4 := lt_of_heap f4
              simp only [List.getElem?_toArray, List.getElem?_cons_zero, List.getElem?_cons_succ] at q1
              clear f4 hp
              have rl := fun ty => H4.outt.map.len (P := Try.prog) Try.underlying56 ty
              simp only [swp_len] at rl
              go_wp2_with fail
              go_roundg (gk - 1)
              case measure => omega
              case rel => exact ⟨i + 1, vs, by go_num, by omega, H4.outt.drop _ (fun p hp => List.mem_cons_of_mem _ hp)⟩
            · obtain ⟨s, hp, hs0, hs1, hs2, _⟩ := put_new hb h8 hg hl
              have zl : ((vs.length : Int) == m) = false := by simp; omega
              have hap := aput_new (s : Int) ((aget_none_iff _ _).1 hg)
              have hgt : hget (vs ++ [(s, x.key, List.replicate (8 : Int).toNat 0)]) s = (bstr (List.replicate 8 0), true) := by
                unfold hget
                rw [aget_app, (aget_none_iff vs _).2 hs2]
                simp [aget]
              clear hg h8 hl hs2
              go_wp2_with fail
              refine (cPut H3.inn (List.mem_cons_of_mem _ (List.mem_cons_self ..)) x.key).mono ?_
              rw [hp]
              rintro e w6 ⟨rfl, H4⟩
              unfold putV
              have f4 := H4.blk List.mem_cons_self
              have q1 := cell_of f4 1
              have l4 := lt_of_heap f4
              simp only [List.getElem?_toArray, List.getElem?_cons_zero, List.getElem?_cons_succ] at q1
              clear hp
              have rl := fun ty => H4.outt.map.len (P := Try.prog) Try.underlying56 ty
              simp only [swp_len] at rl
              go_wp2_with fail
              refine (cGet H4 (List.mem_cons_of_mem _ (List.mem_cons_self ..)) s (okI_of ⟨hs0, hs1⟩ (by omega))).mono ?_
              rw [hgt]
              rintro e w7 ⟨rfl, rfl⟩
              clear hgt rl
              unfold strV
              have H5 := H4.alloc (zb 8)
              have f5 := H5.blk (List.mem_cons_of_mem _ List.mem_cons_self)
              have q1' := cell_of f5 1
              have l5 := lt_of_heap f5
              simp only [List.getElem?_toArray, List.getElem?_cons_zero, List.getElem?_cons_succ] at q1'
              have hmk : (Instr.makeSlice 58 (.int .i64 8) (.int .i64 8)).run Try.prog w6 = .ok (.slice (some ⟨w6.heap.size, 0, none⟩) 8 8) (w6.alloc (zb 8)) := make_bytes Try.underlying58 info5 w6 8 (by omega) (by omega)
              have hcv : (convert 58 9 (.slice (some ⟨w6.heap.size, 0, none⟩) 8 8)).run Try.prog (w6.alloc (zb 8)) = .ok (.string (bstr (List.replicate 8 0))) (w6.alloc (zb 8)) := by
                have hb : BytesAt 5 (w6.alloc (zb 8)) w6.heap.size (List.replicate 8 0) := BytesAt.made w6 8
                have := hb.conv (P := Try.prog) Try.underlying58 Try.underlying5 Try.underlying9 0 8 8 (by simp)
                rwa [List.drop_zero, List.take_of_length_le (by simp)] at this
              go_wp2_with (at_mapUpdate; refine wl_put rfl (.tmp 126) (.tmp 128) _ rfl ks Try.underlying56 rfl H5.outt x.key s rfl rfl (by unfold okS8 maxLen; omega) ?_; intro w8 H6)
              rw [hap, ← swp_put vs s x.key (List.replicate (8 : Int).toNat 0)] at H6
              go_roundg (gk - 1)
              case measure => omega
              case rel => exact ⟨i + 1, _, by go_num, by omega, H6.drop _ (fun p hp => List.mem_cons_of_mem _ (List.mem_cons_of_mem _ hp))⟩
          · have zk : ((x.key.size : Int) != 8) = true := by simp; omega
            have hp := put_bad (size := 8) (n := m) (vs := vs) h8
            clear hg h8
            go_wp2_with fail
            refine (cPut H3.inn (List.mem_cons_of_mem _ (List.mem_cons_self ..)) x.key).mono ?_
            rw [hp]
            rintro e w6 ⟨rfl, H4⟩
            unfold putV
            have f4 := H4.blk List.mem_cons_self
            have q1 := cell_of f4 1
            have l4 := lt_of_heap f4
            simp only [List.getElem?_toArray, List.getElem?_cons_zero, List.getElem?_cons_succ] at q1
            clear f4 hp
            go_wp2_with fail
            go_roundg (gk - 1)
            case measure => omega
            case rel => exact ⟨i + 1, vs, by go_num, by omega, H4.outt.drop _ (fun p hp => List.mem_cons_of_mem _ hp)⟩
      · have z1 : (x.d % 7 == 1) = true := by simp [h7]
        have z0 : (x.d % 7 == 0) = false := by simp [h7]
        clear h7
        cases hg : aget (swp vs) x.key with
        | some s =>
          have h8 : x.key.size = 8 := Classical.byContradiction fun h => by rw [no_key hb h] at hg; cases hg
          have zk : ((x.key.size : Int) != 8) = false := by simp [h8]
          have hp := put_old (size := 8) (n := m) h8 hg
          obtain ⟨L, hL⟩ := hb.inv.find hg
          have hso := hb.okI hL
          have hap := aput_same hg
          have hgt : hget vs s = (bstr L, true) := by unfold hget; rw [hL]
          clear hg h8 hL
          simp only [Option.getD_some, Option.isSome_some]
          go_wp2_with fail
          refine (cPut H3.inn (List.mem_cons_of_mem _ (List.mem_cons_self ..)) x.key).mono ?_
          rw [hp]
          rintro e w6 ⟨rfl, H4⟩
          unfold putV
          have f4 := H4.blk List.mem_cons_self
          have q1 := cell_of f4 1
          have l4 := lt_of_heap f4
          simp only [List.getElem?_toArray, List.getElem?_cons_zero, List.getElem?_cons_succ] at q1
          clear f4 hp
          go_wp2_with fail
          refine (cGet H4 (List.mem_cons_of_mem _ (List.mem_cons_self ..)) s (okI_of hso (by omega))).mono ?_
          rw [hgt]
          rintro e w7 ⟨rfl, rfl⟩
          clear hgt
          unfold strV
          go_wp2_with (at_mapUpdate; refine wl_put rfl (.tmp 126) (.tmp 128) _ rfl ks Try.underlying56 rfl H4.outt x.key s rfl rfl (by unfold okS8 maxLen; omega) ?_; intro w8 H5)
          rw [hap] at H5
          go_roundg (gk - 1)
          case measure => omega
          case rel => exact ⟨i + 1, vs, by go_num, by omega, H5.drop _ (fun p hp => List.mem_cons_of_mem _ hp)⟩
        | none =>
          simp only [Option.getD_none, Option.isSome_none]
          by_cases h8 : x.key.size = 8
          · have zk : ((x.key.size : Int) != 8) = false := by simp [h8]
            by_cases hl : vs.length = m.toNat
            · have hp := put_full hb h8 hg hl
              have zl : ((vs.length : Int) == m) = true := by simp; omega
              clear hg h8 hl
              go_wp2_with fail
              refine (cPut H3.inn (List.mem_cons_of_mem _ (List.mem_cons_self ..)) x.key).mono ?_
              rw [hp]
              rintro e w6 ⟨rfl, H4⟩
              unfold putV
              have f4 := H4.blk List.mem_cons_self
              have q1 := cell_of f4 1
              have l4 := lt_of_heap f4
              simp only [List.getElem?_toArray, List.getElem?_cons_zero, List.getElem?_cons_succ] at q1
              clear f4 hp
              have rl := fun ty => H4.outt.map.len (P := Try.prog) Try.underlying56 ty
              simp only [swp_len] at rl
              go_wp2_with fail
              go_roundg (gk - 1)
              case measure => omega
              case rel => exact ⟨i + 1, vs, by go_num, by omega, H4.outt.drop _ (fun p hp => List.mem_cons_of_mem _ hp)⟩
            · obtain ⟨s, hp, hs0, hs1, hs2, _⟩ := put_new hb h8 hg hl
              have zl : ((vs.length : Int) == m) = false := by simp; omega
              have hap := aput_new (s : Int) ((aget_none_iff _ _).1 hg)
              have hgt : hget (vs ++ [(s, x.key, List.replicate (8 : Int).toNat 0)]) s = (bstr (List.replicate 8 0), true) := by
                unfold hget
                rw [aget_app, (aget_none_iff vs _).2 hs2]
                simp [aget]
              clear hg h8 hl hs2
              go_wp2_with fail
              refine (cPut H3.inn (List.mem_cons_of_mem _ (List.mem_cons_self ..)) x.key).mono ?_
              rw [hp]
              rintro e w6 ⟨rfl, H4⟩
              unfold putV
              have f4 := H4.blk List.mem_cons_self
              have q1 := cell_of f4 1
              have l4 := lt_of_heap f4
              simp only [List.getElem?_toArray, List.getElem?_cons_zero, List.getElem?_cons_succ] at q1
              clear hp
              have rl := fun ty => H4.outt.map.len (P := Try.prog) Try.underlying56 ty
              simp only [swp_len] at rl
              go_wp2_with fail
              refine (cGet H4 (List.mem_cons_of_mem _ (List.mem_cons_self ..)) s (okI_of ⟨hs0, hs1⟩ (by omega))).mono ?_
              rw [hgt]
              rintro e w7 ⟨rfl, rfl⟩
              clear hgt rl
              unfold strV
              have H5 := H4.alloc (zb 8)
              have f5 := H5.blk (List.mem_cons_of_mem _ List.mem_cons_self)
              have q1' := cell_of f5 1
              have l5 := lt_of_heap f5
              simp only [List.getElem?_toArray, List.getElem?_cons_zero, List.getElem?_cons_succ] at q1'
              have hmk : (Instr.makeSlice 58 (.int .i64 8) (.int .i64 8)).run Try.prog w6 = .ok (.slice (some ⟨w6.heap.size, 0, none⟩) 8 8) (w6.alloc (zb 8)) := make_bytes Try.underlying58 info5 w6 8 (by omega) (by omega)
              have hcv : (convert 58 9 (.slice (some ⟨w6.heap.size, 0, none⟩) 8 8)).run Try.prog (w6.alloc (zb 8)) = .ok (.string (bstr (List.replicate 8 0))) (w6.alloc (zb 8)) := by
                have hb : BytesAt 5 (w6.alloc (zb 8)) w6.heap.size (List.replicate 8 0) := BytesAt.made w6 8
                have := hb.conv (P := Try.prog) Try.underlying58 Try.underlying5 Try.underlying9 0 8 8 (by simp)
                rwa [List.drop_zero, List.take_of_length_le (by simp)] at this
              go_wp2_with (at_mapUpdate; refine wl_put rfl (.tmp 126) (.tmp 128) _ rfl ks Try.underlying56 rfl H5.outt x.key s rfl rfl (by unfold okS8 maxLen; omega) ?_; intro w8 H6)
              rw [hap, ← swp_put vs s x.key (List.replicate (8 : Int).toNat 0)] at H6
              go_roundg (gk - 1)
              case measure => omega
              case rel => exact ⟨i + 1, _, by go_num, by omega, H6.drop _ (fun p hp => List.mem_cons_of_mem _ (List.mem_cons_of_mem _ hp))⟩
          · have zk : ((x.key.size : Int) != 8) = true := by simp; omega
            have hp := put_bad (size := 8) (n := m) (vs := vs) h8
            clear hg h8
            go_wp2_with fail
            refine (cPut H3.inn (List.mem_cons_of_mem _ (List.mem_cons_self ..)) x.key).mono ?_
            rw [hp]
            rintro e w6 ⟨rfl, H4⟩
            unfold putV
            have f4 := H4.blk List.mem_cons_self
            have q1 := cell_of f4 1
            have l4 := lt_of_heap f4
            simp only [List.getElem?_toArray, List.getElem?_cons_zero, List.getElem?_cons_succ] at q1
            clear f4 hp
            go_wp2_with fail
            go_roundg (gk - 1)
            case measure => omega
            case rel => exact ⟨i + 1, vs, by go_num, by omega, H4.outt.drop _ (fun p hp => List.mem_cons_of_mem _ hp)⟩
      · have z2 : (x.d % 7 == 2) = true := by simp [h7]
        have z0 : (x.d % 7 == 0) = false := by simp [h7]
        have z1 : (x.d % 7 == 1) = false := by simp [h7]
        clear h7
        cases hg : aget (swp vs) x.key with
        | some s =>
          have h8 : x.key.size = 8 := Classical.byContradiction fun h => by rw [no_key hb h] at hg; cases hg
          have zk : ((x.key.size : Int) != 8) = false := by simp [h8]
          have hp := put_old (size := 8) (n := m) h8 hg
          obtain ⟨L, hL⟩ := hb.inv.find hg
          have hso := hb.okI hL
          have hap := aput_same hg
          have hgt : hget vs s = (bstr L, true) := by unfold hget; rw [hL]
          clear hg h8 hL
          simp only [Option.getD_some, Option.isSome_some]
          go_wp2_with fail
          refine (cPut H3.inn (List.mem_cons_of_mem _ (List.mem_cons_self ..)) x.key).mono ?_
          rw [hp]
          rintro e w6 ⟨rfl, H4⟩
          unfold putV
          have f4 := H4.blk List.mem_cons_self
          have q1 := cell_of f4 1
          have l4 := lt_of_heap f4
          simp only [List.getElem?_toArray, List.getElem?_cons_zero, List.getElem?_cons_succ] at q1
          clear f4 hp
          go_wp2_with fail
          refine (cGet H4 (List.mem_cons_of_mem _ (List.mem_cons_self ..)) s (okI_of hso (by omega))).mono ?_
          rw [hgt]
          rintro e w7 ⟨rfl, rfl⟩
          clear hgt
          unfold strV
          go_wp2_with (at_mapUpdate; refine wl_put rfl (.tmp 126) (.tmp 128) _ rfl ks Try.underlying56 rfl H4.outt x.key s rfl rfl (by unfold okS8 maxLen; omega) ?_; intro w8 H5)
          rw [hap] at H5
          go_roundg (gk - 1)
          case measure => omega
          case rel => exact ⟨i + 1, vs, by go_num, by omega, H5.drop _ (fun p hp => List.mem_cons_of_mem _ hp)⟩
        | none =>
          simp only [Option.getD_none, Option.isSome_none]
          by_cases h8 : x.key.size = 8
          · have zk : ((x.key.size : Int) != 8) = false := by simp [h8]
            by_cases hl : vs.length = m.toNat
            · have hp := put_full hb h8 hg hl
              have zl : ((vs.length : Int) == m) = true := by simp; omega
              clear hg h8 hl
              go_wp2_with fail
              refine (cPut H3.inn (List.mem_cons_of_mem _ (List.mem_cons_self ..)) x.key).mono ?_
              rw [hp]
              rintro e w6 ⟨rfl, H4⟩
              unfold putV
              have f4 := H4.blk List.mem_cons_self
              have q1 := cell_of f4 1
              have l4 := lt_of_heap f4
              simp only [List.getElem?_toArray, List.getElem?_cons_zero, List.getElem?_cons_succ] at q1
              clear f4 hp
              have rl := fun ty => H4.outt.map.len (P := Try.prog) Try.underlying56 ty
              simp only [swp_len] at rl
              go_wp2_with fail
              go_roundg (gk - 1)
              case measure => omega
              case rel => exact ⟨i + 1, vs, by go_num, by omega, H4.outt.drop _ (fun p hp => List.mem_cons_of_mem _ hp)⟩
            · obtain ⟨s, hp, hs0, hs1, hs2, _⟩ := put_new hb h8 hg hl
              have zl : ((vs.length : Int) == m) = false := by simp; omega
              have hap := aput_new (s : Int) ((aget_none_iff _ _).1 hg)
              have hgt : hget (vs ++ [(s, x.key, List.replicate (8 : Int).toNat 0)]) s = (bstr (List.replicate 8 0), true) := by
                unfold hget
                rw [aget_app, (aget_none_iff vs _).2 hs2]
                simp [aget]
              clear hg h8 hl hs2
              go_wp2_with fail
              refine (cPut H3.inn (List.mem_cons_of_mem _ (List.mem_cons_self ..)) x.key).mono ?_
              rw [hp]
              rintro e w6 ⟨rfl, H4⟩
              unfold putV
              have f4 := H4.blk List.mem_cons_self
              have q1 := cell_of f4 1
              have l4 := lt_of_heap f4
              simp only [List.getElem?_toArray, List.getElem?_cons_zero, List.getElem?_cons_succ] at q1
              clear hp
              have rl := fun ty => H4.outt.map.len (P := Try.prog) Try.underlying56 ty
              simp only [swp_len] at rl
              go_wp2_with fail
              refine (cGet H4 (List.mem_cons_of_mem _ (List.mem_cons_self ..)) s (okI_of ⟨hs0, hs1⟩ (by omega))).mono ?_
              rw [hgt]
              rintro e w7 ⟨rfl, rfl⟩
              clear hgt rl
              unfold strV
              have H5 := H4.alloc (zb 8)
              have f5 := H5.blk (List.mem_cons_of_mem _ List.mem_cons_self)
              have q1' := cell_of f5 1
              have l5 := lt_of_heap f5
              simp only [List.getElem?_toArray, List.getElem?_cons_zero, List.getElem?_cons_succ] at q1'
              have hmk : (Instr.makeSlice 58 (.int .i64 8) (.int .i64 8)).run Try.prog w6 = .ok (.slice (some ⟨w6.heap.size, 0, none⟩) 8 8) (w6.alloc (zb 8)) := make_bytes Try.underlying58 info5 w6 8 (by omega) (by omega)
              have hcv : (convert 58 9 (.slice (some ⟨w6.heap.size, 0, none⟩) 8 8)).run Try.prog (w6.alloc (zb 8)) = .ok (.string (bstr (List.replicate 8 0))) (w6.alloc (zb 8)) := by
                have hb : BytesAt 5 (w6.alloc (zb 8)) w6.heap.size (List.replicate 8 0) := BytesAt.made w6 8
                have := hb.conv (P := Try.prog) Try.underlying58 Try.underlying5 Try.underlying9 0 8 8 (by simp)
                rwa [List.drop_zero, List.take_of_length_le (by simp)] at this
              go_wp2_with (at_mapUpdate; refine wl_put rfl (.tmp 126) (.tmp 128) _ rfl ks Try.underlying56 rfl H5.outt x.key s rfl rfl (by unfold okS8 maxLen; omega) ?_; intro w8 H6)
              rw [hap, ← swp_put vs s x.key (List.replicate (8 : Int).toNat 0)] at H6
              go_roundg (gk - 1)
              case measure => omega
              case rel => exact ⟨i + 1, _, by go_num, by omega, H6.drop _ (fun p hp => List.mem_cons_of_mem _ (List.mem_cons_of_mem _ hp))⟩
          · have zk : ((x.key.size : Int) != 8) = true := by simp; omega
            have hp := put_bad (size := 8) (n := m) (vs := vs) h8
            clear hg h8
            go_wp2_with fail
            refine (cPut H3.inn (List.mem_cons_of_mem _ (List.mem_cons_self ..)) x.key).mono ?_
            rw [hp]
            rintro e w6 ⟨rfl, H4⟩
            unfold putV
            have f4 := H4.blk List.mem_cons_self
            have q1 := cell_of f4 1
            have l4 := lt_of_heap f4
            simp only [List.getElem?_toArray, List.getElem?_cons_zero, List.getElem?_cons_succ] at q1
            clear f4 hp
            go_wp2_with fail
            go_roundg (gk - 1)
            case measure => omega
            case rel => exact ⟨i + 1, vs, by go_num, by omega, H4.outt.drop _ (fun p hp => List.mem_cons_of_mem _ hp)⟩
      · have z3 : (x.d % 7 == 3) = true := by simp [h7]
        have z0 : (x.d % 7 == 0) = false := by simp [h7]
        have z1' : (x.d % 7 == 1) = false := by simp [h7]
        have z2 : (x.d % 7 == 2) = false := by simp [h7]
        clear h7
        have hdel : ∃ r, ∃ e : Int, ∃ vs', drop vs x.key = ((r, e), vs') ∧ swp vs' = adel (swp vs) x.key ∧ (((e == 0) = true ∧ aget (swp vs) x.key = some r) ∨ ((e == 0) = false ∧ aget (swp vs) x.key = none)) := by
          by_cases h8 : x.key.size = 8
          · cases hg : aget (swp vs) x.key with
            | some s =>
              obtain ⟨L, hL⟩ := hb.inv.find hg
              exact ⟨s, 0, adel vs s, drop_old h8 hg, swp_adel hb.inv hL, .inl ⟨rfl, rfl⟩⟩
            | none => exact ⟨0, 5, vs, drop_no h8 hg, (adel_none ((aget_none_iff _ _).1 hg)).symm, .inr ⟨rfl, rfl⟩⟩
          · have hg := no_key hb h8
            exact ⟨0, 2, vs, drop_bad h8, (adel_none ((aget_none_iff _ _).1 hg)).symm, .inr ⟨rfl, hg⟩⟩
        obtain ⟨r, ee, vs', hdr, hsw, ⟨ze, hg⟩ | ⟨ze, hg⟩⟩ := hdel
        all_goals
          rw [hg]
          simp only [Option.getD_none, Option.isSome_none, Option.getD_some, Option.isSome_some]
          clear hg
          go_wp2_with fail
          refine (cDrop H3.inn (List.mem_cons_of_mem _ (List.mem_cons_self ..)) x.key).mono ?_
          rw [hdr]
          rintro e w6 ⟨rfl, H4⟩
          unfold twoV
          clear hdr
          have f4 := H4.blk List.mem_cons_self
          have q1 := cell_of f4 1
          have l4 := lt_of_heap f4
          simp only [List.getElem?_toArray, List.getElem?_cons_zero, List.getElem?_cons_succ] at q1
          go_wp2_with (at_delete; refine wl_del rfl (.tmp 151) (.tmp 153) #[56, 9] rfl rfl ks Try.underlying56 rfl H4.outt x.key rfl (by unfold okS8 maxLen; omega) ?_; intro w8 H6)
          rw [← hsw] at H6
          go_roundg (gk - 1)
          case measure => omega
          case rel => exact ⟨i + 1, _, by go_num, by omega, H6.drop _ (fun p hp => List.mem_cons_of_mem _ hp)⟩
      · have z3 : (x.d % 7 == 3) = false := by simp; omega
        have z0 : (x.d % 7 == 0) = false := by simp; omega
        have z1' : (x.d % 7 == 1) = false := by simp; omega
        have z2 : (x.d % 7 == 2) = false := by simp; omega
        clear h7
        go_wp2_with fail
        go_roundg (gk - 1)
        case measure => omega
        case rel => exact ⟨i + 1, _, by go_num, by omega, H3.drop _ (fun p hp => List.mem_cons_of_mem _ hp)⟩
    · have z1 : decide ((i : Int) < (lb.length : Int)) = false := decide_eq_false (by omega)
      have hb := H.tl.open.1
      have hlen : vs.length ≤ m.toNat := hb.len
      clear hB hsb hkb
      have e0 : (slotsV vs).length = vs.length := by unfold slotsV keysOf; simp
      have e1 : (keysV vs).length = vs.length := by
        have := tells_len vs
        unfold keysV
        rw [List.length_map]
        exact this
      have zl : decide (m < (vs.length : Int)) = false := decide_eq_false (by omega)
      have rl := fun ty => H.map.len (P := Try.prog) Try.underlying56 ty
      simp only [swp_len] at rl
      go_wp2_with fail
      refine (cSlots H.inn (List.mem_cons_self ..)).mono ?_
      rintro e w5 ⟨v, rfl, H3⟩
      obtain ⟨A1, c1, rfl, -⟩ := H3.row
      rw [e0]
      have H4 := H3.tl
      clear H3 H rl
      have rl := fun ty => H4.outt.map.len (P := Try.prog) Try.underlying56 ty
      simp only [swp_len] at rl
      go_wp2_with fail
      refine (cKeys H4 (List.mem_cons_self ..)).mono ?_
      rintro e w6 ⟨v, rfl, H5⟩
      obtain ⟨A2, c2, rfl, -⟩ := H5.row
      rw [e1]
      have H6 := H5.tl
      clear H5 H4 rl
      have rl := fun ty => H6.outt.map.len (P := Try.prog) Try.underlying56 ty
      simp only [swp_len] at rl
      have H7 : SepK w (w6.alloc (.map #[] 0)) [(h, hblk 8 m bs bv)] (star (seenR w6.heap.size vs 0) (hashR 8 m bs bv vs (star (slotsR ms vs) emp))) := H6.map0 (Value.int .i64) (Value.int .i64) okI
      have hmm := @run_makeMap Try.prog
      go_wp2_with fail
      clear hmm rl H6
      refine (cKeys H7.inn (List.mem_cons_self ..)).mono ?_
      rintro e w7 ⟨v, rfl, H8⟩
      generalize w6.heap.size = sm at H8 H7 ⊢
      clear H7
      obtain ⟨A3, c3, rfl, -⟩ := H8.row
      rw [e1] at H8 ⊢
      have H9 := H8.inn
      clear H8
      have e2 := tells_len vs
      go_wp2_with fail
      go_loopg [22] vs.length (fun kq v22 w' => ∃ i : Nat, v22 = .int .i64 (i : Int) ∧ kq + i = vs.length ∧ SepK w w' [(h, hblk 8 m bs bv)] (hashR 8 m bs bv vs (star (rowR 9 1 (.slice A3 vs.length c3) (keysV vs)) (star (seenR sm vs i) (star (slotsR ms vs) emp)))))
      case atStart => exact ⟨0, rfl, rfl, H9⟩
      case round =>
        clear H9
        obtain ⟨i, rfl, hkk, H⟩ := hrel
        by_cases hi : i < vs.length
        · have y1 : decide ((i : Int) < (vs.length : Int)) = true := decide_eq_true (by omega)
          obtain ⟨q, hq⟩ : ∃ q, (tells vs)[i]? = some q := ⟨(tells vs)[i], List.getElem?_eq_getElem (by omega)⟩
          obtain ⟨hf, hk, hg, hs0, hs1, hq8⟩ := tells_slot hb (List.mem_of_getElem? hq)
          obtain ⟨A4, c4, e4, hr⟩ := H.outt.row
          rw [e1] at e4
          cases e4
          obtain ⟨b, off, rfl, hc⟩ := hr i (encT q) (by unfold keysV; rw [List.getElem?_map]; show ((tells vs)[i]?).map encT = _; rw [hq]; rfl)
          have k0 : wr.cell? ⟨b, off + i, none⟩ = some (.string (bstr q)) := by
            have h0 : wr.cell? ⟨b, off + i, none⟩ = some (Go.Proofs.encStr q) := by simpa using hc 0 _ rfl
            exact h0
          have r1 := find_s H.outt.tl.outt.tl.outt (bstr q) (by rw [bstr_size]; omega)
          rw [hg] at r1
          simp only [Option.getD_some, Option.isSome_some] at r1
          have y3 : (0 : Int) ≤ (i : Int) := by omega
          have y4 : (i : Int) < (vs.length : Int) := by omega
          go_wp2_with fail
          refine (cFind H (List.mem_cons_self ..) (bstr q)).mono ?_
          rw [hf]
          rintro e w8 ⟨rfl, rfl⟩
          unfold twoV
          have hso := okI_of ⟨hs0, hs1⟩ (show m ≤ 256 by omega)
          go_wp2_with fail
          refine (cKey H (List.mem_cons_self ..) (slotOf vs q) hso).mono ?_
          rw [hk]
          rintro e w8 ⟨rfl, rfl⟩
          unfold strV
          have hnew := seen_new hb hq
          have H10 := (H.impT (U := star (seenR sm vs i) (star (rowR 9 1 (.slice (some ⟨b, off, none⟩) vs.length c3) (keysV vs)) (star (slotsR ms vs) emp))) fun _ => star_swap).outt
          have r2 : (Instr.lookup 59 (.map (some sm)) (.int .i64 (slotOf vs q)) false).run Try.prog wr = .ok (.int .i64 0) wr := by
            rw [H10.map.lookup ki Try.underlying59 (zero3h _) hso false, (aget_none_iff _ _).2 hnew]; rfl
          have hsm := (aput_new (1 : Int) hnew).trans (seen_more hq).symm
          have hnx : ∀ p, (tells vs)[i - 1]? = some p → 0 < i → ¬ q ≤ p := fun p hp h0 => tells_lt hb hp (by rw [show i - 1 + 1 = i by omega]; exact hq)
          have hsg : aget (((tells vs).take (i + 1)).map fun q => (slotOf vs q, (1 : Int))) (slotOf vs q) = some 1 := by rw [← hsm]; exact aget_aput_self _ _ _
          clear hf hk hg hnew hr hc H
          generalize hsq : slotOf vs q = s at *
          clear hsq
          go_wp2_with (at_mapUpdate; refine wl_put rfl (.tmp 207) (.tmp 208) _ rfl ki Try.underlying59 rfl H10 s 1 rfl rfl hso ?_; intro w8 H11)
          rw [hsm] at H11
          obtain ⟨A4, c4, e4, hr⟩ := H11.tl.outt.row
          rw [e1] at e4
          cases e4
          obtain ⟨b', off', e5, hc⟩ := hr i (encT q) (by unfold keysV; rw [List.getElem?_map]; show ((tells vs)[i]?).map encT = _; rw [hq]; rfl)
          cases e5
          have k0 : w8.cell? ⟨b, off + i, none⟩ = some (.string (bstr q)) := by
            have h0 : w8.cell? ⟨b, off + i, none⟩ = some (Go.Proofs.encStr q) := by simpa using hc 0 _ rfl
            exact h0
          have r2 : ∀ n, (Instr.lookup 59 (.map (some sm)) (.int .i64 s) false).run Try.prog (w8.drewN n) = .ok (.int .i64 1) (w8.drewN n) := fun n => by
            rw [(H11.map.drewN n).lookup ki Try.underlying59 (zero3h _) hso false, hsg]; rfl
          have H12 : SepK w w8 [(h, hblk 8 m bs bv)] (hashR 8 m bs bv vs (star (rowR 9 1 (.slice (some ⟨b, off, none⟩) vs.length c3) (keysV vs)) (star (seenR sm vs (i + 1)) (star (slotsR ms vs) emp)))) := H11.inn.impT fun _ => star_swap
          clear hc hsg hsm
          by_cases hi0 : 0 < i
          · have y5 : decide (0 < i) = true := decide_eq_true hi0
            obtain ⟨p, hp⟩ : ∃ p, (tells vs)[i - 1]? = some p := ⟨(tells vs)[i - 1], List.getElem?_eq_getElem (by omega)⟩
            have hlt := hnx p hp hi0
            obtain ⟨b', off', e5, hc⟩ := hr (i - 1) (encT p) (by unfold keysV; rw [List.getElem?_map]; show ((tells vs)[i - 1]?).map encT = _; rw [hp]; rfl)
            cases e5
            have k1 : w8.cell? ⟨b, off + (i - 1), none⟩ = some (.string (bstr p)) := by
              have h0 : w8.cell? ⟨b, off + (i - 1), none⟩ = some (Go.Proofs.encStr p) := by simpa using hc 0 _ rfl
              exact h0
            obtain ⟨z5, z6⟩ := leq_no hlt
            clear hc hr hp hq hnx H10 hlt
            have y6 : (0 : Int) ≤ (i : Int) - 1 := by omega
            have y7 : (1 : Int) ≤ (i : Int) := by omega
            have y8 : (i : Int) - 1 < (vs.length : Int) := by omega
            have y9 : ((i : Int) - 1).toNat = i - 1 := by omega
            go_frame
            go_quiet (fail)
            go_wp2_with fail
            go_roundg (gk - 1)
            case measure => omega
            case rel => exact ⟨i + 1, by go_num, by omega, H12.upd ((Upd.refl [] _).drewN _)⟩
          · have y5 : decide (0 < i) = false := decide_eq_false hi0
            clear hr hq hnx H10
            go_frame
            go_quiet (fail)
            go_wp2_with fail
            go_roundg (gk - 1)
            case measure => omega
            case rel => exact ⟨i + 1, by go_num, by omega, H12.upd ((Upd.refl [] _).drewN _)⟩
        · have y1 : decide ((i : Int) < (vs.length : Int)) = false := decide_eq_false (by omega)
          go_wp2_with (go_at_call 9; (with_reducible refine (works _).mono ?_); rintro e w9 ⟨rfl, u9⟩)
          go_ret
          exact ⟨rfl, H.u.trans u9⟩
end Go.Proofs.Ytagjcnhgappcjaa
