/- The document's hash: Keys. -/
import Derived.Test.YtagjcnhgappcjaaHRef3
namespace Go.Proofs.Ytagjcnhgappcjaa
open Go.RowKit Go.Maps Go.Sort Go.Shelf Go.WideElems
set_option linter.unusedVariables false
set_option linter.unusedSimpArgs false
set_option linter.unusedSectionVars false
theorem less_b (a b : ByteArray) : Op.bytesLess a.toList b.toList = decide (ckey a < ckey b) := by
  rw [Go.Lib.toList_data, Go.Lib.toList_data, Go.Proofs.bytesLess_eq]
  rfl
theorem same_b (a b : ByteArray) : (a.toList == b.toList) = decide (ckey a = ckey b) := by
  rw [Go.Lib.toList_data, Go.Lib.toList_data]
  unfold ckey
  cases h : (a.data.toList == b.data.toList) with
  | true => exact (decide_eq_true (eq_of_beq h)).symm
  | false => exact (decide_eq_false (ne_of_beq_false h)).symm
/-- The last key told. -/
def lastK (vs : Vs) (j : Nat) : ByteArray := if j = 0 then ⟨#[]⟩ else bstr ((tells vs)[j - 1]?.getD [])
/-- A slot whose key comes behind those told. -/
def cand (vs : Vs) (j : Nat) (i : Nat) (k : ByteArray) : Prop := (∃ L, aget vs (i : Int) = some (k, L)) ∧ (j = 0 ∨ ckey (lastK vs j) < ckey k)
def Best (vs : Vs) (j i : Nat) (b : Int) : Prop := (b = -1 ∧ ∀ l k, l < i → ¬ cand vs j l k) ∨ ∃ (bb : Nat) (kb : ByteArray), b = bb ∧ bb < i ∧ cand vs j bb kb ∧ ∀ l k, l < i → cand vs j l k → ckey kb ≤ ckey k
theorem Best.start (vs : Vs) (j : Nat) : Best vs j 0 (-1) := .inl ⟨rfl, fun l k h => by omega⟩
theorem Best.no {vs : Vs} {j i : Nat} {b : Int} (h : Best vs j i b) (hn : ∀ k, ¬ cand vs j i k) : Best vs j (i + 1) b := by
  rcases h with ⟨rfl, h⟩ | ⟨bb, kb, rfl, h1, h2, h3⟩
  · refine .inl ⟨rfl, fun l k hl => ?_⟩
    by_cases e : l = i
    · subst e; exact hn k
    · exact h l k (by omega)
  · refine .inr ⟨bb, kb, rfl, by omega, h2, fun l k hl hc => ?_⟩
    by_cases e : l = i
    · subst e; exact absurd hc (hn k)
    · exact h3 l k (by omega) hc
theorem cand_one {vs : Vs} {j i : Nat} {k k' : ByteArray} (h : cand vs j i k) (h' : cand vs j i k') : k = k' := by
  obtain ⟨⟨L, h1⟩, _⟩ := h
  obtain ⟨⟨L', h2⟩, _⟩ := h'
  rw [h1] at h2
  cases h2
  rfl
theorem Best.first {vs : Vs} {j i : Nat} {k : ByteArray} (h : Best vs j i (-1)) (hc : cand vs j i k) : Best vs j (i + 1) (i : Int) := by
  rcases h with ⟨-, h⟩ | ⟨bb, kb, e, _⟩
  · refine .inr ⟨i, k, rfl, by omega, hc, fun l k' hl hc' => ?_⟩
    by_cases e : l = i
    · subst e; rw [cand_one hc hc']; exact List.le_refl _
    · exact absurd hc' (h l k' (by omega))
  · omega
theorem Best.less {vs : Vs} {j i bb : Nat} {k kb : ByteArray} (h : Best vs j i (bb : Int)) (hb : cand vs j bb kb) (hc : cand vs j i k) (hlt : ckey k < ckey kb) : Best vs j (i + 1) (i : Int) := by
  rcases h with ⟨e, h⟩ | ⟨b', kb', e, h1, h2, h3⟩
  · omega
  · obtain rfl : bb = b' := by omega
    obtain rfl := cand_one h2 hb
    refine .inr ⟨i, k, rfl, by omega, hc, fun l k' hl hc' => ?_⟩
    by_cases e : l = i
    · subst e; rw [cand_one hc hc']; exact List.le_refl _
    · exact List.le_trans (List.le_of_lt hlt) (h3 l k' (by omega) hc')
theorem Best.more {vs : Vs} {j i bb : Nat} {k kb : ByteArray} (h : Best vs j i (bb : Int)) (hb : cand vs j bb kb) (hc : cand vs j i k) (hlt : ¬ ckey k < ckey kb) : Best vs j (i + 1) (bb : Int) := by
  rcases h with ⟨e, h⟩ | ⟨b', kb', e, h1, h2, h3⟩
  · omega
  · obtain rfl : bb = b' := by omega
    obtain rfl := cand_one h2 hb
    refine .inr ⟨bb, kb', rfl, by omega, h2, fun l k' hl hc' => ?_⟩
    by_cases e : l = i
    · subst e; rw [cand_one hc' hc]; exact List.not_lt.1 hlt
    · exact h3 l k' (by omega) hc'
theorem ckey_bstr (q : List UInt8) : ckey (bstr q) = q := rfl
theorem tells_le {vs : Vs} {i j : Nat} {p q : List UInt8} (hp : (tells vs)[i]? = some p) (hq : (tells vs)[j]? = some q) (hij : i < j) : p ≤ q := by
  have hs : (tells vs).Pairwise (fun a b => leB a b = true) := List.pairwise_mergeSort (fun a b c h1 h2 => by simp only [leB, decide_eq_true_eq] at *; exact List.le_trans h1 h2) (fun a b => by simp only [leB, Bool.or_eq_true, decide_eq_true_eq]; exact List.le_total a b) _
  obtain ⟨h1, rfl⟩ := List.getElem?_eq_some_iff.1 hp
  obtain ⟨h2, rfl⟩ := List.getElem?_eq_some_iff.1 hq
  exact of_decide_eq_true (List.pairwise_iff_getElem.1 hs i j h1 h2 hij)
theorem lastK_at {vs : Vs} {j : Nat} {p : List UInt8} (hj : 0 < j) (hp : (tells vs)[j - 1]? = some p) : lastK vs j = bstr p := by
  unfold lastK
  rw [if_neg (by omega), hp]
  rfl
/-- The least one behind those told is the next one. -/
theorem Best.fin {size : Int} {m : Nat} {vs : Vs} (hb : HB size (m : Int) vs) {j : Nat} {b : Int} (h : Best vs j m b) {q : List UInt8} (hq : (tells vs)[j]? = some q) : ∃ (bb : Nat) (L : List UInt8), b = bb ∧ bb < m ∧ aget vs (bb : Int) = some (bstr q, L) := by
  obtain ⟨s, L, h1, h2, h3, h4, h5, _⟩ := tells_at hb (List.mem_of_getElem? hq)
  have hprev : j = 0 ∨ ckey (lastK vs j) < q := by
    by_cases hj : j = 0
    · exact .inl hj
    · right
      obtain ⟨p, hp⟩ : ∃ p, (tells vs)[j - 1]? = some p := ⟨_, List.getElem?_eq_getElem (by have := (List.getElem?_eq_some_iff.1 hq).1; omega)⟩
      rw [lastK_at (by omega) hp, ckey_bstr]
      exact List.not_le.1 (tells_lt hb hp (by rw [show j - 1 + 1 = j by omega]; exact hq))
  have hcs : cand vs j s.toNat (bstr q) := ⟨⟨L, by rw [show ((s.toNat : Nat) : Int) = s by omega]; exact h2⟩, hprev⟩
  rcases h with ⟨-, h⟩ | ⟨bb, kb, rfl, g1, ⟨⟨L', g2⟩, g3⟩, g4⟩
  · exact absurd hcs (h _ _ (by omega))
  · have hle : ckey kb ≤ q := g4 _ _ (by omega) hcs
    have hkm : ckey kb ∈ tells vs := (tells_perm vs).mem_iff.2 (List.mem_map.2 ⟨_, aget_mem g2, rfl⟩)
    obtain ⟨t, ht⟩ := List.mem_iff_getElem?.1 hkm
    have hge : q ≤ ckey kb := by
      rcases Nat.lt_trichotomy t j with hlt | rfl | hlt
      · rcases g3 with g3 | g3
        · omega
        · obtain ⟨p, hp⟩ : ∃ p, (tells vs)[j - 1]? = some p := ⟨_, List.getElem?_eq_getElem (by have := (List.getElem?_eq_some_iff.1 hq).1; omega)⟩
          rw [lastK_at (by omega) hp, ckey_bstr] at g3
          by_cases e : t = j - 1
          · subst e
            rw [hp] at ht
            cases ht
            exact absurd g3 (List.lt_irrefl _)
          · exact absurd g3 (List.not_lt.2 (tells_le ht hp (by omega)))
      · rw [hq] at ht; cases ht; exact List.le_refl _
      · exact tells_le hq ht hlt
    have e : ckey kb = ckey (bstr q) := List.le_antisymm hle hge
    have := ckey_inj e
    subst this
    exact ⟨bb, L', rfl, g1, g2⟩
section
variable {w0 w : World} {K : List (Nat × Obj)} {T : Res} [Good T] {r : Nat} {size : Int} {m : Nat} {vs : Vs} {v : Value}
set_option maxRecDepth 100000 in
set_option maxHeartbeats 8000000 in
theorem rKeys (H : SepK w0 w K (star (refR m vs v) T)) (hK : (r, rblk size v) ∈ K) (hb : HB size (m : Int) vs) :
    Calls Try.prog 25 #[.pointer (some ⟨r, 0, none⟩)] w fun e w' => ∃ s, e = .returned s ∧ SepK w0 w' K (star (rowR 9 1 s (keysV vs)) (star (refR m vs v) T)) := by
  have hm2 := hb.n2
  obtain ⟨i0, hi0, hz0, hz1, hz2⟩ := info_parts info9
  obtain ⟨A, c, rfl, -⟩ := H.parts
  rw [rowsE_len] at H hK ⊢
  have htl := tells_len vs
  have hvl := hb.len
  have hsl : (slotsV vs).length = vs.length := by unfold slotsV keysOf; simp
  have hlast0 : lastK vs 0 = ⟨#[]⟩ := rfl
  go_enter Try.func25, Try.ntmps25
  go_wp2_with fail
  refine (rSlots H hK hb).mono ?_
  rintro e w1 ⟨s, rfl, H1⟩
  obtain ⟨As, cs, rfl, -⟩ := H1.row
  rw [hsl]
  have H2 := H1.tl.row0 9 1
  clear H1 H
  go_wp2_with fail
  go_loopg [3, 4] vs.length (fun kq v3 v4 w' => ∃ j : Nat, v4 = .string (lastK vs j) ∧ kq + j = vs.length ∧ SepK w0 w' K (star (rowR 9 1 v3 ((((tells vs).take j).map bstr).map encS)) (star (refR m vs (.slice A m c)) T)))
  case atStart => exact ⟨0, rfl, by omega, H2⟩
  case round =>
    clear H2
    obtain ⟨j, rfl, hk, H⟩ := hrel
    obtain ⟨A3, c3, rfl, -⟩ := H.row
    have hjl : ((((tells vs).take j).map bstr).map encS).length = j := by simp; omega
    rw [hjl] at H ⊢
    by_cases hj : j < vs.length
    · have z1 : decide ((j : Int) < (vs.length : Int)) = true := decide_eq_true (by omega)
      obtain ⟨q, hq⟩ : ∃ q, (tells vs)[j]? = some q := ⟨(tells vs)[j], List.getElem?_eq_getElem (by omega)⟩
      go_wp2_with fail
      go_loopg [6, 7] m (fun kq v6 v7 w' => ∃ (i : Nat) (b : Int), v6 = .int .i64 b ∧ v7 = .int .i64 (i : Int) ∧ kq + i = m ∧ Best vs j i b ∧ SepK w0 w' K (star (rowR 9 1 (.slice A3 j c3) ((((tells vs).take j).map bstr).map encS)) (star (refR m vs (.slice A m c)) T)))
      case atStart => exact ⟨0, -1, rfl, rfl, by omega, Best.start vs j, H⟩
      case round =>
        clear H
        obtain ⟨i, b, rfl, rfl, hk2, hB, H⟩ := hrel
        obtain ⟨A', c', eA, hr, -⟩ := H.tl.parts
        rw [rowsE_len] at eA
        cases eA
        have fr := H.blk hK
        have c1 := cell_of fr 1
        have lt := lt_of_heap fr
        simp only [List.getElem?_toArray, List.getElem?_cons_zero, List.getElem?_cons_succ] at c1
        have HBst : Unit → Best vs j i b := fun _ => hB
        clear fr
        by_cases hi : i < m
        · have z2 : decide ((i : Int) < (m : Int)) = true := decide_eq_true (by omega)
          obtain ⟨bk, off, rfl, k0, k1, k2⟩ := row_cells hr hi
          have y1 : (0 : Int) ≤ (i : Int) := by omega
          have y2 : (i : Int) < (m : Int) := by omega
          cases hg : aget vs (i : Int) with
          | none =>
            rw [hg] at k0 k2
            simp only [Option.isSome_none] at k2
            have HB2 : Unit → Best vs j (i + 1) b := fun _ => (HBst ()).no fun k hc => by
              obtain ⟨⟨L, h⟩, _⟩ := hc
              rw [hg] at h
              cases h
            clear hg HBst hB hq
            go_wp2_with fail
            go_quiet (fail)
            go_wp2_with fail
            go_roundg (gk - 1)
            case measure => omega
            case rel => exact ⟨i + 1, _, rfl, by go_num, by omega, HB2 (), H.upd ((Upd.refl [] _).drewN _)⟩
          | some p =>
            obtain ⟨k', L⟩ := p
            rw [hg] at k0 k2
            simp only [Option.isSome_some] at k2
            change wr.cell? _ = some (Value.string k') at k0
            have z5 := less_b k' (lastK vs j)
            have z6 := same_b k' (lastK vs j)
            by_cases cc : j = 0 ∨ ckey (lastK vs j) < ckey k'
            · have hc : cand vs j i k' := ⟨⟨L, hg⟩, cc⟩
              have hz : ((j : Int) == 0) = true ∨ (((j : Int) == 0) = false ∧ Op.bytesLess k'.toList (lastK vs j).toList = false ∧ (k'.toList == (lastK vs j).toList) = false) := by
                by_cases j0 : j = 0
                · exact .inl (by simp [j0])
                · have hlt := cc.resolve_left j0
                  refine .inr ⟨by simp [j0], ?_, ?_⟩
                  · rw [z5]; exact decide_eq_false fun h => List.lt_asymm hlt h
                  · rw [z6]; exact decide_eq_false fun h => by rw [h] at hlt; exact List.lt_irrefl _ hlt
              clear z5 z6 cc
              rcases hB with ⟨rfl, -⟩ | ⟨bb, kb, rfl, hbi, hcb, -⟩
              · have HB2 : Unit → Best vs j (i + 1) (i : Int) := fun _ => (HBst ()).first hc
                clear hg HBst hq hc
                rcases hz with zj | ⟨zj, z5, z6⟩
                all_goals
                  go_wp2_with fail
                  go_quiet (fail)
                  go_wp2_with fail
                  go_roundg (gk - 1)
                  case measure => omega
                  case rel => exact ⟨i + 1, _, rfl, by go_num, by omega, HB2 (), H.upd ((Upd.refl [] _).drewN _)⟩
              · obtain ⟨bk', off', e', n0, n1, n2⟩ := row_cells hr (i := bb) (by omega)
                cases e'
                obtain ⟨⟨Lb, hgb⟩, -⟩ := id hcb
                rw [hgb] at n0
                change wr.cell? _ = some (Value.string kb) at n0
                have y3 : (0 : Int) ≤ (bb : Int) := by omega
                have y4 : (bb : Int) < (m : Int) := by omega
                have z8 : decide ((bb : Int) < 0) = false := decide_eq_false (by omega)
                have z7 := less_b k' kb
                by_cases hlt : ckey k' < ckey kb
                · rw [decide_eq_true hlt] at z7
                  have HB2 : Unit → Best vs j (i + 1) (i : Int) := fun _ => (HBst ()).less hcb hc hlt
                  clear hg HBst hq hc hcb hgb hlt
                  rcases hz with zj | ⟨zj, z5, z6⟩
                  all_goals
                    go_wp2_with fail
                    go_quiet (fail)
                    go_wp2_with fail
                    go_roundg (gk - 1)
                    case measure => omega
                    case rel => exact ⟨i + 1, _, rfl, by go_num, by omega, HB2 (), H.upd ((Upd.refl [] _).drewN _)⟩
                · rw [decide_eq_false hlt] at z7
                  have HB2 : Unit → Best vs j (i + 1) (bb : Int) := fun _ => (HBst ()).more hcb hc hlt
                  clear hg HBst hq hc hcb hgb hlt
                  rcases hz with zj | ⟨zj, z5, z6⟩
                  all_goals
                    go_wp2_with fail
                    go_quiet (fail)
                    go_wp2_with fail
                    go_roundg (gk - 1)
                    case measure => omega
                    case rel => exact ⟨i + 1, _, rfl, by go_num, by omega, HB2 (), H.upd ((Upd.refl [] _).drewN _)⟩
            · have HB2 : Unit → Best vs j (i + 1) b := fun _ => (HBst ()).no fun k hc => cc (by
                obtain ⟨⟨L', h⟩, h2⟩ := hc
                rw [hg] at h
                cases h
                exact h2)
              have zj : ((j : Int) == 0) = false := by simp; omega
              have hz : Op.bytesLess k'.toList (lastK vs j).toList = true ∨ (Op.bytesLess k'.toList (lastK vs j).toList = false ∧ (k'.toList == (lastK vs j).toList) = true) := by
                by_cases hlt : ckey k' < ckey (lastK vs j)
                · left; rw [z5]; exact decide_eq_true hlt
                · right
                  refine ⟨by rw [z5]; exact decide_eq_false hlt, ?_⟩
                  rw [z6]
                  exact decide_eq_true (List.le_antisymm (List.not_lt.1 fun h => cc (.inr h)) (List.not_lt.1 hlt))
              clear hg HBst hB hq z5 z6 cc
              rcases hz with z5 | ⟨z5, z6⟩
              all_goals
                go_wp2_with fail
                go_quiet (fail)
                go_wp2_with fail
                go_roundg (gk - 1)
                case measure => omega
                case rel => exact ⟨i + 1, _, rfl, by go_num, by omega, HB2 (), H.upd ((Upd.refl [] _).drewN _)⟩
        · have z2 : decide ((i : Int) < (m : Int)) = false := decide_eq_false (by omega)
          obtain rfl : i = m := by omega
          obtain ⟨bb, L, rfl, hbm, hgb⟩ := hB.fin hb hq
          obtain ⟨bk, off, rfl, k0, k1, k2⟩ := row_cells hr hbm
          rw [hgb] at k0
          change wr.cell? _ = some (Value.string (bstr q)) at k0
          have y1 : (0 : Int) ≤ (bb : Int) := by omega
          have y2 : (bb : Int) < (i : Int) := by omega
          have H1 := H.alloc (.cells #[.string (bstr q)] 9)
          have hll := hjl
          have HE : Unit → ((((tells vs).take (j + 1)).map bstr).map encS) = (((tells vs).take j).map bstr).map encS ++ [[.string (bstr q)]] := fun _ => by
            rw [List.take_add_one, hq]
            simp [encS]
          have HL : Unit → lastK vs (j + 1) = bstr q := fun _ => lastK_at (by omega) hq
          clear HBst hgb hq
          go_wp2_with (at_builtin; refine wl_append rfl _ _ 53 rfl 9 i0 (.string ⟨#[]⟩) 1 16 Try.underlying53 hi0 hz0 hz1 hz2 rfl (by decide) _ _ rfl H1 ⟨wr.heap.size, 0, none⟩ 1 [.string (bstr q)] rfl rfl (cell_one_new _ _ _) (fun u hu => by simp at hu; subst hu; rfl) (by rw [hjl]; unfold maxLen; omega) (by rw [hjl]; omega) ?_; intro v' w5 H2)
          have H3 := H2.drop K (fun p hp => List.mem_cons_of_mem _ hp)
          go_roundg (vs.length - j - 1)
          case measure => omega
          case rel => exact ⟨j + 1, by rw [HL ()], by omega, by rw [HE ()]; exact H3⟩
    · have z1 : decide ((j : Int) < (vs.length : Int)) = false := decide_eq_false (by omega)
      have hfin : Unit → (((tells vs).take j).map bstr).map encS = keysV vs := fun _ => by rw [keysV_eq, List.take_of_length_le (by omega)]
      go_wp2_with fail
      go_ret
      refine ⟨_, rfl, ?_⟩
      have := H
      rw [hfin ()] at this
      exact this
end
end Go.Proofs.Ytagjcnhgappcjaa
