/- HashKeeps: the walk. -/
import Derived.Test.YtagjcnhgappcjaaHSteps
import Derived.Test.YtagjcnhgappcjaaHKeeps0
import Derived.Deep.DeepCutAuto
import Derived.Deep.CutBlock
namespace Go.Proofs.Ytagjcnhgappcjaa
open Go.RowKit
set_option linter.unusedVariables false
set_option linter.unusedSimpArgs false
set_option linter.unusedSectionVars false
theorem extract_of {L : List UInt8} {p n : Nat} {t : ByteArray} (h : (L.drop p).take n = t.data.toList) : (bstr L).extract p (p + n) = t := by
  apply ByteArray.ext
  apply Array.toList_inj.1
  rw [ByteArray.data_extract]
  simp only [bstr, Array.toList_extract, List.extract]
  rw [← h]
  congr 1
  omega
set_option maxRecDepth 100000 in
set_option maxHeartbeats 8000000 in
theorem keeps_walk (A B : Option Addr) (ca cb : Nat) (la lb : List St) (key : ByteArray) (at_ : Int) (t : ByteArray) (w : World) (hA : RowsAt w A 5 (la.map encU)) (hB : RowsAt w B 5 (lb.map encU)) (hsa : ∀ s ∈ la, okU s) (hsb : ∀ s ∈ lb, okU s) (hat : 0 ≤ at_ ∧ at_ ≤ 255) (hk : key.size ≤ 140737488355328) (ht : t.size ≤ 140737488355328) :
    Calls Try.prog 3 #[.slice A la.length ca, .slice B lb.length cb, .string key, .int .u8 at_, .string t] w fun e w' => e = .returned (.bool true) ∧ Upd [] w w' := by
  cases hva : heavyU la with
  | true =>
    go_enter Try.func3, Try.ntmps3
    go_wp2_with (first | (go_at_call 8; (with_reducible refine (heavyU_spec A ca la _ hA hsa).mono ?_); rw [hva]; rintro e w1 ⟨rfl, u0⟩) | (go_at_call 9; (with_reducible refine (works _).mono ?_); rintro e w2 ⟨rfl, u1⟩))
    go_ret
    exact ⟨rfl, u0.trans u1⟩
  | false =>
  cases hvb : heavyU lb with
  | true =>
    go_enter Try.func3, Try.ntmps3
    go_wp2_with fail
    refine (heavyU_spec A ca la _ hA hsa).mono ?_
    rw [hva]
    rintro e w1 ⟨rfl, u0⟩
    go_wp2_with fail
    refine (heavyU_spec B cb lb _ (hB.keep u0) hsb).mono ?_
    rw [hvb]
    rintro e w1 ⟨rfl, u1⟩
    go_wp2_with (go_at_call 9; (with_reducible refine (works _).mono ?_); rintro e w2 ⟨rfl, u2⟩)
    go_ret
    exact ⟨rfl, (u0.trans u1).trans u2⟩
  | false =>
  go_enter Try.func3, Try.ntmps3
  go_wp2_with fail
  refine (heavyU_spec A ca la _ hA hsa).mono ?_
  rw [hva]
  rintro e w1 ⟨rfl, u0⟩
  go_wp2_with fail
  refine (heavyU_spec B cb lb _ (hB.keep u0) hsb).mono ?_
  rw [hvb]
  rintro e w2 ⟨rfl, u1⟩
  have U := u0.trans u1
  clear u0 u1
  have hla := (heavyU_of hva).1
  have hlb := (heavyU_of hvb).1
  clear hva hvb
  by_cases hg : key.size ≠ 8 ∨ 8 < t.size
  · have hg2 : ((key.size : Int) != 8) = true ∨ (((key.size : Int) != 8) = false ∧ decide ((8 : Int) < (t.size : Int)) = true) := by
      by_cases h : key.size = 8
      · exact .inr ⟨by simp [h], decide_eq_true (by omega)⟩
      · exact .inl (by simp; omega)
    clear hg
    rcases hg2 with y1 | ⟨y1, y2⟩
    all_goals
      go_wp2_with (go_at_call 9; (with_reducible refine (works _).mono ?_); rintro e w2 ⟨rfl, u2⟩)
      go_ret
      exact ⟨rfl, U.trans u2⟩
  have hk8 : key.size = 8 := by omega
  have ht8 : t.size ≤ 8 := by omega
  have HK : Unit → key.size = 8 := fun _ => hk8
  have y1 : ((key.size : Int) != 8) = false := by simp [hk8]
  have y2 : decide ((8 : Int) < (t.size : Int)) = false := decide_eq_false (by omega)
  clear hg hk8
  go_wp2_with fail
  refine (cNew ((SepK.start w).upd U) 128 6 (by omega) (by omega) (by omega) (by omega)).mono ?_
  rintro e w3 ⟨h, bs, bv, rfl, H0⟩
  clear U
  go_wp2_with fail
  go_loopg [13] la.length (fun kq v13 w' => ∃ (i : Nat) (vs : Vs), v13 = .int .i64 (i : Int) ∧ kq + i = la.length ∧ SepK w w' [(h, hblk 128 6 bs bv)] (hashR 128 6 bs bv vs emp))
  case atStart => exact ⟨0, [], rfl, rfl, H0⟩
  case round =>
    clear H0
    obtain ⟨i, vs, rfl, hkk, H⟩ := hrel
    by_cases hi : i < la.length
    · have z1 : decide ((i : Int) < (la.length : Int)) = true := decide_eq_true (by omega)
      obtain ⟨x, hx⟩ : ∃ x, la[i]? = some x := ⟨la[i], List.getElem?_eq_getElem hi⟩
      have hx0 := (hA.keep H.u) i (encU x) (by rw [List.getElem?_map, hx]; rfl)
      obtain ⟨b, off, rfl, hc⟩ := hx0
      have k1 : wr.cell? ⟨b, off + i * 5 + 1, none⟩ = some (.string x.key) := hc 1 _ rfl
      have y3 : (0 : Int) ≤ (i : Int) := by omega
      have y4 : (i : Int) < (la.length : Int) := by omega
      clear hc
      have hxo := hsa x (List.mem_of_getElem? hx)
      have hd := hxo.1
      go_wp2_with fail
      refine (cPut H (List.mem_cons_self ..) x.key).mono ?_
      rintro e w4 ⟨rfl, H1⟩
      obtain ⟨b', off', e', hc⟩ := (hA.keep H1.u) i (encU x) (by rw [List.getElem?_map, hx]; rfl)
      cases e'
      have k0 : w4.cell? ⟨b, off + i * 5, none⟩ = some (.int .u8 x.d) := hc 0 _ rfl
      have k1 : w4.cell? ⟨b, off + i * 5 + 1, none⟩ = some (.string x.key) := hc 1 _ rfl
      clear hc H hx
      generalize (put 128 6 vs x.key).2 = vs1 at H1
      by_cases h3 : x.d % 7 = 3
      · have z2 : (x.d % 7 == 3) = true := by simp [h3]
        clear h3
        go_wp2_with fail
        refine (cDrop H1 (List.mem_cons_self ..) x.key).mono ?_
        rintro e w5 ⟨rfl, H2⟩
        go_wp2_with fail
        go_roundg (gk - 1)
        case measure => omega
        case rel => exact ⟨i + 1, _, by go_num, by omega, H2⟩
      · have z2 : (x.d % 7 == 3) = false := by simp [h3]
        clear h3
        go_wp2_with fail
        go_roundg (gk - 1)
        case measure => omega
        case rel => exact ⟨i + 1, _, by go_num, by omega, H1⟩
    · have z1 : decide ((i : Int) < (la.length : Int)) = false := decide_eq_false (by omega)
      have HB := H.open.1
      have hpo := put_ok HB (HK ())
      have hpb := HB.put key
      clear hA hsa
      go_wp2_with fail
      refine (cPut H (List.mem_cons_self ..) key).mono ?_
      rintro e w4 ⟨rfl, H1⟩
      generalize put 128 6 vs key = pp at hpo H1 hpb ⊢
      obtain ⟨pr, vs1⟩ := pp
      simp only at hpo H1 hpb ⊢
      unfold putV
      have hq0 : 0 ≤ at_ % 120 ∧ at_ % 120 < 120 := by omega
      obtain ⟨hq0, hq1⟩ := hq0
      have hat0 := hat.1
      have hat1 := hat.2
      rcases hpo with ⟨rfl, rfl⟩ | ⟨s, f, L, rfl, h0, h1, hgs, hL⟩
      · go_wp2_with (go_at_call 9; (with_reducible refine (works _).mono ?_); rintro e w5 ⟨rfl, u1⟩)
        go_ret
        exact ⟨rfl, H1.u.trans u1⟩
      · have hw := write_ok (size := 128) (t := t) (o := at_ % 120) hgs hq0 (by omega)
        have hpw := hpb.write s (at_ % 120) t
        rw [hw] at hpw
        simp only at hpw
        have hso : okI s := okI_of ⟨h0, h1⟩ (by omega)
        have hLL : L.length = 128 := by omega
        have htl : t.data.toList.length = t.size := rfl
        have hol : (over L (at_ % 120).toNat t.data.toList).length = 128 := by rw [over_length _ _ _ (by rw [htl]; omega), hLL]
        have hov := over_at L (at_ % 120).toNat t.data.toList (by rw [htl]; omega)
        have hg2 := aget_aput_self vs1 s (key, over L (at_ % 120).toNat t.data.toList)
        generalize over L (at_ % 120).toNat t.data.toList = LL at hw hpw hol hov hg2
        go_wp2_with fail
        refine (cWrite H1 (List.mem_cons_self ..) s (at_ % 120) hso t).mono ?_
        rw [hw]
        rintro e w5 ⟨rfl, H2⟩
        clear hw hpw hgs hpb H1 hL hLL
        generalize aput vs1 s (key, LL) = vs2 at H2 hg2
        go_wp2_with fail
        go_loopg [18] lb.length (fun kq v18 w' => ∃ (i : Nat) (vs : Vs), v18 = .int .i64 (i : Int) ∧ kq + i = lb.length ∧ SepK w w' [(h, hblk 128 6 bs bv)] (hashR 128 6 bs bv vs emp) ∧ aget vs s = some (key, LL))
        case atStart => exact ⟨0, _, rfl, rfl, H2, hg2⟩
        case round =>
          clear H2 hg2
          obtain ⟨i, vs, rfl, hkk, H, hg⟩ := hrel
          have HG : Unit → aget vs s = some (key, LL) := fun _ => hg
          clear hg
          by_cases hi : i < lb.length
          · have z1 : decide ((i : Int) < (lb.length : Int)) = true := decide_eq_true (by omega)
            obtain ⟨x, hx⟩ : ∃ x, lb[i]? = some x := ⟨lb[i], List.getElem?_eq_getElem hi⟩
            obtain ⟨b, off, rfl, hc⟩ := (hB.keep H.u) i (encU x) (by rw [List.getElem?_map, hx]; rfl)
            have k0 : wr.cell? ⟨b, off + i * 5, none⟩ = some (.int .u8 x.d) := hc 0 _ rfl
            have k1 : wr.cell? ⟨b, off + i * 5 + 1, none⟩ = some (.string x.key) := hc 1 _ rfl
            have k2 : wr.cell? ⟨b, off + i * 5 + 2, none⟩ = some (.int .i64 x.slot) := hc 2 _ rfl
            have k3 : wr.cell? ⟨b, off + i * 5 + 3, none⟩ = some (.int .i64 x.pos) := hc 3 _ rfl
            have k4 : wr.cell? ⟨b, off + i * 5 + 4, none⟩ = some (.string x.s) := hc 4 _ rfl
            have y3 : (0 : Int) ≤ (i : Int) := by omega
            have y4 : (i : Int) < (lb.length : Int) := by omega
            have hxo := hsb x (List.mem_of_getElem? hx)
            have hd := hxo.1
            clear hc hx
            have H3 := H.alloc (.cells #[.int .u8 x.d, .string x.key, .int .i64 x.slot, .int .i64 x.pos, .string x.s] 32)
            have f3 := H3.blk List.mem_cons_self
            have q0 := cell_of f3 0
            have q1 := cell_of f3 1
            have q2 := cell_of f3 2
            have q3 := cell_of f3 3
            have q4 := cell_of f3 4
            simp only [List.getElem?_toArray, List.getElem?_cons_zero, List.getElem?_cons_succ] at q0 q1 q2 q3 q4
            by_cases h3 : x.d % 7 = 3
            · have z2 : (x.d % 7 == 3) = true := by simp [h3]
              have z3 : decide (x.d % 7 < 3) = false := decide_eq_false (by omega)
              clear h3
              cases hb : (!x.key.toList == key.toList) with
              | true =>
                have hne : x.key ≠ key := fun e => by rw [e] at hb; simp at hb
                have HW : Unit → aget (drop vs x.key).2 s = some (key, LL) := fun _ => drop_keeps H3.open.1 hne (HG ())
                clear hne
                go_wp2_with fail
                refine (cDrop H3 (List.mem_cons_of_mem _ (List.mem_cons_self ..)) x.key).mono ?_
                rintro e w6 ⟨rfl, H4⟩
                go_wp2_with fail
                go_roundg (gk - 1)
                case measure => omega
                case rel => exact ⟨i + 1, _, by go_num, by omega, H4.drop _ (fun p hp => List.mem_cons_of_mem _ hp), HW ()⟩
              | false =>
                by_cases hsl : x.slot = s
                · have z4 : (x.slot != s) = false := by simp [hsl]
                  clear hsl
                  go_wp2_with fail
                  go_roundg (gk - 1)
                  case measure => omega
                  case rel => exact ⟨i + 1, _, by go_num, by omega, H3.drop _ (fun p hp => List.mem_cons_of_mem _ hp), HG ()⟩
                · have z4 : (x.slot != s) = true := by simp [hsl]
                  have HW : Unit → aget (write 128 vs x.slot x.pos x.s).2 s = some (key, LL) := fun _ => by rw [write_keeps hsl]; exact HG ()
                  clear hsl
                  go_wp2_with fail
                  refine (cWrite H3 (List.mem_cons_of_mem _ (List.mem_cons_self ..)) x.slot x.pos hxo.2.2.1 x.s).mono ?_
                  rintro e w6 ⟨rfl, H4⟩
                  go_wp2_with fail
                  go_roundg (gk - 1)
                  case measure => omega
                  case rel => exact ⟨i + 1, _, by go_num, by omega, H4.drop _ (fun p hp => List.mem_cons_of_mem _ hp), HW ()⟩
            · have z2 : (x.d % 7 == 3) = false := by simp [h3]
              clear h3
              by_cases h4 : x.d % 7 < 3
              · have z3 : decide (x.d % 7 < 3) = true := decide_eq_true h4
                have HW : Unit → aget (put 128 6 vs x.key).2 s = some (key, LL) := fun _ => put_keeps x.key (HG ())
                go_wp2_with fail
                refine (cPut H3 (List.mem_cons_of_mem _ (List.mem_cons_self ..)) x.key).mono ?_
                rintro e w6 ⟨rfl, H4⟩
                go_wp2_with fail
                go_roundg (gk - 1)
                case measure => omega
                case rel => exact ⟨i + 1, _, by go_num, by omega, H4.drop _ (fun p hp => List.mem_cons_of_mem _ hp), HW ()⟩
              · have z3 : decide (x.d % 7 < 3) = false := decide_eq_false h4
                by_cases hsl : x.slot = s
                · have z4 : (x.slot != s) = false := by simp [hsl]
                  clear hsl
                  go_wp2_with fail
                  go_roundg (gk - 1)
                  case measure => omega
                  case rel => exact ⟨i + 1, _, by go_num, by omega, H3.drop _ (fun p hp => List.mem_cons_of_mem _ hp), HG ()⟩
                · have z4 : (x.slot != s) = true := by simp [hsl]
                  have HW : Unit → aget (write 128 vs x.slot x.pos x.s).2 s = some (key, LL) := fun _ => by rw [write_keeps hsl]; exact HG ()
                  clear hsl
                  go_wp2_with fail
                  refine (cWrite H3 (List.mem_cons_of_mem _ (List.mem_cons_self ..)) x.slot x.pos hxo.2.2.1 x.s).mono ?_
                  rintro e w6 ⟨rfl, H4⟩
                  go_wp2_with fail
                  go_roundg (gk - 1)
                  case measure => omega
                  case rel => exact ⟨i + 1, _, by go_num, by omega, H4.drop _ (fun p hp => List.mem_cons_of_mem _ hp), HW ()⟩
          · have z1 : decide ((i : Int) < (lb.length : Int)) = false := decide_eq_false (by omega)
            have hgt : hget vs s = (bstr LL, true) := by unfold hget; rw [HG ()]
            have hky : hkey vs s = (key, true) := by unfold hkey; rw [HG ()]
            have hsz : ((bstr LL).size : Int) = 128 := by rw [bstr_size, hol]; rfl
            go_wp2_with fail
            refine (cGet H (List.mem_cons_self ..) s hso).mono ?_
            rw [hgt]
            rintro e w6 ⟨rfl, rfl⟩
            unfold strV
            go_wp2_with fail
            refine (cKey H (List.mem_cons_self ..) s hso).mono ?_
            rw [hky]
            rintro e w6 ⟨rfl, rfl⟩
            have hfin : ((bstr LL).extract (at_ % 120).toNat (at_ % 120 + (t.size : Int)).toNat).toList = t.toList := by
              have e : (at_ % 120 + (t.size : Int)).toNat = (at_ % 120).toNat + t.size := by omega
              rw [e, extract_of (by rw [← htl]; exact hov)]
            clear hgt hky HG hov htl
            unfold strV
            go_wp2_with (go_at_call 9; (with_reducible refine (works _).mono ?_); rintro e w7 ⟨rfl, u7⟩)
            go_ret
            exact ⟨rfl, H.u.trans u7⟩
theorem u8_bd {a : Int} (h : (Lit.int .u8 a).wf = true) : 0 ≤ a ∧ a ≤ 255 := by
  have : IntKind.u8.min ≤ a ∧ a ≤ IntKind.u8.max := by simpa [Lit.wf] using h
  exact this
end Go.Proofs.Ytagjcnhgappcjaa
