/- HashPlays: the walk. -/
import Derived.Test.YtagjcnhgappcjaaDoes20
namespace Go.Proofs.Ytagjcnhgappcjaa
open Go.RowKit
set_option linter.unusedVariables false
set_option linter.unusedSimpArgs false
set_option linter.unusedSectionVars false
theorem SepK.refOut {w0 w : World} {K : List (Nat × Obj)} {R T : Res} {size : Int} {m bs bv : Nat} {vs : Vs} {v : Value} (H : SepK w0 w K (star R (both size m bs bv vs vs v T))) : SepK w0 w K (star (refR m vs v) (hashR size (m : Int) bs bv vs (star R T))) :=
  SepK.outt ((SepK.inn H).impT fun _ => star_swap)
theorem SepK.refIn {w0 w : World} {K : List (Nat × Obj)} {T : Res} {size : Int} {m bs bv : Nat} {vs : Vs} {v : Value} (H : SepK w0 w K (star (refR m vs v) (hashR size (m : Int) bs bv vs T))) : SepK w0 w K (both size m bs bv vs vs v T) := SepK.inn H
set_option maxRecDepth 100000 in
set_option maxHeartbeats 8000000 in
theorem plays20_walk (size n : Int) (B : Option Addr) (cb : Nat) (lb : List St) (w : World) (hB : RowsAt w B 5 (lb.map encU)) (hsb : ∀ s ∈ lb, okU s) :
    Calls Try.prog 4 #[.int .i64 size, .int .i64 n, .slice B lb.length cb] w fun e w' => e = .returned (.bool true) ∧ Upd [] w w' := by
  cases hvb : heavyU lb with
  | true =>
    go_enter Try.func4, Try.ntmps4
    go_wp2_with (first | (go_at_call 8; (with_reducible refine (heavyU_spec B cb lb _ hB hsb).mono ?_); rw [hvb]; rintro e w1 ⟨rfl, u0⟩) | (go_at_call 9; (with_reducible refine (works _).mono ?_); rintro e w2 ⟨rfl, u1⟩))
    go_ret
    exact ⟨rfl, u0.trans u1⟩
  | false =>
  have hlb := (heavyU_of hvb).1
  have hkb : ∀ s ∈ lb, s.key.size ≤ 256 ∧ s.s.size ≤ 1024 := (heavyU_of hvb).2
  by_cases hbd : 1 ≤ size ∧ size ≤ 128 ∧ 1 ≤ n ∧ n ≤ 256
  · obtain ⟨b1, b2, b3, b4⟩ := hbd
    obtain ⟨m, rfl⟩ : ∃ m : Nat, n = m := ⟨n.toNat, by omega⟩
    go_enter Try.func4, Try.ntmps4
    go_wp2_with fail
    refine (heavyU_spec B cb lb _ hB hsb).mono ?_
    rw [hvb]
    rintro e w1 ⟨rfl, U⟩
    clear hvb
    go_wp2_with fail
    refine (cNew ((SepK.start w).upd U) size (m : Int) b1 b2 b3 b4).mono ?_
    rintro e w2 ⟨h, bs, bv, rfl, H0⟩
    clear U
    go_wp2_with fail
    refine (rNew H0 size m b1 b2 (by omega) (by omega)).mono ?_
    rintro e w3 ⟨r, v, rfl, H1⟩
    have H2 : SepK w w3 [(r, rblk size v), (h, hblk size (m : Int) bs bv)] (both size m bs bv [] [] v emp) := H1.refIn
    clear H0 H1
    have hsz : (size != size) = false := by simp
    go_wp2_with fail
    refine (cSize H2 (List.mem_cons_of_mem _ (List.mem_cons_self ..))).mono ?_
    rintro e w4 ⟨rfl, rfl⟩
    go_wp2_with fail
    clear hsz
    go_loopg [10] lb.length (fun kq v10 w' => ∃ (i : Nat) (vs : Vs), v10 = .int .i64 (i : Int) ∧ kq + i = lb.length ∧ SepK w w' [(r, rblk size v), (h, hblk size (m : Int) bs bv)] (both size m bs bv vs vs v emp))
    case atStart => exact ⟨0, [], rfl, rfl, H2⟩
    case round =>
      clear H2
      obtain ⟨i, vs, rfl, hkk, H⟩ := hrel
      by_cases hi : i < lb.length
      · have z1 : decide ((i : Int) < (lb.length : Int)) = true := decide_eq_true (by omega)
        obtain ⟨x, hx⟩ : ∃ x, lb[i]? = some x := ⟨lb[i], List.getElem?_eq_getElem hi⟩
        obtain ⟨b, off, rfl, hc⟩ := (hB.keep H.u) i (encU x) (by rw [List.getElem?_map, hx]; rfl)
        have k0 : wr.cell? ⟨b, off + i * 5, none⟩ = some (.int .u8 x.d) := hc 0 _ rfl
        have k1 : wr.cell? ⟨b, off + i * 5 + 1, none⟩ = some (.string x.key) := hc 1 _ rfl
        have k2 : wr.cell? ⟨b, off + i * 5 + 2, none⟩ = some (.int .i64 x.slot) := hc 2 _ rfl
        have k3 : wr.cell? ⟨b, off + i * 5 + 3, none⟩ = some (.int .i64 x.pos) := hc 3 _ rfl
        have k4 : wr.cell? ⟨b, off + i * 5 + 4, none⟩ = some (.string x.s) := hc 4 _ rfl
        have y3 : (0 : Int) ≤ (i : Int) := by omega
        have y4 : (i : Int) < (lb.length : Int) := by omega
        have hxo := hsb x (List.mem_of_getElem? hx)
        have hxk := hkb x (List.mem_of_getElem? hx)
        have hok := hxo.2.2.1
        clear hc hx
        have H3 := H.alloc (.cells #[.int .u8 x.d, .string x.key, .int .i64 x.slot, .int .i64 x.pos, .string x.s] 32)
        have hKr : (r, rblk size v) ∈ (wr.heap.size, Obj.cells #[.int .u8 x.d, .string x.key, .int .i64 x.slot, .int .i64 x.pos, .string x.s] 32 (0, 0)) :: [(r, rblk size v), (h, hblk size (m : Int) bs bv)] := by simp
        have hKh : (h, hblk size (m : Int) bs bv) ∈ (wr.heap.size, Obj.cells #[.int .u8 x.d, .string x.key, .int .i64 x.slot, .int .i64 x.pos, .string x.s] 32 (0, 0)) :: [(r, rblk size v), (h, hblk size (m : Int) bs bv)] := by simp
        go_wp2_with fail
        refine (does20 H3 hKh hKr x hxo hxk.1 hxk.2).mono ?_
        rintro e w5 ⟨vs', rfl, H4⟩
        clear H H3 k0 k1 k2 k3 k4
        generalize hgs : wr.heap.size = g at *
        clear hgs
        have hb := H4.open.1
        have hsl : (slotsV vs').length = vs'.length := by unfold slotsV keysOf; simp
        have hvl := hb.len
        have hm2 := hb.n2
        go_wp2_with fail
        refine (cSlots H4 hKh).mono ?_
        rintro e w6 ⟨s, rfl, H5⟩
        obtain ⟨A1, c1, rfl, -⟩ := H5.row
        rw [hsl] at H5 ⊢
        go_wp2_with fail
        refine (rSlots H5.refOut hKr hb).mono ?_
        rintro e w7 ⟨s, rfl, H6⟩
        obtain ⟨A2, c2, rfl, hr2⟩ := H6.row
        obtain ⟨A1', c1', e1', hr1⟩ := H6.tl.tl.outt.row
        rw [hsl] at e1' ⊢
        cases e1'
        go_wp2_with fail
        refine (numbers_slots hr1 hr2 (by omega)).mono ?_
        rintro e w8 ⟨rfl, u8⟩
        have H7 := ((H6.tl.upd u8).refIn).impT fun _ g => star_imp g fun _ g => star_tail g
        clear H6 H5 H4 hr1 hr2 u8
        have f7 := H7.blk (b := g) List.mem_cons_self
        have q2 := cell_of f7 2
        have l7 := lt_of_heap f7
        simp only [List.getElem?_toArray, List.getElem?_cons_zero, List.getElem?_cons_succ] at q2
        clear f7
        go_wp2_with fail
        refine (cGet H7 hKh x.slot hok).mono ?_
        rintro e w9 ⟨rfl, rfl⟩
        unfold strV
        go_wp2_with fail
        refine (cKey H7 hKh x.slot hok).mono ?_
        rintro e w9 ⟨rfl, rfl⟩
        unfold strV
        go_wp2_with fail
        refine (rThere H7.outt hKr hb x.slot hok).mono ?_
        rintro e w9 ⟨rfl, rfl⟩
        have hend := H7.drop [(r, rblk size v), (h, hblk size (m : Int) bs bv)] (fun p hp => List.mem_cons_of_mem _ hp)
        cases hg : aget vs' x.slot with
        | none =>
          have e1 : hget vs' x.slot = (⟨#[]⟩, false) := by unfold hget; rw [hg]
          have e2 : hkey vs' x.slot = (⟨#[]⟩, false) := by unfold hkey; rw [hg]
          rw [e1, e2]
          simp only [Option.isSome_none]
          clear e1 e2 hg
          have he : (!((⟨#[]⟩ : ByteArray) ++ ⟨#[]⟩).toList.isEmpty) = false := by kernel_rfl
          go_wp2_with fail
          go_quiet (fail)
          go_wp2_with fail
          go_roundg (gk - 1)
          case measure => omega
          case rel => exact ⟨i + 1, vs', by go_num, by omega, hend.upd ((Upd.refl [] _).drewN _)⟩
        | some p =>
          obtain ⟨k, L⟩ := p
          have hbx := hb.okI hg
          have e1 : hget vs' x.slot = (bstr L, true) := by unfold hget; rw [hg]
          have e2 : hkey vs' x.slot = (k, true) := by unfold hkey; rw [hg]
          rw [e1, e2]
          simp only [Option.isSome_some]
          clear e1 e2
          obtain ⟨Av, cv, rfl, hr, -⟩ := H7.outt.parts
          have fr := H7.blk hKr
          have c1 := cell_of fr 1
          have lr := lt_of_heap fr
          simp only [rblk, List.getElem?_toArray, List.getElem?_cons_zero, List.getElem?_cons_succ, rowsE_len] at c1
          have hjs : x.slot = ((x.slot.toNat : Nat) : Int) := by omega
          rw [hjs] at hg
          obtain ⟨bk, offk, rfl, n0, n1, n2⟩ := row_cells hr (i := x.slot.toNat) (by omega)
          rw [hg] at n0 n1
          change w8.cell? _ = some (Value.string k) at n0
          change w8.cell? _ = some (Value.string (bstr L)) at n1
          have y5 : 0 ≤ x.slot := hbx.1
          have y6 : x.slot < (m : Int) := hbx.2
          clear hg hjs hr fr n2
          go_wp2_with fail
          go_quiet (fail)
          go_wp2_with fail
          go_roundg (gk - 1)
          case measure => omega
          case rel => exact ⟨i + 1, vs', by go_num, by omega, hend.upd ((Upd.refl [] _).drewN _)⟩
      · have z1 : decide ((i : Int) < (lb.length : Int)) = false := decide_eq_false (by omega)
        have hb := H.open.1
        have hvl := hb.len
        have hm2 := hb.n2
        have hkl : (keysV vs).length = vs.length := by rw [keysV_eq, List.length_map, List.length_map, tells_len]
        have hKr : (r, rblk size v) ∈ [(r, rblk size v), (h, hblk size (m : Int) bs bv)] := by simp
        have hKh : (h, hblk size (m : Int) bs bv) ∈ [(r, rblk size v), (h, hblk size (m : Int) bs bv)] := by simp
        go_wp2_with fail
        refine (cKeys H hKh).mono ?_
        rintro e w6 ⟨s, rfl, H5⟩
        obtain ⟨A1, c1, rfl, -⟩ := H5.row
        rw [hkl] at H5 ⊢
        go_wp2_with fail
        refine (rKeys H5.refOut hKr hb).mono ?_
        rintro e w7 ⟨s, rfl, H6⟩
        obtain ⟨A2, c2, rfl, hr2⟩ := H6.row
        obtain ⟨A1', c1', e1', hr1⟩ := H6.tl.tl.outt.row
        rw [hkl] at e1' ⊢
        cases e1'
        go_wp2_with fail
        refine (lists_keys hr1 hr2 (by omega)).mono ?_
        rintro e w8 ⟨rfl, u8⟩
        have U := H6.u.trans u8
        clear H6 H5 hr1 hr2 u8 H
        go_wp2_with (go_at_call 9; (with_reducible refine (works _).mono ?_); rintro e w9 ⟨rfl, u9⟩)
        go_ret
        exact ⟨rfl, U.trans u9⟩
  · go_enter Try.func4, Try.ntmps4
    go_wp2_with fail
    refine (heavyU_spec B cb lb _ hB hsb).mono ?_
    rw [hvb]
    rintro e w1 ⟨rfl, U⟩
    clear hvb
    go_wp2_with fail
    refine (hNew_no size n _ hbd).mono ?_
    rintro e w2 ⟨rfl, rfl⟩
    go_wp2_with fail
    refine (rNew_no size n _ hbd).mono ?_
    rintro e w2 ⟨rfl, rfl⟩
    go_wp2_with (go_at_call 9; (with_reducible refine (works _).mono ?_); rintro e w9 ⟨rfl, u9⟩)
    go_ret
    exact ⟨rfl, U.trans u9⟩
end Go.Proofs.Ytagjcnhgappcjaa
