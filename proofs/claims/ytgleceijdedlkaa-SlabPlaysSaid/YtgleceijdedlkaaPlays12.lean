/- SlabPlays: the walk. -/
import Derived.Test.YtgleceijdedlkaaDoes12
import Derived.Test.YtgleceijdedlkaaRoom12
import Derived.Test.YtgleceijdedlkaaAll
namespace Go.Proofs.Ytgleceijdedlkaa
set_option linter.unusedSectionVars false
set_option linter.unusedVariables false
set_option linter.unusedSimpArgs false
open Go.RowKit
theorem rowcellI {w : World} {A : Option Addr} {l : List (Int × List UInt8)} (h : RowsAt w A 1 ((l.map (·.1)).map encI)) {k : Nat} {q : Int × List UInt8} (hq : l[k]? = some q) : ∃ b off, A = some ⟨b, off, none⟩ ∧ w.cell? ⟨b, off + k, none⟩ = some (.int .i64 q.1) := by
  obtain ⟨b, off, e, hc⟩ := h k (encI q.1) (by rw [List.getElem?_map, List.getElem?_map, hq]; rfl)
  exact ⟨b, off, e, by simpa using hc 0 _ rfl⟩
set_option maxRecDepth 100000 in
set_option maxHeartbeats 8000000 in
theorem plays12_walk (room : Int) (A : Option Addr) (c : Nat) (ls : List St12) (w : World) (hrm : okI room) (hl : RowsAt w A 5 (ls.map encU)) (hs : ∀ s ∈ ls, okU s) :
    Calls Try.prog 13 #[.int .i64 room, .slice A ls.length c] w fun e w' => e = .returned (.bool true) ∧ Upd [] w w' := by
  cases hv : heavyU ls with
  | true =>
    go_enter Try.func13, Try.ntmps13
    go_wp2_with (first | (go_at_call 53; (with_reducible refine (heavyU_spec A c ls _ hl hs).mono ?_); rw [hv]; rintro e w1 ⟨rfl, u0⟩) | (go_at_call 21; (with_reducible refine (works12 _).mono ?_); rintro e w2 ⟨rfl, u1⟩))
    go_ret
    exact ⟨rfl, u0.trans u1⟩
  | false =>
  have hlen : ls.length ≤ 250 := by
    unfold heavyU at hv
    simp at hv
    omega
  by_cases hr : room < 0 ∨ 65536 < room
  · have hr2 : decide (room < 0) = true ∨ (decide (room < 0) = false ∧ decide (65536 < room) = true) := by
      by_cases h : room < 0
      · exact .inl (decide_eq_true h)
      · exact .inr ⟨decide_eq_false h, decide_eq_true (by omega)⟩
    rcases hr2 with y1 | ⟨y1, y2⟩
    all_goals
      go_enter Try.func13, Try.ntmps13
      go_wp2_with (first | (go_at_call 53; (with_reducible refine (heavyU_spec A c ls _ hl hs).mono ?_); rw [hv]; rintro e w1 ⟨rfl, u0⟩) | (go_at_call 22; refine (NewSlab_no _ room hr).mono ?_; rintro e w2 ⟨rfl, u1⟩) | (go_at_call 21; (with_reducible refine (works12 _).mono ?_); rintro e w3 ⟨rfl, u2⟩))
      go_ret
      exact ⟨rfl, (u0.trans u1).trans u2⟩
  have y1 : decide (room < 0) = false := decide_eq_false (by omega)
  have y2 : decide (65536 < room) = false := decide_eq_false (by omega)
  have r0 : 0 ≤ room := by omega
  have r1 : room ≤ 65536 := by omega
  clear hr
  go_enter Try.func13, Try.ntmps13
  go_wp2_with fail
  refine (heavyU_spec A c ls _ hl hs).mono ?_
  rw [hv]
  rintro e w1 ⟨rfl, u0⟩
  go_wp2_with fail
  refine (lNew ((SepK.start w).upd u0) room r0 r1).mono ?_
  rintro e w2 ⟨s, rfl, h1⟩
  have h2 := (h1.alloc (tblk room (.slice none 0 0))).row0 101 2
  replace h2 := h2.swap
  go_wp2_with fail
  generalize hr : w2.heap.size = r at h2 ⊢
  clear hr h1 u0 y1 y2
  go_loopg [8] ls.length (fun kq v8 w' => ∃ (i : Nat) (used : Int) (sl l : List (Int × List UInt8)) (vL : Value), v8 = .int .i64 (i : Int) ∧ kq + i = ls.length ∧ SepK w w' [(r, tblk room vL)] (star (slabR s room used sl) (star (rowR 101 2 vL (l.map encT)) emp)) ∧ Ps i room used sl l)
  case atStart => exact ⟨0, 0, [], [], _, rfl, rfl, h2, Ps.start room r0⟩
  case round =>
    clear h2
    obtain ⟨i, used, sl, l, vL, rfl, hk, hS, hP⟩ := hrel
    obtain rfl : gk = ls.length - i := by omega
    by_cases hi : i < ls.length
    · have z4 : decide ((i : Int) < (ls.length : Int)) = true := decide_eq_true (by omega)
      obtain ⟨x, hx⟩ : ∃ x, ls[i]? = some x := ⟨ls[i], List.getElem?_eq_getElem hi⟩
      obtain ⟨b, off, rfl, hc⟩ := (hl.keep hS.u) i (encU x) (by rw [List.getElem?_map, hx]; rfl)
      have k0 : wr.cell? ⟨b, off + i * 5, none⟩ = some (.int .i64 x.d) := hc 0 _ rfl
      have k1 : wr.cell? ⟨b, off + i * 5 + 1, none⟩ = some (.int .i64 x.slot) := hc 1 _ rfl
      have k2 : wr.cell? ⟨b, off + i * 5 + 2, none⟩ = some (.int .i64 x.pos) := hc 2 _ rfl
      have k3 : wr.cell? ⟨b, off + i * 5 + 3, none⟩ = some (.int .i64 x.n) := hc 3 _ rfl
      have k4 : wr.cell? ⟨b, off + i * 5 + 4, none⟩ = some (.string x.s) := hc 4 _ rfl
      have hso := hs _ (List.mem_of_getElem? hx)
      clear hc hx
      have lr := lt_of_heap (hS.blk List.mem_cons_self)
      have hX := (hS.alloc (.cells #[.int .i64 x.d, .int .i64 x.slot, .int .i64 x.pos, .int .i64 x.n, .string x.s] 98)).drop [(r, tblk room vL), (wr.heap.size, Obj.cells #[.int .i64 x.d, .int .i64 x.slot, .int .i64 x.pos, .int .i64 x.n, .string x.s] 98 (0, 0))] (by intro p hp; simp at hp ⊢; rcases hp with h | h <;> simp [h])
      have hKr : ∀ p ∈ [(wr.heap.size, Obj.cells #[.int .i64 x.d, .int .i64 x.slot, .int .i64 x.pos, .int .i64 x.n, .string x.s] 98 (0, 0))], p.1 ≠ r := by
        intro p hp
        simp at hp
        rcases hp with rfl
        simp
        omega
      clear hS
      go_wp2_with fail
      refine (does12 hX hKr hP (by omega) r1 x hso).mono ?_
      rintro e wa ⟨vL', used', sl', l', rfl, ha, hP'⟩
      clear hX hP k0 k1 k2 k3 k4
      have hU : Unit → used' = usedOf l' := fun _ => hP'.use
      have hle := hP'.len
      have hsl := hP'.slen
      have hbd : ∀ p ∈ l', p.2.length ≤ 1000 := fun p hp => by have := (hP'.bd hp).2; omega
      generalize hb9 : wr.heap.size = b9 at ha hKr ⊢
      clear hb9 lr
      go_wp2_with fail
      refine (lUsed ha).mono ?_
      rintro e wb ⟨rfl, rfl⟩
      go_wp2_with fail
      refine (uUsed ha.swap List.mem_cons_self (by omega) hbd).mono ?_
      rintro e wb ⟨rfl, rfl⟩
      rw [← hU ()]
      go_wp2_with fail
      refine (lRoom ha).mono ?_
      rintro e wb ⟨rfl, rfl⟩
      go_wp2_with fail
      refine (lSlots ha (by omega)).mono ?_
      rintro e wc ⟨v, rfl, hc⟩
      rw [hP'.keys] at hc
      clear ha
      obtain ⟨Av, cv, rfl, -⟩ := hc.parts
      rw [List.length_map, List.length_map] at hc
      obtain ⟨A9, c9, e9, -⟩ := hc.pull2.row
      rw [List.length_map] at e9
      subst e9
      have fr := hc.blk (b := r) List.mem_cons_self
      have c1 := cell_of fr 1
      have lr := lt_of_heap fr
      simp only [List.getElem?_toArray, List.getElem?_cons_zero, List.getElem?_cons_succ] at c1
      clear fr
      have ylen : ((l'.length : Int) != (l'.length : Int)) = false := by simp
      go_wp2_with fail
      clear c1 lr
      go_loopg [11] l'.length (fun kq v11 w' => ∃ k : Nat, v11 = .int .i64 (k : Int) ∧ kq + k = l'.length ∧ SepK w w' [(r, tblk room (.slice A9 l'.length c9)), (b9, Obj.cells #[.int .i64 x.d, .int .i64 x.slot, .int .i64 x.pos, .int .i64 x.n, .string x.s] 98 (0, 0))] (star (rowR 3 1 (.slice Av l'.length cv) ((l'.map (·.1)).map encI)) (star (slabR s room used' sl') (star (rowR 101 2 (.slice A9 l'.length c9) (l'.map encT)) emp))))
      case atStart => exact ⟨0, rfl, rfl, hc⟩
      case round =>
        clear hc
        obtain ⟨k, rfl, hk2, hc⟩ := hrel
        have fr := hc.blk (b := r) List.mem_cons_self
        have c1 := cell_of fr 1
        have lr := lt_of_heap fr
        simp only [List.getElem?_toArray, List.getElem?_cons_zero, List.getElem?_cons_succ] at c1
        clear fr
        by_cases hkl : k < l'.length
        · have y3 : decide ((k : Int) < (l'.length : Int)) = true := decide_eq_true (by omega)
          have y4 : (0 : Int) ≤ (k : Int) := by omega
          have y5 : (k : Int) < (l'.length : Int) := by omega
          obtain ⟨q, hq⟩ : ∃ q, l'[k]? = some q := ⟨l'[k], List.getElem?_eq_getElem hkl⟩
          obtain ⟨A8, c8, e8, hr8⟩ := hc.row
          rw [List.length_map, List.length_map] at e8
          cases e8
          obtain ⟨bv, ov, rfl, n0⟩ := rowcellI hr8 hq
          clear hr8
          obtain ⟨A7, c7, e7, hr7⟩ := hc.pull2.row
          rw [List.length_map] at e7
          cases e7
          obtain ⟨bo, oo, rfl, n1, n2⟩ := rowcellT hr7 hq
          clear hr7
          have hq1 := hbd q (List.mem_of_getElem? hq)
          have hget : aget sl' q.1 = some q.2 := by rw [hP'.get]; exact aget_of_mem hP'.nd (List.mem_of_getElem? hq)
          have hokq : okI q.1 := hc.swap.slots.2 _ (List.mem_map.2 ⟨q, hP'.perm.mem_iff.2 (List.mem_of_getElem? hq), rfl⟩)
          have hsz : ((bstr q.2).size : Int) = (q.2.length : Int) := by rw [bstr_size]
          have e1 : (q.1 != q.1) = false := by simp
          have e2 : ((q.2.length : Int) != (q.2.length : Int)) = false := by simp
          go_wp2_with fail
          refine (lSize_ok hc.swap q.1 hokq q.2 hget hq1).mono ?_
          rintro e wd ⟨rfl, rfl⟩
          go_upto_region 22 with fail
          replace hc := hc.upd (Upd.refl [] _).drew
          go_region_held3 (fun w' => w'.cell? ⟨bv, ov + k, none⟩ = some (.int .i64 q.1) ∧ w'.cell? ⟨bo, oo + k * 2, none⟩ = some (.int .i64 q.1) ∧ w'.cell? ⟨bo, oo + k * 2 + 1, none⟩ = some (.string (bstr q.2)) ∧ w'.cell? ⟨r, 1, none⟩ = some (.slice (some ⟨bo, oo, none⟩) l'.length c9)) (exact ⟨n0, n1, n2, c1⟩) (first | fail)
          go_wp2_with fail
          go_roundg (gk - 1)
          case measure => omega
          case rel => exact ⟨k + 1, by go_num, by omega, hc⟩
        · have y3 : decide ((k : Int) < (l'.length : Int)) = false := decide_eq_false (by omega)
          have ha := hc.imp fun _ g => star_tail g
          have f9 := ha.blk (b := b9) (List.mem_cons_of_mem _ List.mem_cons_self)
          have q1 := cell_of f9 1
          have l9 := lt_of_heap f9
          simp only [List.getElem?_toArray, List.getElem?_cons_zero, List.getElem?_cons_succ] at q1
          clear f9 hc
          rcases hP'.at_ x.slot with ⟨hg, hat⟩ | ⟨j, q, hg, hat, hq, hqs⟩
          · have y7 : decide (0 ≤ posT l' x.slot) = false := decide_eq_false (by omega)
            go_wp2_with (first | (go_at_call 57; refine (lSize_no ha x.slot hso.2.1 hg).mono ?_; rintro e wd ⟨rfl, rfl⟩) | (go_at_call 58; refine (uAt ha.swap List.mem_cons_self x.slot (by omega)).mono ?_; rintro e we ⟨rfl, rfl⟩))
            go_roundg (ls.length - i - 1)
            case measure => omega
            case rel => exact ⟨i + 1, used', sl', l', _, by go_num, by omega, ha.drop _ (fun p hp => by simp at hp ⊢; exact .inl hp), hP'⟩
          · have y7 : decide (0 ≤ posT l' x.slot) = true := decide_eq_true (by omega)
            go_wp2_with (first | (go_at_call 57; refine (lSize_ok ha x.slot hso.2.1 q.2 hg (hbd q (List.mem_of_getElem? hq))).mono ?_; rintro e wd ⟨rfl, rfl⟩) | (go_at_call 58; refine (uAt ha.swap List.mem_cons_self x.slot (by omega)).mono ?_; rintro e we ⟨rfl, rfl⟩))
            go_roundg (ls.length - i - 1)
            case measure => omega
            case rel => exact ⟨i + 1, used', sl', l', _, by go_num, by omega, ha.drop _ (fun p hp => by simp at hp ⊢; exact .inl hp), hP'⟩
    · have z4 : decide ((i : Int) < (ls.length : Int)) = false := decide_eq_false (by omega)
      have U := hS.u
      clear hS
      go_wp2_with (go_at_call 21; (with_reducible refine (works12 _).mono ?_); rintro e wc ⟨rfl, u1⟩)
      go_ret
      exact ⟨rfl, U.trans u1⟩
end Go.Proofs.Ytgleceijdedlkaa
