/- owns: Holds. -/
import Derived.Test.YtojjjkeciiieeaaOWalk1
namespace Go.Proofs.Ytojjjkeciiieeaa
open Go.RowKit
set_option linter.unusedVariables false
set_option linter.unusedSimpArgs false
set_option linter.unusedSectionVars false
theorem info3 : (Try.prog.info? 3).map (fun i => (i.zero, i.size, i.bytes)) = some (some (.int .i64 0), 1, 8) := by kernel_rfl
theorem SepK.tl {R T : Res} [Good T] {w0 w : World} {K : List (Nat × Obj)} (H : SepK w0 w K (star R T)) : SepK w0 w K T := by
  obtain ⟨u, A, B, h1, ⟨C, D, g1, g2, g3, g4, g5⟩, h3, h4, h5⟩ := H
  exact ⟨u, A, B, h1, Good.mono g2 (fun b _ hb => g4 b hb), h3, h4, h5⟩
/-- A list of new blocks; all that was is as it was. -/
def NewI (w w' : World) (s : Value) (l : List Int) : Prop := rowR 3 1 s (l.map encI) w' (fun b => w.heap.size ≤ b) ∧ Upd [] w w'
theorem NewI.of {w w' : World} {K : List (Nat × Obj)} {s : Value} {l : List Int} {T : Res} [Good T] (H : SepK w w' K (star (rowR 3 1 s (l.map encI)) T)) : NewI w w' s l := by
  obtain ⟨u, A, B, h1, ⟨C, D, g1, g2, g3, g4, g5⟩, h3, h4, h5⟩ := H
  exact ⟨Good.mono g1 fun b _ hb => h4 b (g3 b hb), u⟩
theorem NewI.look {w w' : World} {s : Value} {l : List Int} (h : NewI w w' s l) : ∃ A c, s = .slice A l.length c ∧ RowsAt w' A 1 (l.map encI) := by
  obtain ⟨A, c, e, hr⟩ := rowR_look h.1
  exact ⟨A, c, by rw [e, List.length_map], hr⟩
theorem cell_one_new (w : World) (x : Value) (e : TypeId) : ∀ j u, [x][j]? = some u → (w.alloc (.cells #[x] e)).cell? ((⟨w.heap.size, 0, none⟩ : Addr).add j) = some u := by
  intro j u hj
  match j, hj with
  | 0, hj =>
    cases hj
    simp [Addr.add]
theorem heldL_more {n : Nat} {fs : List Fld} {i : Nat} {f : Fld} (h : fs[i]? = some f) : heldL n (fs.take (i + 1)) = heldL n (fs.take i) ++ if okk f.kind && decide (0 ≤ f.of ∧ f.of < (n : Int)) then [f.of] else [] := by
  unfold heldL
  rw [List.take_add_one, h, List.filter_append, List.map_append]
  congr 1
  simp only [Option.toList_some, List.filter_cons, List.filter_nil]
  split <;> rfl
theorem sorted_le (l : List Int) : (l.mergeSort fun x y => decide (x ≤ y)).Pairwise (· ≤ ·) := by
  have := List.pairwise_mergeSort (le := fun x y : Int => decide (x ≤ y)) (fun a b c h1 h2 => by simp at *; omega) (fun a b => by simp; omega) l
  exact this.imp fun h => of_decide_eq_true h
set_option maxRecDepth 100000 in
set_option maxHeartbeats 4000000 in
theorem holds13 {t : Tab} {v : Value} {w : World} (hT : TabAt w v t) (hF : Fits t) (i : Int) :
    Calls Try.prog 13 #[v, .int .i64 i] w fun e w' => ∃ s, e = .returned s ∧ NewI w w' s (adj t i) := by
  obtain ⟨A, c, rfl, hR⟩ := id hT
  by_cases hi : 0 ≤ i ∧ i < (t.length : Int)
  · obtain ⟨k, rfl⟩ : ∃ k : Nat, i = k := ⟨i.toNat, by omega⟩
    obtain ⟨ty, hty⟩ : ∃ ty, t[k]? = some ty := ⟨_, List.getElem?_eq_getElem (show k < t.length by omega)⟩
    obtain ⟨b, off, Af, cf, rfl, -, -, k2, hRF⟩ := hR k ty hty
    have hfl := hF.2 ty (List.mem_of_getElem? hty)
    have htl := hF.1
    have hfe := fieldsOf_at hty
    have y1 : (0 : Int) ≤ (k : Int) := by omega
    have y2 : (k : Int) < (t.length : Int) := hi.2
    clear hR hty hi
    have H0 := (SepK.start w).row0 3 1
    obtain ⟨i0, hi0, hz0, hz1, hz2⟩ := info_parts info3
    have HFin : Unit → ∀ l, l = heldL t.length ty.fs → Go.Lib.compact (l.mergeSort fun x y => decide (x ≤ y)) = adj t (k : Int) := fun _ l hl => by
      refine adj_eq t (k : Int) (sorted_le l) ?_
      rw [hfe, ← hl]
      exact List.mergeSort_perm _ _
    clear hfe
    go_enter Try.func13, Try.ntmps13
    go_wp2_with fail
    refine (there_yes _ _ _ _ _ y1 y2).mono ?_
    rintro e w1 ⟨rfl, rfl⟩
    go_wp2_with fail
    go_loopg [4, 17] ty.fs.length (fun kq v4 v17 w' => ∃ j : Nat, v17 = .int .i64 (j : Int) ∧ kq + j = ty.fs.length ∧ SepK w w' [] (star (rowR 3 1 v4 ((heldL t.length (ty.fs.take j)).map encI)) emp))
    case atStart => exact ⟨0, rfl, rfl, H0⟩
    case round =>
      clear H0
      obtain ⟨j, rfl, hk, H⟩ := hrel
      by_cases hj : j < ty.fs.length
      · have z1 : decide ((j : Int) < (ty.fs.length : Int)) = true := decide_eq_true (by omega)
        obtain ⟨f, hf⟩ : ∃ f, ty.fs[j]? = some f := ⟨_, List.getElem?_eq_getElem hj⟩
        obtain ⟨bf, of_, rfl, hc⟩ := (hRF.keep H.u) j (encF f) (by rw [List.getElem?_map, hf]; rfl)
        have k0 : wr.cell? ⟨bf, of_ + j * 5, none⟩ = some (.string f.name) := hc 0 _ rfl
        have k1 : wr.cell? ⟨bf, of_ + j * 5 + 1, none⟩ = some (.int .u8 f.kind) := hc 1 _ rfl
        have k2' : wr.cell? ⟨bf, of_ + j * 5 + 2, none⟩ = some (.int .i64 f.pos) := hc 2 _ rfl
        have k3 : wr.cell? ⟨bf, of_ + j * 5 + 3, none⟩ = some (.int .i64 f.of) := hc 3 _ rfl
        have k4 : wr.cell? ⟨bf, of_ + j * 5 + 4, none⟩ = some (.int .i64 f.node) := hc 4 _ rfl
        have y3 : (0 : Int) ≤ (j : Int) := by omega
        have y4 : (j : Int) < (ty.fs.length : Int) := by omega
        have hm := heldL_more (n := t.length) hf
        have hhl : (heldL t.length (ty.fs.take j)).length ≤ j := by
          unfold heldL
          rw [List.length_map]
          exact Nat.le_trans (List.length_filter_le _ _) (by simp; omega)
        clear hc hf
        have H1 := (H.alloc (.cells #[.string f.name, .int .u8 f.kind, .int .i64 f.pos, .int .i64 f.of, .int .i64 f.node] 43)).alloc kinds3
        have fx := H1.blk (List.mem_cons_of_mem _ List.mem_cons_self)
        have x1 := cell_of fx 1
        have x3 := cell_of fx 3
        have lx := lt_of_heap fx
        have hb3 := H1.blk List.mem_cons_self
        simp only [List.getElem?_toArray, List.getElem?_cons_zero, List.getElem?_cons_succ] at x1 x3
        clear fx
        rw [alloc_size] at hb3 H1
        go_wp2_with fail
        refine (contains24 _ _ hb3 f.kind).mono ?_
        cases ho : okk f.kind with
        | false =>
          rw [ho, Bool.false_and] at hm
          simp only [Bool.false_eq_true, if_false, List.append_nil] at hm
          have HM : Unit → heldL t.length (ty.fs.take (j + 1)) = heldL t.length (ty.fs.take j) := fun _ => hm
          clear hm ho
          rintro e w2 ⟨rfl, rfl⟩
          go_wp2_with fail
          go_roundg (gk - 1)
          case measure => omega
          case rel => exact ⟨j + 1, by go_num, by omega, by rw [HM ()]; exact H1.drop [] (fun p hp => by cases hp)⟩
        | true =>
          rw [ho, Bool.true_and] at hm
          clear ho
          rintro e w2 ⟨rfl, rfl⟩
          go_wp2_with fail
          refine (there_any _ _ _ f.of _).mono ?_
          by_cases hof : 0 ≤ f.of ∧ f.of < (t.length : Int)
          · rw [decide_eq_true hof] at hm ⊢
            simp only [if_true] at hm
            have HM : Unit → heldL t.length (ty.fs.take (j + 1)) = heldL t.length (ty.fs.take j) ++ [f.of] := fun _ => hm
            clear hm hof
            rintro e w2 ⟨rfl, rfl⟩
            have H2 := H1.alloc (.cells #[.int .i64 f.of] 3)
            rw [alloc_size, alloc_size] at H2
            go_wp2_with (at_builtin; refine wl_append rfl _ _ 25 rfl 3 i0 (.int .i64 0) 1 8 Try.underlying25 hi0 hz0 hz1 hz2 rfl (by decide) _ _ rfl H2 ⟨wr.heap.size + 1 + 1, 0, none⟩ 1 [.int .i64 f.of] rfl rfl (by have := cell_one_new ((wr.alloc (.cells #[.string f.name, .int .u8 f.kind, .int .i64 f.pos, .int .i64 f.of, .int .i64 f.node] 43)).alloc kinds3) (.int .i64 f.of) 3; rw [alloc_size, alloc_size] at this; exact this) (fun u hu => by simp at hu; subst hu; rfl) (by unfold maxLen; simp; omega) (by simp; omega) ?_; intro v' w5 H3)
            go_roundg (gk - 1)
            case measure => omega
            case rel => exact ⟨j + 1, by go_num, by omega, by rw [HM (), List.map_append]; exact H3.drop [] (fun p hp => by cases hp)⟩
          · rw [decide_eq_false hof] at hm ⊢
            simp only [Bool.false_eq_true, if_false, List.append_nil] at hm
            have HM : Unit → heldL t.length (ty.fs.take (j + 1)) = heldL t.length (ty.fs.take j) := fun _ => hm
            clear hm hof
            rintro e w2 ⟨rfl, rfl⟩
            go_wp2_with fail
            go_roundg (gk - 1)
            case measure => omega
            case rel => exact ⟨j + 1, by go_num, by omega, by rw [HM ()]; exact H1.drop [] (fun p hp => by cases hp)⟩
      · have z1 : decide ((j : Int) < (ty.fs.length : Int)) = false := decide_eq_false (by omega)
        have hll : (heldL t.length (ty.fs.take j)).length ≤ 1000 := by
          unfold heldL
          rw [List.length_map]
          exact Nat.le_trans (List.length_filter_le _ _) (by simp; omega)
        have HL : Unit → heldL t.length (ty.fs.take j) = heldL t.length ty.fs := fun _ => by rw [List.take_of_length_le (by omega)]
        go_wp2_with fail
        refine (sort25 H (by omega)).mono ?_
        rintro e w2 ⟨rfl, H1⟩
        go_wp2_with fail
        refine (compact26 H1 (by simp; omega)).mono ?_
        rintro e w3 ⟨v', rfl, H2⟩
        go_wp2_with fail
        go_ret
        refine ⟨v', rfl, ?_⟩
        rw [HFin () _ (HL ())] at H2
        exact NewI.of H2
  · have ha := adj_out hi
    rw [ha]
    clear ha
    go_enter Try.func13, Try.ntmps13
    go_wp2_with fail
    refine (there_no _ _ _ _ _ hi).mono ?_
    rintro e w1 ⟨rfl, rfl⟩
    go_wp2_with fail
    go_ret
    exact ⟨_, rfl, rowR_nil _ _ _ _, Upd.refl _ _⟩
end Go.Proofs.Ytojjjkeciiieeaa
