/- code: Check answers checkP: any program. -/
import Derived.Test.YtibghcmkmbamjaaCParts
namespace Go.Proofs.Ytibghcmkmbamjaa
open Go.RowKit Go.Shelf
set_option linter.unusedVariables false
set_option linter.unusedSimpArgs false
set_option linter.unusedSectionVars false
theorem St.row {w0 W : World} {b0 c i : Nat} {A : Option Addr} {l : List Ins} {E : Nat × Obj} (h : St w0 b0 A l c E i W) : W.heap[b0 + 1 + 1 + 1 + 1]? = some (rowC b0) := by
  obtain ⟨bs, vS, ss, H, h1⟩ := h
  exact H.blk (by simp)
theorem St.four {w0 W : World} {b0 c i : Nat} {A : Option Addr} {l : List Ins} {E : Nat × Obj} (h : St w0 b0 A l c E i W) : b0 + 1 + 1 + 1 + 1 < W.heap.size := lt_of_heap h.row
set_option maxRecDepth 100000 in
set_option maxHeartbeats 16000000 in
theorem check33_go {w : World} {A : Option Addr} {l : List Ins} (c : Nat) (hr : RowsAt w A 5 (l.map encN)) (hok : ∀ x ∈ l, OkI x) (hne : 0 < l.length) (hl : l.length ≤ 1024) :
    Calls Try.prog 33 #[.slice A l.length c] w fun e w' => ∃ v, e = .returned (.tuple #[v, .int .i64 (checkP l).2.1, .int .i64 (checkP l).2.2]) ∧ SepK w w' [] (star (rowR 53 2 v ((checkP l).1.map encS)) emp) := by
  have z0 : ((l.length : Int) == 0) = false := by
    have : ¬ (l.length : Int) = 0 := by omega
    simpa using this
  have z1 : decide ((1024 : Int) < (l.length : Int)) = false := decide_eq_false (by omega)
  have hst := store_func
  have hmm := @run_makeMap Try.prog
  go_enter Try.func33, Try.ntmps33
  go_wp2_with fail
  have S0 : St w w.heap.size A l c (w.heap.size, .cells #[.slice A l.length c] 43) 0 (((((w.alloc (.cells #[.slice A l.length c] 43)).alloc (.map #[] 0)).alloc (.cells #[.slice A l.length c, .map (some (w.heap.size + 1)), .slice none 0 0] 85)).alloc (.cells #[.pointer (some ⟨w.heap.size + 1 + 1, 0, none⟩)] 82)).alloc (rowC w.heap.size)) := by
    have H := (((((SepK.start w).alloc (.cells #[.slice A l.length c] 43)).map0 (Value.int .i64) Value.bool okI).alloc (.cells #[.slice A l.length c, .map (some (w.heap.size + 1)), .slice none 0 0] 85)).alloc (.cells #[.pointer (some ⟨w.heap.size + 1 + 1, 0, none⟩)] 82)).alloc (rowC w.heap.size)
    simp only [alloc_size] at H
    refine ⟨[], .slice none 0 0, [], (H.row0 53 2).drop _ (fun q hq => ?_), fun t => by simp [aget], fun _ => ⟨rfl, rfl⟩, (by intro h; omega), ⟨(by intro h; omega), (by intro h; omega), (by intro h; omega), (by intro h; omega), (by intro h; omega), (by intro h; omega)⟩⟩
    simp only [List.mem_cons, List.not_mem_nil, or_false] at hq ⊢
    rcases hq with h | h | h | h | h <;> simp [h]
  generalize ((((w.alloc (.cells #[.slice A l.length c] 43)).alloc (.map #[] 0)).alloc (.cells #[.slice A l.length c, .map (some (w.heap.size + 1)), .slice none 0 0] 85)).alloc (.cells #[.pointer (some ⟨w.heap.size + 1 + 1, 0, none⟩)] 82)).alloc (rowC w.heap.size) = W1 at S0 ⊢
  have p0 := fun E W => part0 (W := W) (E := E) (c := c) (b0 := w.heap.size) hr hok hl hne
  have p1 := fun E W => part1 (W := W) (E := E) (c := c) (b0 := w.heap.size) hr hok hl hne
  have p2 := fun E hE W => part2 (W := W) (E := E) (c := c) (b0 := w.heap.size) hr hok hl hne hE
  have p3 := fun E W => part3 (W := W) (E := E) (c := c) (b0 := w.heap.size) hr hok hl hne
  have p4 := fun E W => part4 (W := W) (E := E) (c := c) (b0 := w.heap.size) hr hok hl hne
  have p5 := fun E W => part5 (W := W) (E := E) (c := c) (b0 := w.heap.size) hr hok hl hne
  clear hmm
  generalize w.heap.size = b0 at S0 p0 p1 p2 p3 p4 p5 ⊢
  have e61 : ∀ args w, (callFunc 61 args).run Try.prog w = .ok (.enter 61 args) w := enters_of Try.func61 (by kernel_rfl) rfl
  have e65 : ∀ args w, (callFunc 65 args).run Try.prog w = .ok (.enter 65 args) w := enters_of Try.func65 (by kernel_rfl) rfl
  have e68 : ∀ args w, (callFunc 68 args).run Try.prog w = .ok (.enter 68 args) w := enters_of Try.func68 (by kernel_rfl) rfl
  have e70 : ∀ args w, (callFunc 70 args).run Try.prog w = .ok (.enter 70 args) w := enters_of Try.func70 (by kernel_rfl) rfl
  have e72 : ∀ args w, (callFunc 72 args).run Try.prog w = .ok (.enter 72 args) w := enters_of Try.func72 (by kernel_rfl) rfl
  have e76 : ∀ args w, (callFunc 76 args).run Try.prog w = .ok (.enter 76 args) w := enters_of Try.func76 (by kernel_rfl) rfl
  go_loopg [36] 6 (fun kq v36 w' => ∃ i : Nat, v36 = .int .i64 (i : Int) ∧ kq + i = 6 ∧ St w b0 A l c (b0, .cells #[.slice A l.length c] 43) i w')
  case atStart => exact ⟨0, rfl, rfl, S0⟩
  case round =>
    clear S0
    obtain ⟨i, rfl, hk, hS⟩ := hrel
    have hrow := hS.row
    have lr := lt_of_heap hrow
    match i, hk, hS with
    | 0, hk, hS =>
      have k0 := cell_of hrow 0
      have k1 := cell_of hrow 1
      simp only [List.getElem?_toArray, List.getElem?_cons_zero, List.getElem?_cons_succ] at k0 k1
      have hp := p0 (wr.heap.size, .cells #[.func (.func 61) #[] #[.pointer (some ⟨b0 + 1 + 1 + 1, 0, none⟩)], .int .i64 80] 89) _ (hS.alloc (.cells #[.func (.func 61) #[] #[.pointer (some ⟨b0 + 1 + 1 + 1, 0, none⟩)], .int .i64 80] 89))
      go_wp2_with fail
      refine hp.mono ?_
      rintro e w2 ⟨r, rfl, U, hx7, h1, h2⟩
      by_cases h0 : 0 ≤ r
      · have z2 : decide (0 ≤ r) = true := decide_eq_true h0
        have HR : Unit → checkP l = ([], r, 80) := fun _ => h1 h0
        have hU := U
        have c7 := cell_of hx7 1
        have l7 := lt_of_heap hx7
        simp only [List.getElem?_toArray, List.getElem?_cons_zero, List.getElem?_cons_succ] at c7
        clear h1 h2 hp k0 k1 lr hrow p0 p1 p2 p3 p4 p5 hS hx7 h0
        go_wp2_with fail
        go_quiet (fail)
        go_wp2_with fail
        refine bodyPost_ret (v := .tuple #[.slice none 0 0, .int .i64 r, .int .i64 80]) (by simp [results, Try.results33, go_sem]) rfl ⟨.slice none 0 0, by rw [HR ()], ?_⟩
        rw [HR ()]
        exact ((SepK.start w).upd (hU.trans ((Upd.refl [] _).drewN _))).row0 53 2
      · have z2 : decide (0 ≤ r) = false := decide_eq_false h0
        have hN := (h2 (by omega)).plain
        clear h1 h2 hp k0 k1 lr hrow h0 hx7
        go_wp2_with fail
        go_roundg (gk - 1)
        case measure => omega
        case rel => exact ⟨1, by rfl, by omega, hN⟩
    | 1, hk, hS =>
      have k0 := cell_of hrow 2
      have k1 := cell_of hrow 3
      simp only [List.getElem?_toArray, List.getElem?_cons_zero, List.getElem?_cons_succ] at k0 k1
      have hp := p1 (wr.heap.size, .cells #[.func (.func 65) #[] #[.pointer (some ⟨b0 + 1 + 1 + 1, 0, none⟩)], .int .i64 81] 89) _ (hS.alloc (.cells #[.func (.func 65) #[] #[.pointer (some ⟨b0 + 1 + 1 + 1, 0, none⟩)], .int .i64 81] 89))
      go_wp2_with fail
      refine hp.mono ?_
      rintro e w2 ⟨r, rfl, U, hx7, h1, h2⟩
      by_cases h0 : 0 ≤ r
      · have z2 : decide (0 ≤ r) = true := decide_eq_true h0
        have HR : Unit → checkP l = ([], r, 81) := fun _ => h1 h0
        have hU := U
        have c7 := cell_of hx7 1
        have l7 := lt_of_heap hx7
        simp only [List.getElem?_toArray, List.getElem?_cons_zero, List.getElem?_cons_succ] at c7
        clear h1 h2 hp k0 k1 lr hrow p0 p1 p2 p3 p4 p5 hS hx7 h0
        go_wp2_with fail
        go_quiet (fail)
        go_wp2_with fail
        refine bodyPost_ret (v := .tuple #[.slice none 0 0, .int .i64 r, .int .i64 81]) (by simp [results, Try.results33, go_sem]) rfl ⟨.slice none 0 0, by rw [HR ()], ?_⟩
        rw [HR ()]
        exact ((SepK.start w).upd (hU.trans ((Upd.refl [] _).drewN _))).row0 53 2
      · have z2 : decide (0 ≤ r) = false := decide_eq_false h0
        have hN := (h2 (by omega)).plain
        clear h1 h2 hp k0 k1 lr hrow h0 hx7
        go_wp2_with fail
        go_roundg (gk - 1)
        case measure => omega
        case rel => exact ⟨2, by rfl, by omega, hN⟩
    | 2, hk, hS =>
      have k0 := cell_of hrow 4
      have k1 := cell_of hrow 5
      simp only [List.getElem?_toArray, List.getElem?_cons_zero, List.getElem?_cons_succ] at k0 k1
      have hp := p2 (wr.heap.size, .cells #[.func (.func 68) #[] #[.pointer (some ⟨b0 + 1 + 1 + 1, 0, none⟩)], .int .i64 4] 89) (by have := hS.four; show wr.heap.size ≠ b0 + 1 + 1; omega) _ (hS.alloc (.cells #[.func (.func 68) #[] #[.pointer (some ⟨b0 + 1 + 1 + 1, 0, none⟩)], .int .i64 4] 89))
      go_wp2_with fail
      refine hp.mono ?_
      rintro e w2 ⟨r, rfl, U, hx7, h1, h2⟩
      by_cases h0 : 0 ≤ r
      · have z2 : decide (0 ≤ r) = true := decide_eq_true h0
        have HR : Unit → checkP l = ([], r, 4) := fun _ => h1 h0
        have hU := U
        have c7 := cell_of hx7 1
        have l7 := lt_of_heap hx7
        simp only [List.getElem?_toArray, List.getElem?_cons_zero, List.getElem?_cons_succ] at c7
        clear h1 h2 hp k0 k1 lr hrow p0 p1 p2 p3 p4 p5 hS hx7 h0
        go_wp2_with fail
        go_quiet (fail)
        go_wp2_with fail
        refine bodyPost_ret (v := .tuple #[.slice none 0 0, .int .i64 r, .int .i64 4]) (by simp [results, Try.results33, go_sem]) rfl ⟨.slice none 0 0, by rw [HR ()], ?_⟩
        rw [HR ()]
        exact ((SepK.start w).upd (hU.trans ((Upd.refl [] _).drewN _))).row0 53 2
      · have z2 : decide (0 ≤ r) = false := decide_eq_false h0
        have hN := (h2 (by omega)).plain
        clear h1 h2 hp k0 k1 lr hrow h0 hx7
        go_wp2_with fail
        go_roundg (gk - 1)
        case measure => omega
        case rel => exact ⟨3, by rfl, by omega, hN⟩
    | 3, hk, hS =>
      have k0 := cell_of hrow 6
      have k1 := cell_of hrow 7
      simp only [List.getElem?_toArray, List.getElem?_cons_zero, List.getElem?_cons_succ] at k0 k1
      have hp := p3 (wr.heap.size, .cells #[.func (.func 70) #[] #[.pointer (some ⟨b0 + 1 + 1 + 1, 0, none⟩)], .int .i64 82] 89) _ (hS.alloc (.cells #[.func (.func 70) #[] #[.pointer (some ⟨b0 + 1 + 1 + 1, 0, none⟩)], .int .i64 82] 89))
      go_wp2_with fail
      refine hp.mono ?_
      rintro e w2 ⟨r, rfl, U, hx7, h1, h2⟩
      by_cases h0 : 0 ≤ r
      · have z2 : decide (0 ≤ r) = true := decide_eq_true h0
        have HR : Unit → checkP l = ([], r, 82) := fun _ => h1 h0
        have hU := U
        have c7 := cell_of hx7 1
        have l7 := lt_of_heap hx7
        simp only [List.getElem?_toArray, List.getElem?_cons_zero, List.getElem?_cons_succ] at c7
        clear h1 h2 hp k0 k1 lr hrow p0 p1 p2 p3 p4 p5 hS hx7 h0
        go_wp2_with fail
        go_quiet (fail)
        go_wp2_with fail
        refine bodyPost_ret (v := .tuple #[.slice none 0 0, .int .i64 r, .int .i64 82]) (by simp [results, Try.results33, go_sem]) rfl ⟨.slice none 0 0, by rw [HR ()], ?_⟩
        rw [HR ()]
        exact ((SepK.start w).upd (hU.trans ((Upd.refl [] _).drewN _))).row0 53 2
      · have z2 : decide (0 ≤ r) = false := decide_eq_false h0
        have hN := (h2 (by omega)).plain
        clear h1 h2 hp k0 k1 lr hrow h0 hx7
        go_wp2_with fail
        go_roundg (gk - 1)
        case measure => omega
        case rel => exact ⟨4, by rfl, by omega, hN⟩
    | 4, hk, hS =>
      have k0 := cell_of hrow 8
      have k1 := cell_of hrow 9
      simp only [List.getElem?_toArray, List.getElem?_cons_zero, List.getElem?_cons_succ] at k0 k1
      have hp := p4 (wr.heap.size, .cells #[.func (.func 72) #[] #[.pointer (some ⟨b0 + 1 + 1 + 1, 0, none⟩), .pointer (some ⟨b0, 0, none⟩)], .int .i64 84] 89) _ (hS.alloc (.cells #[.func (.func 72) #[] #[.pointer (some ⟨b0 + 1 + 1 + 1, 0, none⟩), .pointer (some ⟨b0, 0, none⟩)], .int .i64 84] 89))
      go_wp2_with fail
      refine hp.mono ?_
      rintro e w2 ⟨r, rfl, U, hx7, h1, h2⟩
      by_cases h0 : 0 ≤ r
      · have z2 : decide (0 ≤ r) = true := decide_eq_true h0
        have HR : Unit → checkP l = ([], r, 84) := fun _ => h1 h0
        have hU := U
        have c7 := cell_of hx7 1
        have l7 := lt_of_heap hx7
        simp only [List.getElem?_toArray, List.getElem?_cons_zero, List.getElem?_cons_succ] at c7
        clear h1 h2 hp k0 k1 lr hrow p0 p1 p2 p3 p4 p5 hS hx7 h0
        go_wp2_with fail
        go_quiet (fail)
        go_wp2_with fail
        refine bodyPost_ret (v := .tuple #[.slice none 0 0, .int .i64 r, .int .i64 84]) (by simp [results, Try.results33, go_sem]) rfl ⟨.slice none 0 0, by rw [HR ()], ?_⟩
        rw [HR ()]
        exact ((SepK.start w).upd (hU.trans ((Upd.refl [] _).drewN _))).row0 53 2
      · have z2 : decide (0 ≤ r) = false := decide_eq_false h0
        have hN := (h2 (by omega)).plain
        clear h1 h2 hp k0 k1 lr hrow h0 hx7
        go_wp2_with fail
        go_roundg (gk - 1)
        case measure => omega
        case rel => exact ⟨5, by rfl, by omega, hN⟩
    | 5, hk, hS =>
      have k0 := cell_of hrow 10
      have k1 := cell_of hrow 11
      simp only [List.getElem?_toArray, List.getElem?_cons_zero, List.getElem?_cons_succ] at k0 k1
      have hp := p5 (wr.heap.size, .cells #[.func (.func 76) #[.pointer (some ⟨b0 + 1 + 1, 0, none⟩)] #[], .int .i64 83] 89) _ (hS.alloc (.cells #[.func (.func 76) #[.pointer (some ⟨b0 + 1 + 1, 0, none⟩)] #[], .int .i64 83] 89))
      go_wp2_with fail
      refine hp.mono ?_
      rintro e w2 ⟨r, rfl, U, hx7, h1, h2⟩
      by_cases h0 : 0 ≤ r
      · have z2 : decide (0 ≤ r) = true := decide_eq_true h0
        have HR : Unit → checkP l = ([], r, 83) := fun _ => h1 h0
        have hU := U
        have c7 := cell_of hx7 1
        have l7 := lt_of_heap hx7
        simp only [List.getElem?_toArray, List.getElem?_cons_zero, List.getElem?_cons_succ] at c7
        clear h1 h2 hp k0 k1 lr hrow p0 p1 p2 p3 p4 p5 hS hx7 h0
        go_wp2_with fail
        go_quiet (fail)
        go_wp2_with fail
        refine bodyPost_ret (v := .tuple #[.slice none 0 0, .int .i64 r, .int .i64 83]) (by simp [results, Try.results33, go_sem]) rfl ⟨.slice none 0 0, by rw [HR ()], ?_⟩
        rw [HR ()]
        exact ((SepK.start w).upd (hU.trans ((Upd.refl [] _).drewN _))).row0 53 2
      · have z2 : decide (0 ≤ r) = false := decide_eq_false h0
        have hN := (h2 (by omega)).plain
        clear h1 h2 hp k0 k1 lr hrow h0 hx7
        go_wp2_with fail
        go_roundg (gk - 1)
        case measure => omega
        case rel => exact ⟨6, by rfl, by omega, hN⟩
    | 6, hk, hS =>
      obtain ⟨bs, vS, ss, H, -, -, h3, hf⟩ := hS
      obtain rfl := h3 (by omega)
      have hF : Fine l := check_fine (by
        unfold checkP
        rw [if_neg (by omega), if_neg (by omega), if_neg (firstP_neg.2 fun a ha => by simp [hf.f1 (by omega) a ha]), if_neg (firstP_neg.2 (hf.f2 (by omega))), if_neg (by have := hf.f3 (by omega); omega), if_neg (firstP_neg.2 (hf.f4 (by omega))), if_neg (firstP_neg.2 fun a ha => by simp [hf.f5 (by omega) a ha]), if_neg (hf.f6 (by omega))])
      have HR : Unit → checkP l = (subsP l, 0, 0) := fun _ => hF.check
      obtain ⟨AS, cS, rfl, -⟩ := H.row
      have cb := cell_of (H.blk (b := b0 + 1 + 1 + 1) (o := .cells #[.pointer (some ⟨b0 + 1 + 1, 0, none⟩)] 82) (by simp)) 0
      have lb := lt_of_heap (H.blk (b := b0 + 1 + 1 + 1) (o := .cells #[.pointer (some ⟨b0 + 1 + 1, 0, none⟩)] 82) (by simp))
      have cp := cell_of (H.blk List.mem_cons_self) 2
      have lp := lt_of_heap (H.blk List.mem_cons_self)
      simp only [List.getElem?_toArray, List.getElem?_cons_zero, List.getElem?_cons_succ] at cb cp
      have HE := (H.drop [] (by simp)).imp fun _ g => star_imp g fun _ g => star_tail g
      clear H hf hF h3 p0 p1 p2 p3 p4 p5 lr hrow
      generalize hv : Value.slice AS ((subsP l).map encS).length cS = v9 at cp HE
      have hvl : Unit → ∃ B n k, v9 = .slice B n k := fun _ => ⟨_, _, _, hv.symm⟩
      go_wp2_with fail
      refine bodyPost_ret (v := .tuple #[v9, .int .i64 0, .int .i64 0]) (by simp [results, Try.results33, go_sem]) rfl ⟨v9, by rw [HR ()], ?_⟩
      rw [HR ()]
      exact HE
    | i + 7, hk, hS => omega
/-- Check: any program. -/
theorem check33 {w : World} {A : Option Addr} {l : List Ins} (c : Nat) (hr : RowsAt w A 5 (l.map encN)) (hok : ∀ x ∈ l, OkI x) :
    Calls Try.prog 33 #[.slice A l.length c] w fun e w' => ∃ v, e = .returned (.tuple #[v, .int .i64 (checkP l).2.1, .int .i64 (checkP l).2.2]) ∧ SepK w w' [] (star (rowR 53 2 v ((checkP l).1.map encS)) emp) := by
  by_cases h0 : l.length = 0
  · have e : checkP l = ([], 0, 2) := by unfold checkP; rw [if_pos h0]
    rw [e, h0]
    refine (check33_nil c A w).mono ?_
    rintro e w' ⟨rfl, u⟩
    exact ⟨_, rfl, ((SepK.start w).upd u).row0 53 2⟩
  · by_cases h1 : 1024 < l.length
    · have e : checkP l = ([], 1024, 4) := by unfold checkP; rw [if_neg h0, if_pos h1]
      rw [e]
      refine (check33_long l.length h1 c A w).mono ?_
      rintro e w' ⟨rfl, u⟩
      exact ⟨_, rfl, ((SepK.start w).upd u).row0 53 2⟩
    · exact check33_go c hr hok (by omega) (by omega)
end Go.Proofs.Ytibghcmkmbamjaa
