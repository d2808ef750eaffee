/- owns: the document's holds, Holds. -/
import Derived.Test.YtojjjkeciiieeaaOLaw0
namespace Go.Proofs.Ytojjjkeciiieeaa
open Go.RowKit
set_option linter.unusedVariables false
set_option linter.unusedSimpArgs false
set_option linter.unusedSectionVars false
theorem holdsB_none {fs : List Fld} {k : Int} (h : ∀ f ∈ fs, ¬ (okk f.kind = true ∧ f.of = k)) : holdsB fs k = false := by
  unfold holdsB
  rw [List.any_eq_false]
  intro f hf
  have := h f hf
  simp only [Bool.and_eq_true, beq_iff_eq]
  exact this
theorem holdsB_some {fs : List Fld} {k : Int} {f : Fld} (hf : f ∈ fs) (h1 : okk f.kind = true) (h2 : f.of = k) : holdsB fs k = true := by
  unfold holdsB
  rw [List.any_eq_true]
  exact ⟨f, hf, by simp [h1, h2]⟩
set_option maxRecDepth 100000 in
set_option maxHeartbeats 4000000 in
theorem holds27 {t : Tab} {v : Value} {w : World} (hT : TabAt w v t) (hF : Fits t) (i : Nat) {ty : Ty} (hty : t[i]? = some ty) (k : Int) :
    Calls Try.prog 27 #[v, .int .i64 (i : Int), .int .i64 k] w fun e w' => e = .returned (.bool (holdsB ty.fs k)) ∧ Upd [] w w' := by
  obtain ⟨A, c, rfl, hR⟩ := id hT
  have hil := (List.getElem?_eq_some_iff.1 hty).1
  obtain ⟨b, off, Af, cf, rfl, -, -, k2, hRF⟩ := hR i ty hty
  have hfl := hF.2 ty (List.mem_of_getElem? hty)
  have htl := hF.1
  have y1 : (0 : Int) ≤ (i : Int) := by omega
  have y2 : (i : Int) < (t.length : Int) := by omega
  clear hR hty hT
  go_enter Try.func27, Try.ntmps27
  go_wp2_with fail
  go_loopg [7] ty.fs.length (fun kq v7 w' => ∃ j : Nat, v7 = .int .i64 (j : Int) ∧ kq + j = ty.fs.length ∧ Upd [] w w' ∧ ∀ f ∈ ty.fs.take j, ¬ (okk f.kind = true ∧ f.of = k))
  case atStart => exact ⟨0, rfl, rfl, Upd.refl _ _, by simp⟩
  case round =>
    obtain ⟨j, rfl, hk, U, hn⟩ := hrel
    have HN : Unit → ∀ f ∈ ty.fs.take j, ¬ (okk f.kind = true ∧ f.of = k) := fun _ => hn
    have k2' := U.cell k2 (by simp)
    clear hn
    by_cases hj : j < ty.fs.length
    · have z1 : decide ((j : Int) < (ty.fs.length : Int)) = true := decide_eq_true (by omega)
      obtain ⟨f, hf⟩ : ∃ f, ty.fs[j]? = some f := ⟨_, List.getElem?_eq_getElem hj⟩
      obtain ⟨bf, of_, rfl, hc⟩ := (hRF.keep U) j (encF f) (by rw [List.getElem?_map, hf]; rfl)
      have k0 : wr.cell? ⟨bf, of_ + j * 5, none⟩ = some (.string f.name) := hc 0 _ rfl
      have k1 : wr.cell? ⟨bf, of_ + j * 5 + 1, none⟩ = some (.int .u8 f.kind) := hc 1 _ rfl
      have k2'' : wr.cell? ⟨bf, of_ + j * 5 + 2, none⟩ = some (.int .i64 f.pos) := hc 2 _ rfl
      have k3 : wr.cell? ⟨bf, of_ + j * 5 + 3, none⟩ = some (.int .i64 f.of) := hc 3 _ rfl
      have k4 : wr.cell? ⟨bf, of_ + j * 5 + 4, none⟩ = some (.int .i64 f.node) := hc 4 _ rfl
      have y3 : (0 : Int) ≤ (j : Int) := by omega
      have y4 : (j : Int) < (ty.fs.length : Int) := by omega
      have HN2 : Unit → ¬ (okk f.kind = true ∧ f.of = k) → ∀ f ∈ ty.fs.take (j + 1), ¬ (okk f.kind = true ∧ f.of = k) := fun _ h g hg => by
        rw [List.take_add_one, hf] at hg
        rcases List.mem_append.1 hg with h' | h'
        · exact HN () g h'
        · simp at h'; subst h'; exact h
      have HP : Unit → (okk f.kind = true ∧ f.of = k) → holdsB ty.fs k = true := fun _ h => holdsB_some (List.mem_of_getElem? hf) h.1 h.2
      have HK : Unit → (okk f.kind = ((f.kind == 1) || (f.kind == 2) || (f.kind == 4))) := fun _ => rfl
      clear hc hf HN
      by_cases e0 : f.of = k
      · have z2 : (f.of == k) = true := by simp [e0]
        have E0 : Unit → f.of = k := fun _ => e0
        clear e0
        by_cases e1 : f.kind = 1
        · have z3 : (f.kind == 1) = true := by simp [e1]
          have hh := HP () ⟨by rw [HK (), z3]; rfl, E0 ()⟩
          clear e1
          go_wp2_with fail
          go_ret
          exact ⟨by rw [hh]; rfl, U.alloc _⟩
        · have z3 : (f.kind == 1) = false := by simp [e1]
          clear e1
          by_cases e2 : f.kind = 2
          · have z4 : (f.kind == 2) = true := by simp [e2]
            have hh := HP () ⟨by rw [HK (), z3, z4]; rfl, E0 ()⟩
            clear e2
            go_wp2_with fail
            go_ret
            exact ⟨by rw [hh]; rfl, U.alloc _⟩
          · have z4 : (f.kind == 2) = false := by simp [e2]
            clear e2
            by_cases e3 : f.kind = 4
            · have z5 : (f.kind == 4) = true := by simp [e3]
              have hh := HP () ⟨by rw [HK (), z3, z4, z5]; rfl, E0 ()⟩
              clear e3
              go_wp2_with fail
              go_ret
              exact ⟨by rw [hh]; rfl, U.alloc _⟩
            · have z5 : (f.kind == 4) = false := by simp [e3]
              clear e3
              have hq := HN2 () (fun h => by rw [HK (), z3, z4, z5] at h; simp at h)
              have HQ : Unit → ∀ f ∈ ty.fs.take (j + 1), ¬ (okk f.kind = true ∧ f.of = k) := fun _ => hq
              clear hq
              go_wp2_with fail
              go_roundg (gk - 1)
              case measure => omega
              case rel => exact ⟨j + 1, by go_num, by omega, U.alloc _, HQ ()⟩
      · have z2 : (f.of == k) = false := by simp [e0]
        have HQ : Unit → ∀ f ∈ ty.fs.take (j + 1), ¬ (okk f.kind = true ∧ f.of = k) := fun _ => HN2 () (fun h => e0 h.2)
        clear e0
        go_wp2_with fail
        go_roundg (gk - 1)
        case measure => omega
        case rel => exact ⟨j + 1, by go_num, by omega, U.alloc _, HQ ()⟩
    · have z1 : decide ((j : Int) < (ty.fs.length : Int)) = false := decide_eq_false (by omega)
      have hh := HN ()
      rw [List.take_of_length_le (by omega)] at hh
      have hp := holdsB_none hh
      clear hh
      go_wp2_with fail
      go_ret
      exact ⟨by rw [hp]; rfl, U⟩
def upto (t : Tab) (i : Int) (n : Nat) : List Int := ((List.range n).map fun k : Nat => (k : Int)).filter (holdsB (fieldsOf t i))
theorem upto_all (t : Tab) (i : Int) : upto t i t.length = adj t i := rfl
theorem upto_snoc (t : Tab) (i : Int) (n : Nat) : upto t i (n + 1) = upto t i n ++ (if holdsB (fieldsOf t i) (n : Int) = true then [(n : Int)] else []) := by
  unfold upto
  rw [List.range_succ, List.map_append, List.filter_append]
  congr 1
  simp only [List.map_cons, List.map_nil]
  by_cases h : holdsB (fieldsOf t i) (n : Int) = true
  · rw [if_pos h]; simp [h]
  · rw [if_neg h]; simp [h]
theorem upto_len (t : Tab) (i : Int) (n : Nat) : (upto t i n).length ≤ n := by
  unfold upto
  refine Nat.le_trans (List.length_filter_le _ _) (by simp)
set_option maxRecDepth 100000 in
set_option maxHeartbeats 4000000 in
theorem rHolds14 {t : Tab} {v : Value} {w : World} (hT : TabAt w v t) (hF : Fits t) (i : Int) :
    Calls Try.prog 14 #[v, .int .i64 i] w fun e w' => ∃ s, e = .returned s ∧ NewI w w' s (adj t i) := by
  obtain ⟨A, c, rfl, -⟩ := id hT
  have htl := hF.1
  have H0 := (SepK.start w).row0 3 1
  by_cases hi : 0 ≤ i ∧ i < (t.length : Int)
  · obtain ⟨k, rfl⟩ : ∃ k : Nat, i = k := ⟨i.toNat, by omega⟩
    obtain ⟨ty, hty⟩ : ∃ ty, t[k]? = some ty := ⟨_, List.getElem?_eq_getElem (show k < t.length by omega)⟩
    have hfe : Unit → fieldsOf t (k : Int) = ty.fs := fun _ => fieldsOf_at hty
    have y1 : decide ((0 : Int) ≤ (k : Int)) = true := decide_eq_true (by omega)
    have y2 : decide ((k : Int) < (t.length : Int)) = true := decide_eq_true hi.2
    have hkl : k < t.length := by omega
    obtain ⟨i0, hi0, hz0, hz1, hz2⟩ := info_parts info3
    go_enter Try.func14, Try.ntmps14
    go_wp2_with fail
    go_loopg [5, 6] t.length (fun kq v5 v6 w' => ∃ n : Nat, v6 = .int .i64 (n : Int) ∧ kq + n = t.length ∧ SepK w w' [] (star (rowR 3 1 v5 ((upto t (k : Int) n).map encI)) emp))
    case atStart => exact ⟨0, rfl, rfl, H0⟩
    case round =>
      clear H0
      obtain ⟨n, rfl, hk, H⟩ := hrel
      have hul := upto_len t (k : Int) n
      by_cases hn : n < t.length
      · have z1 : decide ((n : Int) < (t.length : Int)) = true := decide_eq_true (by omega)
        go_wp2_with fail
        refine (holds27 (hT.keep H.u) hF k hty (n : Int)).mono ?_
        rintro e w2 ⟨rfl, u2⟩
        have H1 := H.upd u2
        have hs : Unit → upto t (k : Int) (n + 1) = upto t (k : Int) n ++ (if holdsB ty.fs (n : Int) = true then [(n : Int)] else []) := fun _ => by rw [upto_snoc, hfe ()]
        cases hb : holdsB ty.fs (n : Int) with
        | true =>
          have hs2 : Unit → upto t (k : Int) (n + 1) = upto t (k : Int) n ++ [(n : Int)] := fun _ => by rw [hs (), hb]; rfl
          clear hs hb
          have H2 := H1.alloc (.cells #[.int .i64 (n : Int)] 3)
          go_wp2_with (at_builtin; refine wl_append rfl _ _ 25 rfl 3 i0 _ 1 8 Try.underlying25 hi0 hz0 hz1 hz2 rfl (by decide) _ ((upto t (k : Int) n).map encI) rfl H2 ⟨w2.heap.size, 0, none⟩ 1 (encI (n : Int)) rfl rfl (cell_one_new w2 _ 3) (fun u hu => by simp [encI] at hu; subst hu; rfl) (by rw [List.length_map]; unfold maxLen; omega) (by rw [List.length_map]; omega) ?_; intro v3 w3 H3)
          go_roundg (gk - 1)
          case measure => omega
          case rel => exact ⟨n + 1, by go_num, by omega, by rw [hs2 (), List.map_append]; exact H3.drop [] (fun p hp => by cases hp)⟩
        | false =>
          have hs2 : Unit → upto t (k : Int) (n + 1) = upto t (k : Int) n := fun _ => by rw [hs (), hb]; simp
          clear hs hb
          go_wp2_with fail
          go_roundg (gk - 1)
          case measure => omega
          case rel => exact ⟨n + 1, by go_num, by omega, by rw [hs2 ()]; exact H1⟩
      · have z1 : decide ((n : Int) < (t.length : Int)) = false := decide_eq_false (by omega)
        obtain rfl : n = t.length := by omega
        rw [upto_all] at H
        go_wp2_with fail
        go_ret
        exact ⟨_, rfl, NewI.of H⟩
  · have ha := adj_out hi
    go_enter Try.func14, Try.ntmps14
    by_cases h0 : t.length = 0
    · have z1 : decide ((0 : Int) < (t.length : Int)) = false := decide_eq_false (by omega)
      go_wp2_with fail
      go_loopg [5, 6] 1 (fun kq v5 v6 w' => v5 = .slice none 0 0 ∧ v6 = .int .i64 0 ∧ w = w')
      case atStart => exact ⟨rfl, rfl, rfl⟩
      case round =>
        obtain ⟨rfl, rfl, rfl⟩ := hrel
        go_wp2_with fail
        go_ret
        exact ⟨_, rfl, by first | exact NewI.of H0 | (rw [ha]; exact NewI.of H0)⟩
    · have z1 : decide ((0 : Int) < (t.length : Int)) = true := decide_eq_true (by omega)
      go_wp2_with fail
      go_loopg [5, 6] 1 (fun kq v5 v6 w' => v5 = .slice none 0 0 ∧ v6 = .int .i64 0 ∧ w = w')
      case atStart => exact ⟨rfl, rfl, rfl⟩
      case round =>
        obtain ⟨rfl, rfl, rfl⟩ := hrel
        by_cases h1 : 0 ≤ i
        · have y1 : decide ((0 : Int) ≤ i) = true := decide_eq_true h1
          have y2 : decide (i < (t.length : Int)) = false := decide_eq_false (by omega)
          go_wp2_with fail
          go_ret
          exact ⟨_, rfl, by first | exact NewI.of H0 | (rw [ha]; exact NewI.of H0)⟩
        · have y1 : decide ((0 : Int) ≤ i) = false := decide_eq_false h1
          go_wp2_with fail
          go_ret
          exact ⟨_, rfl, by first | exact NewI.of H0 | (rw [ha]; exact NewI.of H0)⟩
end Go.Proofs.Ytojjjkeciiieeaa
