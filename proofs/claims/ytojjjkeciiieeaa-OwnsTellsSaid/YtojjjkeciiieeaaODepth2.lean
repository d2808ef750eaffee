/- owns: Depth. -/
import Derived.Test.YtojjjkeciiieeaaODepth1
namespace Go.Proofs.Ytojjjkeciiieeaa
open Go.RowKit
set_option linter.unusedVariables false
set_option linter.unusedSimpArgs false
set_option linter.unusedSectionVars false
theorem mxs_snoc (l : List Nat) (a : Nat) : mxs (l ++ [a]) = max (mxs l) (a + 1) := by
  induction l with
  | nil => simp [mxs]
  | cons b l ih => simp only [List.cons_append, mxs, ih]; omega
/-- How deep, of a table. -/
def dp (t : Tab) (i : Int) : Nat := dep (adj t) t.length i
theorem dp_next {t : Tab} {i : Int} (hi : 0 ≤ i ∧ i < (t.length : Int)) (hg : Fine (adj t) i) : dp t i = mxs ((adj t i).map (dp t)) := dep_next (adj_within t) hi hg
theorem dp_lt {t : Tab} {i k : Int} (hi : 0 ≤ i ∧ i < (t.length : Int)) (hg : Fine (adj t) i) (hk : k ∈ adj t i) : dp t k < dp t i := by
  rw [dp_next hi hg]
  have := mxs_le (List.mem_map.2 ⟨k, hk, rfl⟩ : dp t k ∈ (adj t i).map (dp t))
  omega
theorem dp_bd (t : Tab) (i : Int) : dp t i ≤ t.length := dep_le _ _
def Memo (t : Tab) (M : List (Int × Int)) : Prop := ∀ k v, aget M k = some v → v = (dp t k : Int)
theorem Memo.put {t : Tab} {M : List (Int × Int)} (h : Memo t M) (i : Int) : Memo t (aput M i (dp t i : Int)) := fun k v hv => by
  rw [aget_aput] at hv
  split at hv
  · rename_i e; subst e; cases hv; rfl
  · exact h k v hv
abbrev deepM (mb : Nat) (M : List (Int × Int)) : Res := mapR (Value.int .i64) (Value.int .i64) okI mb M
theorem zero3 (w : World) : (zeroValue 3).run Try.prog w = .ok (.int .i64 0) w := by kernel_rfl
theorem deep_look {w0 w : World} {K : List (Nat × Obj)} {T : Res} {mb : Nat} {M : List (Int × Int)} (H : SepK w0 w K (star (deepM mb M) T)) (x : Int) (hx : okI x) : (Instr.lookup 60 (.map (some mb)) (.int .i64 x) true).run Try.prog w = .ok (.tuple #[.int .i64 ((aget M x).getD 0), .bool (aget M x).isSome]) w := by
  rw [H.map.lookup ki Try.underlying60 (zero3 _) hx true]
  cases aget M x <;> rfl
def capD (mb : Nat) : Obj := .cells #[.map (some mb)] 60 (0, 0)
def capO (b8 b2 b9 : Nat) : Obj := .cells #[.func (.func 34) #[] #[.pointer (some ⟨b8, 0, none⟩), .pointer (some ⟨b2, 0, none⟩), .pointer (some ⟨b9, 0, none⟩)]] 61 (0, 0)
def OfDid (w0 : World) (K : List (Nat × Obj)) (T : Res) (t : Tab) (mb : Nat) (i : Int) (e : Ending) (w' : World) : Prop := e = .returned (.int .i64 (dp t i : Int)) ∧ ∃ M', SepK w0 w' K (star (deepM mb M') T) ∧ Memo t M'
section
variable {w0 : World} {K : List (Nat × Obj)} {t : Tab} {v : Value} {b8 b2 b9 mb : Nat}
set_option maxRecDepth 100000 in
set_option maxHeartbeats 4000000 in
theorem of34 (hT : TabAt w0 v t) (hF : Fits t) (h8 : (b8, capD mb) ∈ K) (h2 : (b2, capL v) ∈ K) (h9 : (b9, capO b8 b2 b9) ∈ K) (f : Nat) : ∀ (T : Res) [Good T] (i : Int) (M : List (Int × Int)) (w : World), 0 ≤ i ∧ i < (t.length : Int) → Fine (adj t) i → dp t i < f → Memo t M → SepK w0 w K (star (deepM mb M) T) →
    Calls Try.prog 34 #[.int .i64 i, .pointer (some ⟨b8, 0, none⟩), .pointer (some ⟨b2, 0, none⟩), .pointer (some ⟨b9, 0, none⟩)] w (OfDid w0 K T t mb i) := by
  have htl := hF.1
  induction f with
  | zero => intro T _ i M w _ _ h; omega
  | succ f ih =>
    intro T _ i M w hi hg hdf hM H
    have hio : okI i := WalkArith.wf_i64 (by omega)
    have r1 := deep_look H i hio
    have c8 := cell_of (H.blk h8) 0
    have l8 := lt_of_heap (H.blk h8)
    have c2 := cell_of (H.blk h2) 0
    have l2 := lt_of_heap (H.blk h2)
    simp only [List.getElem?_toArray, List.getElem?_cons_zero, List.getElem?_cons_succ] at c8 c2
    cases hq : aget M i with
    | some d =>
      have hd : d = (dp t i : Int) := hM i d hq
      rw [hq] at r1
      simp only [Option.getD_some, Option.isSome_some] at r1
      have HD : Unit → d = (dp t i : Int) := fun _ => hd
      clear hq hd
      go_enter Try.func34, Try.ntmps34
      go_wp2_with fail
      go_ret
      exact (Iff.of_eq (OfDid.eq_1 ..)).2 ⟨by rw [← HD ()]; rfl, M, H, hM⟩
    | none =>
      rw [hq] at r1
      simp only [Option.getD_none, Option.isSome_none] at r1
      clear hq
      go_enter Try.func34, Try.ntmps34
      go_wp2_with fail
      refine (holds13 (hT.keep H.u) hF i).mono ?_
      rintro e w1 ⟨s, rfl, hrow, u1⟩
      have H1 := H.more u1 hrow (fun b hb => hb)
      clear r1 c8 l8 c2 l2 H hrow u1
      obtain ⟨A, c, rfl, -⟩ := H1.row
      rw [List.length_map] at H1 ⊢
      have hal : (adj t i).length ≤ t.length := (adj_rising t i).bound (fun x hx => (mem_adj.1 hx).1)
      go_wp2_with fail
      go_loopg [8, 23] (adj t i).length (fun kq v8 v23 w' => ∃ (j : Nat) (Mc : List (Int × Int)), v23 = .int .i64 (j : Int) ∧ v8 = .int .i64 (mxs (((adj t i).take j).map (dp t)) : Int) ∧ kq + j = (adj t i).length ∧ SepK w0 w' K (star (rowR 3 1 (.slice A (adj t i).length c) ((adj t i).map encI)) (star (deepM mb Mc) T)) ∧ Memo t Mc)
      case atStart => exact ⟨0, M, rfl, rfl, rfl, H1, hM⟩
      case round =>
        clear H1 hM
        obtain ⟨j, Mc, rfl, rfl, hk, H, hMc⟩ := hrel
        by_cases hj : j < (adj t i).length
        · have z1 : decide ((j : Int) < ((adj t i).length : Int)) = true := decide_eq_true (by omega)
          obtain ⟨k, hkk⟩ : ∃ k, (adj t i)[j]? = some k := ⟨_, List.getElem?_eq_getElem hj⟩
          obtain ⟨A', c', eA, hr⟩ := H.row
          rw [List.length_map] at eA
          cases eA
          obtain ⟨b, off, rfl, k0⟩ := one_cell hr hkk
          have c9 := cell_of (H.blk h9) 0
          have l9 := lt_of_heap (H.blk h9)
          simp only [List.getElem?_toArray, List.getElem?_cons_zero, List.getElem?_cons_succ] at c9
          have y3 : (0 : Int) ≤ (j : Int) := by omega
          have y4 : (j : Int) < ((adj t i).length : Int) := by omega
          have hkm := List.mem_of_getElem? hkk
          have hkb := (mem_adj.1 hkm).1
          have hkl := dp_lt hi hg hkm
          have hkg := hg.next hkm
          have hmx : mxs (((adj t i).take (j + 1)).map (dp t)) = max (mxs (((adj t i).take j).map (dp t))) (dp t k + 1) := by
            rw [List.take_add_one, hkk, List.map_append]
            exact mxs_snoc _ _
          have hb1 := dp_bd t k
          have hb2 : mxs (((adj t i).take j).map (dp t)) ≤ t.length + 1 := mxs_bound fun a ha => by
            obtain ⟨x, _, rfl⟩ := List.mem_map.1 ha
            have := dp_bd t x
            omega
          have hih := ih (star (rowR 3 1 (.slice (some ⟨b, off, none⟩) (adj t i).length c) ((adj t i).map encI)) T) k Mc wr hkb hkg (by omega) hMc H.swap
          clear hr hkk hkm hkg hkl H hMc
          go_wp2_with fail
          refine hih.mono ?_
          rintro e w2 hd
          obtain ⟨rfl, M2, H3, hM2⟩ := (Iff.of_eq (OfDid.eq_1 ..)).1 hd
          clear hd hih c9 l9 k0
          have HX : Unit → mxs (((adj t i).take (j + 1)).map (dp t)) = max (mxs (((adj t i).take j).map (dp t))) (dp t k + 1) := fun _ => hmx
          clear hmx
          generalize mxs (((adj t i).take j).map (dp t)) = n0 at HX hb2 ⊢
          generalize dp t k = n1 at HX hb1 ⊢
          go_wp2_with fail
          go_roundg (gk - 1)
          case measure => omega
          case rel => exact ⟨j + 1, M2, by go_num, by rw [HX ()]; congr 1; omega, by omega, H3.swap, hM2⟩
        · have z1 : decide ((j : Int) < ((adj t i).length : Int)) = false := decide_eq_false (by omega)
          have HX : Unit → mxs (((adj t i).take j).map (dp t)) = dp t i := fun _ => by rw [List.take_of_length_le (by omega), ← dp_next hi hg]
          have c8 := cell_of (H.blk h8) 0
          have l8 := lt_of_heap (H.blk h8)
          simp only [List.getElem?_toArray, List.getElem?_cons_zero, List.getElem?_cons_succ] at c8
          have hM2 := hMc.put i
          clear hMc
          generalize mxs (((adj t i).take j).map (dp t)) = nn at HX ⊢
          go_wp2_with (at_mapUpdate; refine wl_put rfl (.tmp 34) (.tmp 35) _ rfl ki Try.underlying60 rfl H.swap i (nn : Int) rfl rfl hio ?_; intro w8 H2)
          rw [HX ()] at H2
          go_ret
          exact (Iff.of_eq (OfDid.eq_1 ..)).2 ⟨by rw [← HX ()]; rfl, _, H2.swap.tl, hM2⟩
end
end Go.Proofs.Ytojjjkeciiieeaa
