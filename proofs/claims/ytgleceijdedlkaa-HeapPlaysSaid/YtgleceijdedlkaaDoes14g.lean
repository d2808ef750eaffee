/- HeapPlays: a step that is no Make. -/
import Derived.Test.YtgleceijdedlkaaPlays14a
namespace Go.Proofs.Ytgleceijdedlkaa
set_option linter.unusedSectionVars false
set_option linter.unusedVariables false
set_option linter.unusedSimpArgs false
open Go.RowKit
/-- The document's answer's things. -/
abbrev refR (vO vS vL vA : Value) (ob : List Ob) (us : List (Int × List UInt8)) (l la : List (Int × Int)) (T : Res) : Res := star (rowR 106 4 vO (ob.map encO)) (star (rowR 101 2 vS (us.map encT)) (star (rowR 30 2 vL (l.map encH)) (star (rowR 30 2 vA (la.map encH)) T)))
/-- Its blocks. -/
abbrev refK (g s t : Nat) (room : Int) (vO vS vL vA : Value) (K : List (Nat × Obj)) : List (Nat × Obj) := (g, gblk s t vO) :: (s, tblk room vS) :: (t, rblk vL vA) :: K
section
variable {w0 w : World} {K : List (Nat × Obj)} {x g s t : Nat} {room : Int} {st : HS} {us : List (Int × List UInt8)} {l la : List (Int × Int)} {T R A B C D : Res} {n : Nat} {vO vS vL vA : Value}
theorem SepK.rot4 (h : SepK w0 w K (star R (star A (star B (star C (star D T)))))) : SepK w0 w K (star A (star B (star C (star D (star R T))))) :=
  h.imp fun _ g => star_imp (star_swap g) fun _ g => star_imp (star_swap g) fun _ g => star_imp (star_swap g) fun _ g => star_swap g
theorem SepK.unrot4 (h : SepK w0 w K (star A (star B (star C (star D (star R T)))))) : SepK w0 w K (star R (star A (star B (star C (star D T))))) :=
  h.imp fun _ g => star_swap (star_imp g fun _ g => star_swap (star_imp g fun _ g => star_swap (star_imp g fun _ g => star_swap g)))
theorem mem_perm {B K K' : List (Nat × Obj)} (h : ∀ p ∈ K', p ∈ K) : ∀ p ∈ B ++ K', p ∈ B ++ K := fun p hp => by
  rcases List.mem_append.1 hp with h1 | h1
  · exact List.mem_append_left _ h1
  · exact List.mem_append_right _ (h p h1)
def Does14 (w0 : World) (K : List (Nat × Obj)) (x g s t : Nat) (room : Int) (T : Res) (n : Nat) (w' : World) : Prop :=
  ∃ (vO vS vL vA : Value) (st : HS) (us : List (Int × List UInt8)) (l : List (Int × Int)), SepK w0 w' (refK g s t room vO vS vL vA K) (star (heldR x room st) (refR vO vS vL vA st.ob us l st.L T)) ∧ Hp (n + 1) room st us l
variable [Good T]
theorem gblk_in {B : List (Nat × Obj)} : (g, gblk s t vO) ∈ B ++ refK g s t room vO vS vL vA K := List.mem_append_right _ List.mem_cons_self
theorem tblk_in {B : List (Nat × Obj)} : (s, tblk room vS) ∈ B ++ refK g s t room vO vS vL vA K := List.mem_append_right _ (List.mem_cons_of_mem _ List.mem_cons_self)
theorem does14_hold (H : SepK w0 w (refK g s t room vO vS vL vA K) (star (heldR x room st) (refR vO vS vL vA st.ob us l st.L T))) (hP : Hp n room st us l) (hn : n ≤ 1000) (q : Int × Int) (hq : okH q) (p : St14) (d1 : p.d = 1) :
    Calls Try.prog 39 #[.pointer (some ⟨x, 0, none⟩), .pointer (some ⟨g, 0, none⟩), .agg (encS p).toArray, .agg #[.int .i64 q.1, .int .u64 q.2]] w fun e w' => e = .returned (.bool true) ∧ Does14 w0 K x g s t room T n w' := by
  have hol := hP.ol
  rcases hP.pos q with ⟨ho, hat⟩ | ⟨i, c, k, ho, hat, hi⟩
  · refine (pair_hold (α := Unit) (K2 := fun _ => refK g s t room vO vS vL vA K) (U2 := fun _ => refR vO vS vL vA st.ob us l st.L T) (st' := st) H q p d1 0 130 (fun K' w' h => sHold_no h q.1 q.2 hq ho) (fun B w' hB h => (gHold_no h.rot4 gblk_in q hat (by omega)).mono fun e w2 ⟨e1, h2⟩ => ⟨(), e1, h2.unrot4⟩)).mono ?_
    rintro e w' ⟨-, rfl, h2⟩
    exact ⟨rfl, vO, vS, vL, vA, st, us, l, h2, hP.more⟩
  · have hb := hP.bd _ (List.mem_of_getElem? hi)
    simp only at hb
    obtain ⟨e1, hP'⟩ := hP.set hi (c + 1) (by omega) (by omega)
    refine (pair_hold (α := Unit) (K2 := fun _ => refK g s t room vO vS vL vA K) (U2 := fun _ => refR vO vS vL vA (st.ob.set i (q, (c + 1, k))) us l st.L T) (st' := { st with ob := aput st.ob q (c + 1, k) }) H q p d1 (c + 1) 0 (fun K' w' h => sHold_ok h q.1 q.2 c k ⟨by omega, by omega⟩ ho) (fun B w' hB h => (gHold_ok h.rot4 gblk_in q i c k hi hat ⟨by omega, by omega⟩ (by omega)).mono fun e w2 ⟨e1, h2⟩ => ⟨(), e1, h2.unrot4⟩)).mono ?_
    rintro e w' ⟨-, rfl, h2⟩
    rw [← e1] at h2
    exact ⟨rfl, vO, vS, vL, vA, _, us, l, h2, hP'⟩
theorem does14_drop (H : SepK w0 w (refK g s t room vO vS vL vA K) (star (heldR x room st) (refR vO vS vL vA st.ob us l st.L T))) (hP : Hp n room st us l) (hn : n ≤ 1000) (q : Int × Int) (hq : okH q) (p : St14) (d1 : p.d = 2) :
    Calls Try.prog 39 #[.pointer (some ⟨x, 0, none⟩), .pointer (some ⟨g, 0, none⟩), .agg (encS p).toArray, .agg #[.int .i64 q.1, .int .u64 q.2]] w fun e w' => e = .returned (.bool true) ∧ Does14 w0 K x g s t room T n w' := by
  have hol := hP.ol
  rcases hP.pos q with ⟨ho, hat⟩ | ⟨i, c, k, ho, hat, hi⟩
  · refine (pair_drop (α := Unit) (K2 := fun _ => refK g s t room vO vS vL vA K) (U2 := fun _ => refR vO vS vL vA st.ob us l st.L T) (st' := st) H q p d1 0 130 (fun K' w' h => sDrop_no h q.1 q.2 hq ho) (fun B w' hB h => (gDrop_no h.rot4 gblk_in q hat (by omega)).mono fun e w2 ⟨e1, h2⟩ => ⟨(), e1, h2.unrot4⟩)).mono ?_
    rintro e w' ⟨-, rfl, h2⟩
    exact ⟨rfl, vO, vS, vL, vA, st, us, l, h2, hP.more⟩
  · have hb := hP.bd _ (List.mem_of_getElem? hi)
    simp only at hb
    by_cases c0 : c = 0
    · subst c0
      refine (pair_drop (α := Unit) (K2 := fun _ => refK g s t room vO vS vL vA K) (U2 := fun _ => refR vO vS vL vA st.ob us l st.L T) (st' := st) H q p d1 0 3 (fun K' w' h => sDrop_zero h q.1 q.2 k ho) (fun B w' hB h => (gDrop_zero h.rot4 gblk_in q i k hi hat (by omega)).mono fun e w2 ⟨e1, h2⟩ => ⟨(), e1, h2.unrot4⟩)).mono ?_
      rintro e w' ⟨-, rfl, h2⟩
      exact ⟨rfl, vO, vS, vL, vA, st, us, l, h2, hP.more⟩
    · obtain ⟨e1, hP'⟩ := hP.set hi (c - 1) (by omega) (by omega)
      refine (pair_drop (α := Unit) (K2 := fun _ => refK g s t room vO vS vL vA K) (U2 := fun _ => refR vO vS vL vA (st.ob.set i (q, (c - 1, k))) us l st.L T) (st' := { st with ob := aput st.ob q (c - 1, k) }) H q p d1 (c - 1) 0 (fun K' w' h => sDrop_ok h q.1 q.2 c k ⟨by omega, by omega⟩ c0 ho) (fun B w' hB h => (gDrop_ok h.rot4 gblk_in q i c k hi hat ⟨by omega, by omega⟩ c0 (by omega)).mono fun e w2 ⟨e1, h2⟩ => ⟨(), e1, h2.unrot4⟩)).mono ?_
      rintro e w' ⟨-, rfl, h2⟩
      rw [← e1] at h2
      exact ⟨rfl, vO, vS, vL, vA, _, us, l, h2, hP'⟩
theorem does14_free (H : SepK w0 w (refK g s t room vO vS vL vA K) (star (heldR x room st) (refR vO vS vL vA st.ob us l st.L T))) (hd : g ≠ s ∧ g ≠ t ∧ s ≠ t) (hKd : ∀ p ∈ K, p.1 ≠ g ∧ p.1 ≠ s ∧ p.1 ≠ t) (hP : Hp n room st us l) (hn : n ≤ 1000) (hroom : room ≤ 65536) (q : Int × Int) (hq : okH q) (p : St14) (d1 : p.d = 3) :
    Calls Try.prog 39 #[.pointer (some ⟨x, 0, none⟩), .pointer (some ⟨g, 0, none⟩), .agg (encS p).toArray, .agg #[.int .i64 q.1, .int .u64 q.2]] w fun e w' => e = .returned (.bool true) ∧ Does14 w0 K x g s t room T n w' := by
  have hol := hP.ol
  have hul := hP.ps.len
  have hll := hP.pl.len
  rcases hP.pos q with ⟨ho, hat⟩ | ⟨i, c, k, ho, hat, hi⟩
  · refine (pair_free (α := Unit) (K2 := fun _ => refK g s t room vO vS vL vA K) (U2 := fun _ => refR vO vS vL vA st.ob us l st.L T) (st' := st) H q p d1 130 (fun K' w' h => sFree_no h q.1 q.2 hq ho) (fun B w' hB h => (gFree_no h.rot4 gblk_in q hat (by omega)).mono fun e w2 ⟨e1, h2⟩ => ⟨(), e1, h2.unrot4⟩)).mono ?_
    rintro e w' ⟨-, rfl, h2⟩
    exact ⟨rfl, vO, vS, vL, vA, st, us, l, h2, hP.more⟩
  · have hb := hP.bd _ (List.mem_of_getElem? hi)
    simp only at hb
    by_cases c0 : c = 0
    · subst c0
      obtain ⟨j, m, bs, hj, hjt, hm, hmt, hbs⟩ := hP.here H.inv1 H.inv2 ho
      obtain ⟨e1, hP'⟩ := hP.free hi hj hm
      have hbl := hP.ps.bd (List.mem_of_getElem? hm)
      simp only at hbl
      have hml := (List.getElem?_eq_some_iff.1 hm).1
      have hlo := hP.ps.lo
      have hle := hP.ps.le
      refine (pair_free (α := Value × Value × Value) (K2 := fun y => refK g s t room y.1 y.2.1 y.2.2 vA K) (U2 := fun y => refR y.1 y.2.1 y.2.2 vA (st.ob.take i ++ st.ob.drop (i + 1)) (us.take m ++ us.drop (m + 1)) (l.take j ++ l.drop (j + 1)) st.L T) (st' := { used := st.used - cls bs.length, sl := adel st.sl q.1, L := st.L, V := adel st.V q.1, ob := adel st.ob q }) H q p d1 0 (fun K' w' h => sFree_ok h q.1 q.2 0 k (by omega) bs hbs (by omega) hlo (by omega) ho) (fun B w' hB h => ?_)).mono ?_
      · have h' := h.rot4.drop (refK g s t room vO vS vL vA (B ++ K)) (by intro p hp; simp at hp ⊢; rcases hp with h | h | h | h | h <;> simp [h])
        refine (gFree_ok h' hd (by
          intro p hp
          rcases List.mem_append.1 hp with hp | hp
          · exact ⟨hB p hp (g, gblk s t vO) (by simp), hB p hp (s, tblk room vS) (by simp), hB p hp (t, rblk vL vA) (by simp)⟩
          · exact hKd p hp) q i j m k bs hi hat hj hjt hml hmt hP.pl.nd (by omega) (by omega) (by omega)).mono fun e w2 ⟨vO', vS', vL', e1, h2⟩ => ⟨(vO', vS', vL'), e1, (h2.unrot4).drop _ (by intro p hp; simp at hp ⊢; rcases hp with h | h | h | h | h <;> simp [h])⟩
      · rintro e w' ⟨⟨vO', vS', vL'⟩, rfl, h2⟩
        simp only at h2
        rw [← e1] at h2
        exact ⟨rfl, vO', vS', vL', vA, _, _, _, h2, hP'⟩
    · refine (pair_free (α := Unit) (K2 := fun _ => refK g s t room vO vS vL vA K) (U2 := fun _ => refR vO vS vL vA st.ob us l st.L T) (st' := st) H q p d1 3 (fun K' w' h => sFree_held h q.1 q.2 c k (by omega) ho) (fun B w' hB h => (gFree_held h.rot4 gblk_in q i c k hi hat c0 (by omega)).mono fun e w2 ⟨e1, h2⟩ => ⟨(), e1, h2.unrot4⟩)).mono ?_
      rintro e w' ⟨-, rfl, h2⟩
      exact ⟨rfl, vO, vS, vL, vA, st, us, l, h2, hP.more⟩
theorem does14_read (H : SepK w0 w (refK g s t room vO vS vL vA K) (star (heldR x room st) (refR vO vS vL vA st.ob us l st.L T))) (hP : Hp n room st us l) (hn : n ≤ 1000) (q : Int × Int) (hq : okH q) (p : St14) (hp : okS p) (d1 : p.d = 4) :
    Calls Try.prog 39 #[.pointer (some ⟨x, 0, none⟩), .pointer (some ⟨g, 0, none⟩), .agg (encS p).toArray, .agg #[.int .i64 q.1, .int .u64 q.2]] w fun e w' => e = .returned (.bool true) ∧ Does14 w0 K x g s t room T n w' := by
  have hol := hP.ol
  have hul := hP.ps.len
  obtain ⟨-, -, -, hpos, hm', ht, -⟩ := hp
  rcases hP.pos q with ⟨ho, hat⟩ | ⟨i, c, k, ho, hat, hi⟩
  · refine (pair_read (α := Unit) (K2 := fun _ => refK g s t room vO vS vL vA K) (U2 := fun _ => refR vO vS vL vA st.ob us l st.L T) (st' := st) H q p d1 _ 130 (fun K' w' h => sRead_no h q.1 q.2 p.pos p.n hq ho) (fun B w' hB h => (gRead_no h.rot4 gblk_in q p.pos p.n hat (by omega)).mono fun e w2 ⟨e1, h2⟩ => ⟨(), e1, h2.unrot4⟩)).mono ?_
    rintro e w' ⟨-, rfl, h2⟩
    exact ⟨rfl, vO, vS, vL, vA, st, us, l, h2, hP.more⟩
  · obtain ⟨j, m, bs, hj, hjt, hm, hmt, hbs⟩ := hP.here H.inv1 H.inv2 ho
    have hbl := hP.ps.bd (List.mem_of_getElem? hm)
    simp only at hbl
    have hba : ∀ y ∈ st.sl, y.2.length ≤ 1000 := fun y hy => by have := hP.ps.bd (hP.ps.perm.mem_iff.1 hy); omega
    have fin : ∀ (e : Ending) (w' : World), (∃ y : Unit, e = .returned (.bool true) ∧ SepK w0 w' (refK g s t room vO vS vL vA K) (star (heldR x room st) (refR vO vS vL vA st.ob us l st.L T))) → e = .returned (.bool true) ∧ Does14 w0 K x g s t room T n w' := fun e w' ⟨_, h1, h2⟩ => ⟨h1, vO, vS, vL, vA, st, us, l, h2, hP.more⟩
    by_cases hf : fits bs.length p.pos p.n
    · obtain ⟨u, v, e1, e2, huv⟩ : ∃ u v : Nat, p.pos = u ∧ p.n = v ∧ u + v ≤ bs.length := by
        unfold fits at hf
        exact ⟨p.pos.toNat, p.n.toNat, by omega, by omega, by omega⟩
      refine (pair_read (α := Unit) (K2 := fun _ => refK g s t room vO vS vL vA K) (U2 := fun _ => refR vO vS vL vA st.ob us l st.L T) (st' := st) H q p d1 (bstr ((bs.drop u).take v)) 0 (fun K' w' h => by rw [e1, e2]; exact sRead_ok h q.1 q.2 c k u v bs hbs (by omega) huv ho) (fun B w' hB h => by
        rw [e1, e2]
        exact (gRead_of h.rot4 gblk_in q u v i hat (by omega) _ _ (fun K' w' hK' h' => uRead_ok h' (hK' _ tblk_in) q.1 u v m _ hm hmt (by simp only; omega) (by simp only; omega) (by omega))).mono fun e w2 ⟨e1, h2⟩ => ⟨(), e1, h2.unrot4⟩)).mono (fin · ·)
    · refine (pair_read (α := Unit) (K2 := fun _ => refK g s t room vO vS vL vA K) (U2 := fun _ => refR vO vS vL vA st.ob us l st.L T) (st' := st) H q p d1 _ 120 (fun K' w' h => sRead_bad h q.1 q.2 c k p.pos p.n bs hbs hba hpos hm' hf ho) (fun B w' hB h =>
        (gRead_of h.rot4 gblk_in q p.pos p.n i hat (by omega) _ _ (fun K' w' hK' h' => uRead_bad h' (hK' _ tblk_in) q.1 p.pos p.n m _ hm hmt (by simp only; omega) hf (by omega))).mono fun e w2 ⟨e1, h2⟩ => ⟨(), e1, h2.unrot4⟩)).mono (fin · ·)
theorem does14_write (H : SepK w0 w (refK g s t room vO vS vL vA K) (star (heldR x room st) (refR vO vS vL vA st.ob us l st.L T))) (hP : Hp n room st us l) (hn : n ≤ 1000) (q : Int × Int) (hq : okH q) (p : St14) (hp : okS p) (d1 : p.d = 5) :
    Calls Try.prog 39 #[.pointer (some ⟨x, 0, none⟩), .pointer (some ⟨g, 0, none⟩), .agg (encS p).toArray, .agg #[.int .i64 q.1, .int .u64 q.2]] w fun e w' => e = .returned (.bool true) ∧ Does14 w0 K x g s t room T n w' := by
  have hol := hP.ol
  have hul := hP.ps.len
  obtain ⟨-, -, -, hpos, hm', ht, -⟩ := hp
  have ht' : okI (p.s.size : Int) := WalkArith.wf_i64 (by unfold reach at ht; omega)
  rcases hP.pos q with ⟨ho, hat⟩ | ⟨i, c, k, ho, hat, hi⟩
  · refine (pair_write (α := Unit) (K2 := fun _ => refK g s t room vO vS vL vA K) (U2 := fun _ => refR vO vS vL vA st.ob us l st.L T) (st' := st) H q p d1 130 (fun K' w' h => sWrite_no h q.1 q.2 p.pos p.s hq ho) (fun B w' hB h => (gWrite_no h.rot4 gblk_in q p.pos p.s hat (by omega)).mono fun e w2 ⟨e1, h2⟩ => ⟨(), e1, h2.unrot4⟩)).mono ?_
    rintro e w' ⟨-, rfl, h2⟩
    exact ⟨rfl, vO, vS, vL, vA, st, us, l, h2, hP.more⟩
  · obtain ⟨j, m, bs, hj, hjt, hm, hmt, hbs⟩ := hP.here H.inv1 H.inv2 ho
    have hbl := hP.ps.bd (List.mem_of_getElem? hm)
    simp only at hbl
    have hba : ∀ y ∈ st.sl, y.2.length ≤ 1000 := fun y hy => by have := hP.ps.bd (hP.ps.perm.mem_iff.1 hy); omega
    by_cases hf : fits bs.length p.pos p.s.size
    · obtain ⟨u, e1, huv⟩ : ∃ u : Nat, p.pos = u ∧ u + p.s.size ≤ bs.length := by
        unfold fits at hf
        exact ⟨p.pos.toNat, by omega, by omega⟩
      have hP' := hP.write hm (over bs u p.s.data.toList) (by
        have : p.s.data.toList.length = p.s.size := rfl
        simp [over]; omega)
      refine (pair_write (α := Unit) (K2 := fun _ => refK g s t room vO vS vL vA K) (U2 := fun _ => refR vO vS vL vA st.ob (us.set m (q.1, over bs u p.s.data.toList)) l st.L T) (st' := { st with sl := aput st.sl q.1 (over bs u p.s.data.toList) }) H q p d1 0 (fun K' w' h => by rw [e1]; exact sWrite_ok h q.1 q.2 c k u p.s bs hbs (by omega) huv ho) (fun B w' hB h => by
        rw [e1]
        exact (gWrite_of (us' := us.set m (q.1, over bs u p.s.data.toList)) h.rot4 gblk_in q u p.s i hat (by omega) _ (fun K' w' hK' h' => uWrite_ok h' (hK' _ tblk_in) q.1 u p.s m _ hm hmt (by simp only; omega) (by simp only; omega) (by omega))).mono fun e w2 ⟨e1, h2⟩ => ⟨(), e1, h2.unrot4⟩)).mono ?_
      rintro e w' ⟨-, rfl, h2⟩
      exact ⟨rfl, vO, vS, vL, vA, _, _, l, h2, hP'⟩
    · refine (pair_write (α := Unit) (K2 := fun _ => refK g s t room vO vS vL vA K) (U2 := fun _ => refR vO vS vL vA st.ob us l st.L T) (st' := st) H q p d1 120 (fun K' w' h => sWrite_bad h q.1 q.2 c k p.pos p.s bs hbs hba hpos ht' hf ho) (fun B w' hB h =>
        (gWrite_of (us' := us) h.rot4 gblk_in q p.pos p.s i hat (by omega) _ (fun K' w' hK' h' => uWrite_bad h' (hK' _ tblk_in) q.1 p.pos p.s m _ hm hmt (by simp only; omega) hf (by omega))).mono fun e w2 ⟨e1, h2⟩ => ⟨(), e1, h2.unrot4⟩)).mono ?_
      rintro e w' ⟨-, rfl, h2⟩
      exact ⟨rfl, vO, vS, vL, vA, st, us, l, h2, hP.more⟩
set_option maxRecDepth 100000 in
set_option maxHeartbeats 4000000 in
theorem does14_else (H : SepK w0 w (refK g s t room vO vS vL vA K) (star (heldR x room st) (refR vO vS vL vA st.ob us l st.L T))) (hP : Hp n room st us l) (q : Int × Int) (p : St14) (d1 : p.d ≠ 1) (d2 : p.d ≠ 2) (d3 : p.d ≠ 3) (d4 : p.d ≠ 4) (d5 : p.d ≠ 5) :
    Calls Try.prog 39 #[.pointer (some ⟨x, 0, none⟩), .pointer (some ⟨g, 0, none⟩), .agg (encS p).toArray, .agg #[.int .i64 q.1, .int .u64 q.2]] w fun e w' => e = .returned (.bool true) ∧ Does14 w0 K x g s t room T n w' := by
  obtain ⟨d, who, kind, pos, m, t, h⟩ := p
  simp only at d1 d2 d3 d4 d5
  have z1 : (d == 1) = false := beq_eq_false_iff_ne.2 d1
  have z2 : (d == 2) = false := beq_eq_false_iff_ne.2 d2
  have z3 : (d == 3) = false := beq_eq_false_iff_ne.2 d3
  have z4 : (d == 4) = false := beq_eq_false_iff_ne.2 d4
  have z5 : (d == 5) = false := beq_eq_false_iff_ne.2 d5
  unfold encS
  simp only
  go_enter Try.func39, Try.ntmps39
  go_wp2_with fail
  go_ret
  exact ⟨rfl, vO, vS, vL, vA, st, us, l, ((H.alloc _).alloc _).drop _ (fun p hp => by simp [hp]), hP.more⟩
theorem does14 (H : SepK w0 w (refK g s t room vO vS vL vA K) (star (heldR x room st) (refR vO vS vL vA st.ob us l st.L T))) (hd : g ≠ s ∧ g ≠ t ∧ s ≠ t) (hKd : ∀ p ∈ K, p.1 ≠ g ∧ p.1 ≠ s ∧ p.1 ≠ t) (hP : Hp n room st us l) (hn : n ≤ 1000) (hroom : room ≤ 65536) (q : Int × Int) (hq : okH q) (p : St14) (hp : okS p) :
    Calls Try.prog 39 #[.pointer (some ⟨x, 0, none⟩), .pointer (some ⟨g, 0, none⟩), .agg (encS p).toArray, .agg #[.int .i64 q.1, .int .u64 q.2]] w fun e w' => e = .returned (.bool true) ∧ Does14 w0 K x g s t room T n w' := by
  by_cases d1 : p.d = 1
  · exact does14_hold H hP hn q hq p d1
  by_cases d2 : p.d = 2
  · exact does14_drop H hP hn q hq p d2
  by_cases d3 : p.d = 3
  · exact does14_free H hd hKd hP hn hroom q hq p d3
  by_cases d4 : p.d = 4
  · exact does14_read H hP hn q hq p hp d4
  by_cases d5 : p.d = 5
  · exact does14_write H hP hn q hq p hp d5
  exact does14_else H hP q p d1 d2 d3 d4 d5
end
end Go.Proofs.Ytgleceijdedlkaa
