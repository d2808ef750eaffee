/- The heap's Live: its handles, by rising slots. -/
import Derived.Test.YtgleceijdedlkaaAll
import Derived.Test.YtgleceijdedlkaaHeldRes
namespace Go.Proofs.Ytgleceijdedlkaa
open Go.RowKit Go.Maps Go.Sort Go.Shelf Go.WideElems
set_option linter.unusedVariables false
set_option linter.unusedSimpArgs false
set_option linter.unusedSectionVars false
section
variable {w0 w : World} {K : List (Nat × Obj)} {T : Res} [Good T] {t : Nat} {L : Lasts} {V : Lives}
set_option maxRecDepth 100000 in
set_option maxHeartbeats 4000000 in
theorem tAllR {R : Res} [Good R] (hR : ∀ (w : World) (N : Nat → Prop), R w N → ∃ bl bv, TableAt w t bl bv L V) (H : SepK w0 w K (star R T)) (hV : V.length ≤ 100000) :
    Calls Try.prog 46 #[.pointer (some ⟨t, 0, none⟩)] w fun e w' => ∃ v, e = .returned v ∧ SepK w0 w' K (star (rowR 30 2 v ((liveOf V).map encH)) (star R T)) := by
  obtain ⟨N, hN⟩ := H.get
  obtain ⟨bl, bv, hT⟩ := hR _ _ hN
  have hkeys : ∀ x ∈ V.map (·.1), okI x := by
    obtain ⟨es, cl, g1, g2, g3, g4⟩ := hT.live
    exact fun x hx => by obtain ⟨p, hp, rfl⟩ := List.mem_map.1 hx; exact g4 p hp
  have c1 := hT.c1
  have lt := lt_of_heap hT.cells
  go_enter Try.func46, Try.ntmps46
  go_wp2_with fail
  refine (keys74 _ _).mono ?_
  rintro e w1 ⟨rfl, rfl⟩
  go_wp2_with fail
  refine (sorted73 _ bv V hT.live hV).mono ?_
  rintro e w2 ⟨v, rfl, hrow, u2⟩
  have h2 := (H.more u2 hrow (fun _ hb => hb)).row0 30 2
  clear hrow u2 c1 lt hT H hN
  obtain ⟨A, c, rfl, hr⟩ := h2.swap.row
  clear hr
  have hn : ((keysOf V).map encI).length = (keysOf V).length := by simp
  rw [hn] at h2 ⊢
  have hlen : (keysOf V).length ≤ 100000 := by rw [keysOf_len]; exact hV
  obtain ⟨ks, hks⟩ : ∃ ks, ks = keysOf V := ⟨_, rfl⟩
  have hok : ∀ x ∈ ks, okI x := fun x hx => hkeys x ((keysOf_mem V x).1 (hks ▸ hx))
  have hlv : Unit → liveOf V = ks.map fun s => (aget V s).getD (0, 0) := fun _ => by rw [hks]; rfl
  rw [← hks] at h2 hlen ⊢
  clear hks hkeys hn
  go_wp2_with fail
  go_loopg [2, 14] ks.length (fun kq v2 v14 w' => ∃ i : Nat, v14 = .int .i64 (i : Int) ∧ kq + i = ks.length ∧ SepK w0 w' K (star (rowR 30 2 v2 (((ks.take i).map fun s => (aget V s).getD (0, 0)).map encH)) (star (rowR 3 1 (.slice A ks.length c) (ks.map encI)) (star R T))))
  case atStart => exact ⟨0, rfl, rfl, by simpa using h2⟩
  case round =>
    clear h2
    obtain ⟨i, rfl, hk, hS⟩ := hrel
    by_cases hi : i < ks.length
    · have z1 : decide ((i : Int) < (ks.length : Int)) = true := decide_eq_true (by omega)
      obtain ⟨x, hx⟩ : ∃ x, ks[i]? = some x := ⟨ks[i], List.getElem?_eq_getElem hi⟩
      obtain ⟨A', c', e, hr⟩ := hS.swap.row
      rw [List.length_map] at e
      cases e
      obtain ⟨b, off, rfl, hc⟩ := hr i (encI x) (by rw [List.getElem?_map, hx]; rfl)
      have k0 : wr.cell? ⟨b, off + i, none⟩ = some (.int .i64 x) := by simpa using hc 0 _ rfl
      clear hr hc
      obtain ⟨N', hN'⟩ := hS.pull2.get
      obtain ⟨bl, bv, hT⟩ := hR _ _ hN'
      have c1 := hT.c1
      have r1 : (Instr.lookup 113 (.map (some bv)) (.int .i64 x) false).run Try.prog wr = .ok (.agg #[.int .i64 ((aget V x).getD (0, 0)).1, .int .u64 ((aget V x).getD (0, 0)).2]) wr := by
        rw [hT.live.lookup ki Try.underlying113 (zero30 _) (hok x (List.mem_of_getElem? hx)) false, look113]; rfl
      have hts : ks.take (i + 1) = ks.take i ++ [x] := by rw [List.take_add_one, hx]; rfl
      have hhd : Unit → ((ks.take (i + 1)).map fun s => (aget V s).getD (0, 0)).map encH = ((ks.take i).map fun s => (aget V s).getD (0, 0)).map encH ++ [[.int .i64 ((aget V x).getD (0, 0)).1, .int .u64 ((aget V x).getD (0, 0)).2]] := fun _ => by rw [hts]; simp [encH]
      have hlt : (((ks.take i).map fun s => (aget V s).getD (0, 0)).map encH).length ≤ 100000 := by simp; omega
      clear hts hx hT hN'
      generalize (aget V x).getD (0, 0) = y at r1 hhd
      have h5 := hS.alloc (.cells #[.int .i64 y.1, .int .u64 y.2] 30)
      obtain ⟨i0, hi0, hz0, hz1, hz2⟩ := info_parts info30
      clear hS
      go_wp2_with (at_builtin; refine wl_append rfl _ _ 54 rfl 30 i0 (.agg #[.int .i64 0, .int .u64 0]) 2 16 Try.underlying54 hi0 hz0 hz1 hz2 rfl (by decide) _ _ rfl h5 ⟨wr.heap.size, 0, none⟩ 1 [.int .i64 y.1, .int .u64 y.2] rfl rfl (cell_two_new _ _ _ _) (fun x hx => by simp at hx; rcases hx with rfl | rfl <;> rfl) (by unfold maxLen; omega) (by omega) ?_; intro v' w5 h8)
      go_roundg (gk - 1)
      case measure => omega
      case rel =>
        refine ⟨i + 1, by go_num, by omega, ?_⟩
        rw [hhd ()]
        exact h8.drop K (fun p hp => List.mem_cons_of_mem _ hp)
    · have z1 : decide ((i : Int) < (ks.length : Int)) = false := decide_eq_false (by omega)
      have hts : ks.take i = ks := List.take_of_length_le (by omega)
      rw [hts] at hS
      clear hts
      go_wp2_with fail
      go_ret
      refine ⟨_, rfl, ?_⟩
      rw [hlv ()]
      exact hS.imp fun _ g => star_imp g fun _ g => star_tail g
/-- A heap whose table's place is told. -/
def heldT (x s t bo : Nat) (room : Int) (st : HS) : Res := fun w N => ∃ B l O, B.x = x ∧ B.s = s ∧ B.t = t ∧ B.bo = bo ∧ HeapAt w B room st.used l st.L st.V O ∧ mapv (·.2) l = st.sl ∧ mapv (·.2) O = st.ob ∧ ∀ b ∈ B.all l O, N b
instance {x s t bo : Nat} {room : Int} {st : HS} : Good (heldT x s t bo room st) where
  kept := fun h u hS => by
    obtain ⟨B, l, O, h1, e1, e2, e3, h2, h3, h4, h5⟩ := h
    exact ⟨B, l, O, h1, e1, e2, e3, h2.kept u (fun b hb hm => hS b hb (h5 b hm)), h3, h4, h5⟩
  mono := fun h hM => by
    obtain ⟨B, l, O, h1, e1, e2, e3, h2, h3, h4, h5⟩ := h
    exact ⟨B, l, O, h1, e1, e2, e3, h2, h3, h4, fun b hb => hM b (h2.lts b hb) (h5 b hb)⟩
theorem SepK.heldT {x : Nat} {room : Int} {st : HS} (h : SepK w0 w K (star (heldR x room st) T)) : ∃ s t bo, w.heap[x]? = some (.cells #[.pointer (some ⟨s, 0, none⟩), .pointer (some ⟨t, 0, none⟩), .map (some bo)] 124 (0, 0)) ∧ SepK w0 w K (star (heldT x s t bo room st) T) := by
  obtain ⟨u, A, B, h1, ⟨A', B', ⟨C, l, O, c1, c2, c3, c4, c5⟩, h3, h4⟩, h5⟩ := h
  subst c1
  exact ⟨C.s, C.t, C.bo, c2.cells, u, A, B, h1, ⟨A', B', ⟨C, l, O, rfl, rfl, rfl, rfl, c2, c3, c4, c5⟩, h3, h4⟩, h5⟩
set_option maxRecDepth 100000 in
set_option maxHeartbeats 4000000 in
theorem sLive {x : Nat} {room : Int} {st : HS} (H : SepK w0 w K (star (heldR x room st) T)) (hV : st.V.length ≤ 100000) :
    Calls Try.prog 64 #[.pointer (some ⟨x, 0, none⟩)] w fun e w' => ∃ v, e = .returned v ∧ SepK w0 w' K (star (rowR 30 2 v ((liveOf st.V).map encH)) (star (heldR x room st) T)) := by
  obtain ⟨s, t, bo, hc, H1⟩ := H.heldT
  have c1 := cell_of hc 1
  have lt := lt_of_heap hc
  simp only [List.getElem?_toArray, List.getElem?_cons_zero, List.getElem?_cons_succ] at c1
  clear hc H
  go_enter Try.func64, Try.ntmps64
  go_wp2_with fail
  refine (tAllR (R := Ytgleceijdedlkaa.heldT x s t bo room st) (L := st.L) (V := st.V) (fun w N h => by
    obtain ⟨B, l, O, h1, e1, e2, e3, h2, -⟩ := h
    subst e2
    exact ⟨B.bl, B.bv, h2.tab⟩) H1 hV).mono ?_
  rintro e w1 ⟨v, rfl, h2⟩
  obtain ⟨A9, c9, rfl, -⟩ := h2.row
  go_wp2_with fail
  go_ret
  rw [List.length_map] at h2
  refine ⟨.slice A9 (liveOf st.V).length c9, rfl, h2.imp fun _ g => star_imp g fun _ g => ?_⟩
  obtain ⟨A, B, ⟨C, l, O, h1, e1, e2, e3, g2⟩, g3⟩ := g
  exact ⟨A, B, ⟨C, l, O, h1, g2⟩, g3⟩
end
end Go.Proofs.Ytgleceijdedlkaa
