/- All: the handles that live, by rising slots; Slots. -/
import Derived.Test.YtgleceijdedlkaaKeys
import Derived.Test.YtgleceijdedlkaaCounts14
namespace Go.Proofs.Ytgleceijdedlkaa
open Go.RowKit Go.Maps Go.Sort Go.Shelf Go.WideElems
set_option linter.unusedVariables false
set_option linter.unusedSimpArgs false
theorem keys74 (mb : Option Nat) (W : World) : Calls Try.prog 74 #[.map mb] W fun e w' => e = .returned (.func (.func 82) #[] #[.pointer (some ⟨W.heap.size, 0, none⟩)]) ∧ w' = W.alloc (.cells #[.map mb] 113) :=
  (callsIn_wide (n := 5)).1 (AnyZI.keys_in Try.keysA Fence.wide 5 trivial rfl mb W)
theorem sorted73 (w : World) (b : Nat) (l : Lives) (h : MapAt (Value.int .i64) eh okI w b l) (hl : l.length ≤ 100000) :
    Calls Try.prog 73 #[.func (.func 82) #[] #[.pointer (some ⟨w.heap.size, 0, none⟩)]] (w.alloc (.cells #[.map (some b)] 113)) fun e w' => ∃ v, e = .returned v ∧ rowR 3 1 v ((keysOf l).map encI) w' (fun b => w.heap.size ≤ b) ∧ Upd [] w w' := by
  obtain ⟨D0, hown, hsz, hperm⟩ := keys_bridge (P := Try.prog) (k := 3) h Try.underlying3 (by unfold maxLen; omega)
  refine (callsIn_wide (n := 5)).1 ?_
  have hseq : SeqGives Fence.wide 2 Try.prog 82 #[.pointer (some ⟨w.heap.size, 0, none⟩)] encZ (fun ss => ss.Perm (intKeys D0)) (Maps.size D0) (w.alloc (.cells #[.map (some b)] 113)) :=
    AnyZI.keys_gives (ρ := Try.keysA_ren) { Try.keysA with } Fence.wide _ trivial rfl (by omega) w.heap.size b l.length D0 _ (by simp) (by simp) (hown.alloc _)
  have cS := AnyZI.sorted_in Try.sortedA Fence.wide 5 trivial trivial trivial trivial rfl (by omega) (sortsA _) (enters_of Try.func81 (by kernel_rfl) rfl) 82 #[.pointer (some ⟨w.heap.size, 0, none⟩)] trivial (enters_of Try.func82 (by kernel_rfl) rfl) _ _ (by rw [hsz]; unfold maxLen; omega) (by rw [hsz]; omega) _ hseq
  change CallsIn _ _ Try.prog 73 _ _ _ at cS
  refine cS.mono ?_
  rintro e w' ⟨v, ss, rfl, hS, hrow, hnil, hb⟩
  refine ⟨v, rfl, ?_, ((Upd.refl [] w).alloc _).trans (Upd.of_below hb [])⟩
  have hp := mergeSort_of_perm_i (hS.trans hperm)
  have e1 : (ss.mergeSort leI).map encZ = (keysOf l).map encZ := by rw [hp]; rfl
  have e2 : ss.length = ((keysOf l).map encZ).length := by rw [← e1]; simp
  have hrow' : w'.ownsRow w.heap.size 3 1 v ((keysOf l).map encZ).length ((keysOf l).map encZ) := by
    rw [← e2, ← e1]
    exact ownsRow_base_a hrow (by simp)
  have e3 : (keysOf l).map encI = ((keysOf l).map encZ).map (fun x => [x]) := by rw [List.map_map]; rfl
  rw [e3]
  exact rowR_of (w := w) hrow'
/-- The handles that live, by rising slots. -/
def liveOf (V : Lives) : List (Int × Int) := (keysOf V).map fun s => (aget V s).getD (0, 0)
theorem keysOf_len {A : Type} (l : List (Int × A)) : (keysOf l).length = l.length := by simp [keysOf]
theorem keysOf_mem {A : Type} (l : List (Int × A)) (x : Int) : x ∈ keysOf l ↔ x ∈ l.map (·.1) := (List.mergeSort_perm _ _).mem_iff
section
variable {w0 w : World} {K : List (Nat × Obj)} {T : Res} [Good T] {t : Nat} {L : Lasts} {V : Lives}
omit [Good T] in
theorem SepK.liveKeys (h : SepK w0 w K (star (tabR t L V) T)) : ∀ x ∈ V.map (·.1), okI x := by
  obtain ⟨N, bl, bv, h1, -⟩ := h.get
  obtain ⟨es, cl, g1, g2, g3, g4⟩ := h1.live
  exact fun x hx => by obtain ⟨p, hp, rfl⟩ := List.mem_map.1 hx; exact g4 p hp
omit [Good T] in
theorem star_tail {R : Res} [Good T] {N : Nat → Prop} (h : star R T w N) : T w N := by
  obtain ⟨A, B, h1, h2, h3, h4, h5⟩ := h
  exact Good.mono h2 fun b _ hb => h4 b hb
set_option maxRecDepth 100000 in
set_option maxHeartbeats 4000000 in
theorem tAll (H : SepK w0 w K (star (tabR t L V) T)) (hV : V.length ≤ 100000) :
    Calls Try.prog 46 #[.pointer (some ⟨t, 0, none⟩)] w fun e w' => ∃ v, e = .returned v ∧ SepK w0 w' K (star (rowR 30 2 v ((liveOf V).map encH)) (star (tabR t L V) T)) := by
  have hkeys := H.liveKeys
  obtain ⟨N, bl, bv, hT, -⟩ := H.get
  have c1 := hT.c1
  have lt := lt_of_heap hT.cells
  go_enter Try.func46, Try.ntmps46
  go_wp2_with fail
  refine (keys74 _ _).mono ?_
  rintro e w1 ⟨rfl, rfl⟩
  go_wp2_with fail
  refine (sorted73 _ bv V hT.live hV).mono ?_
  rintro e w2 ⟨v, rfl, hrow, u2⟩
  have h2 := (H.more u2 hrow (fun _ hb => hb)).row0 30 2
  clear hrow u2 c1 lt hT H
  obtain ⟨A, c, rfl, hr⟩ := h2.swap.row
  clear hr
  have hn : ((keysOf V).map encI).length = (keysOf V).length := by simp
  rw [hn] at h2 ⊢
  have hlen : (keysOf V).length ≤ 100000 := by rw [keysOf_len]; exact hV
  obtain ⟨ks, hks⟩ : ∃ ks, ks = keysOf V := ⟨_, rfl⟩
  have hok : ∀ x ∈ ks, okI x := fun x hx => hkeys x ((keysOf_mem V x).1 (hks ▸ hx))
  have hlv : Unit → liveOf V = ks.map fun s => (aget V s).getD (0, 0) := fun _ => by rw [hks]; rfl
  rw [← hks] at h2 hlen ⊢
  clear hks hkeys hn
  go_wp2_with fail
  go_loopg [2, 14] ks.length (fun kq v2 v14 w' => ∃ i : Nat, v14 = .int .i64 (i : Int) ∧ kq + i = ks.length ∧ SepK w0 w' K (star (rowR 30 2 v2 (((ks.take i).map fun s => (aget V s).getD (0, 0)).map encH)) (star (rowR 3 1 (.slice A ks.length c) (ks.map encI)) (star (tabR t L V) T))))
  case atStart => exact ⟨0, rfl, rfl, by simpa using h2⟩
  case round =>
    clear h2
    obtain ⟨i, rfl, hk, hS⟩ := hrel
    by_cases hi : i < ks.length
    · have z1 : decide ((i : Int) < (ks.length : Int)) = true := decide_eq_true (by omega)
      obtain ⟨x, hx⟩ : ∃ x, ks[i]? = some x := ⟨ks[i], List.getElem?_eq_getElem hi⟩
      obtain ⟨A', c', e, hr⟩ := hS.swap.row
      rw [List.length_map] at e
      cases e
      obtain ⟨b, off, rfl, hc⟩ := hr i (encI x) (by rw [List.getElem?_map, hx]; rfl)
      have k0 : wr.cell? ⟨b, off + i, none⟩ = some (.int .i64 x) := by simpa using hc 0 _ rfl
      clear hr hc
      obtain ⟨N, bl, bv, hT, -⟩ := hS.pull2.get
      have c1 := hT.c1
      have r1 : (Instr.lookup 113 (.map (some bv)) (.int .i64 x) false).run Try.prog wr = .ok (.agg #[.int .i64 ((aget V x).getD (0, 0)).1, .int .u64 ((aget V x).getD (0, 0)).2]) wr := by
        rw [hT.live.lookup ki Try.underlying113 (zero30 _) (hok x (List.mem_of_getElem? hx)) false, look113]; rfl
      have hts : ks.take (i + 1) = ks.take i ++ [x] := by rw [List.take_add_one, hx]; rfl
      have hhd : Unit → ((ks.take (i + 1)).map fun s => (aget V s).getD (0, 0)).map encH = ((ks.take i).map fun s => (aget V s).getD (0, 0)).map encH ++ [[.int .i64 ((aget V x).getD (0, 0)).1, .int .u64 ((aget V x).getD (0, 0)).2]] := fun _ => by rw [hts]; simp [encH]
      have hlt : (((ks.take i).map fun s => (aget V s).getD (0, 0)).map encH).length ≤ 100000 := by simp; omega
      clear hts hx hT
      generalize (aget V x).getD (0, 0) = y at r1 hhd
      have h5 := hS.alloc (.cells #[.int .i64 y.1, .int .u64 y.2] 30)
      obtain ⟨i0, hi0, hz0, hz1, hz2⟩ := info_parts info30
      clear hS
      go_wp2_with (at_builtin; refine wl_append rfl _ _ 54 rfl 30 i0 (.agg #[.int .i64 0, .int .u64 0]) 2 16 Try.underlying54 hi0 hz0 hz1 hz2 rfl (by decide) _ _ rfl h5 ⟨wr.heap.size, 0, none⟩ 1 [.int .i64 y.1, .int .u64 y.2] rfl rfl (cell_two_new _ _ _ _) (fun x hx => by simp at hx; rcases hx with rfl | rfl <;> rfl) (by unfold maxLen; omega) (by omega) ?_; intro v' w5 h8)
      go_roundg (gk - 1)
      case measure => omega
      case rel =>
        refine ⟨i + 1, by go_num, by omega, ?_⟩
        rw [hhd ()]
        exact h8.drop K (fun p hp => List.mem_cons_of_mem _ hp)
    · have z1 : decide ((i : Int) < (ks.length : Int)) = false := decide_eq_false (by omega)
      have hts : ks.take i = ks := List.take_of_length_le (by omega)
      rw [hts] at hS
      clear hts
      go_wp2_with fail
      go_ret
      refine ⟨_, rfl, ?_⟩
      rw [hlv ()]
      exact hS.imp fun _ g => star_imp g fun _ g => star_tail g
end
end Go.Proofs.Ytgleceijdedlkaa
