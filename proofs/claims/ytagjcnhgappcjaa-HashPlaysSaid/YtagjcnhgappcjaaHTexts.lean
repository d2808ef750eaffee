/- A hash: Keys. -/
import Derived.Test.YtagjcnhgappcjaaHSlots
namespace Go.Proofs.Ytagjcnhgappcjaa
open Go.RowKit Go.Maps Go.Sort Go.Shelf Go.WideElems
set_option linter.unusedVariables false
set_option linter.unusedSimpArgs false
theorem sortsS (m : Nat) : AnyZ.SortsIn Try.prog Try.sortedS_ren Fence.wide m :=
  ⟨fun blk off cap ss W hH hblk hsz => callsIn_wide.2 (AnyM.slices_Sort_string Try.sortS blk off cap ss W hH hblk hsz),
   fun p cap W => callsIn_wide.2 (AnyM.slices_Sort_string_none Try.sortS p cap W)⟩
def ckey (s : ByteArray) : List UInt8 := s.data.toList
theorem keys_bridgeS {P : Program} {k : TypeId} {V : Type} {ev : V → Value} {w : World} {b : Nat} {l : List (ByteArray × V)} (h : MapAt Value.string ev okS8 w b l) (hk : P.underlying k = some .string) (hl : l.length ≤ maxLen) :
    ∃ D0 : DataW Unit, w.ownsMap P k anyR b l.length D0 ∧ Maps.size D0 = l.length ∧ (strKeys D0).Perm (l.map (fun p => ckey p.1)) := by
  obtain ⟨es, cl, h1, h2, h3, h4⟩ := h
  have hlen : es.size = l.length := by
    have := congrArg List.length h3
    simpa using this
  have hread : ∀ x ∈ es.toList, ∃ a : ByteArray, x.key = .string a ∧ rd P k anyR x = some (.string (ckey a), .lit (.bool true)) := fun x hx => by
    have : (x.key, x.val) ∈ l.map (fun p => (Value.string p.1, ev p.2)) := by
      rw [← h3]
      exact List.mem_map.2 ⟨x, hx, rfl⟩
    obtain ⟨p, hp, e⟩ := List.mem_map.1 this
    refine ⟨p.1, (congrArg Prod.fst e).symm, ?_⟩
    obtain ⟨key, val, born⟩ := x
    simp only [Prod.mk.injEq] at e
    obtain ⟨rfl, rfl⟩ := e
    exact rd_mk (R := anyR) (yv := (.lit (.bool true), [])) (by simp [keyOf, mapKey, hk, ckey]; exact h4 p hp) rfl
  have F : Fit P k anyR es cl := ⟨by omega, h2, fun x hx => by obtain ⟨a, _, e⟩ := hread x hx; exact ⟨_, e⟩⟩
  refine ⟨_, ⟨es, cl, h1, F, by omega, rfl⟩, ?_, ?_⟩
  · show ((es.toList.map (rg P k anyR)).foldr DataW.insert []).length = _
    rw [length_read, hlen]
  · show (((es.toList.map (rg P k anyR)).foldr DataW.insert []).map fun p => Go.strOf p.1).Perm _
    refine ((sorted_perm _).map _).trans ?_
    have : (es.toList.map (rg P k anyR)).map (fun p => Go.strOf p.1) = l.map (fun p => ckey p.1) := by
      have e1 : (es.toList.map (rg P k anyR)).map (fun p => Value.string ⟨(Go.strOf p.1).toArray⟩) = (l.map (fun p => ckey p.1)).map (fun s => Value.string ⟨s.toArray⟩) := by
        have e2 : (l.map (fun p => ckey p.1)).map (fun s => Value.string ⟨s.toArray⟩) = es.toList.map (·.key) := by
          have := congrArg (List.map Prod.fst) h3
          simp only [List.map_map, Function.comp_def] at this ⊢
          exact this.symm
        rw [e2, List.map_map]
        refine List.map_congr_left fun x hx => ?_
        obtain ⟨a, e3, e4⟩ := hread x hx
        simp only [Function.comp_def]
        rw [rg_of e4, e3]
        rfl
      have e5 : ((es.toList.map (rg P k anyR)).map (fun p => Go.strOf p.1)).map (fun s => Value.string ⟨s.toArray⟩) = (l.map (fun p => ckey p.1)).map (fun s => Value.string ⟨s.toArray⟩) := by
        rw [← e1, List.map_map, List.map_map, List.map_map]
        rfl
      exact map_inj (fun x y e => by simpa using e) _ _ e5
    rw [this]
def textsOf {V : Type} (l : List (ByteArray × V)) : List (List UInt8) := (l.map fun p => ckey p.1).mergeSort leB
def encT (s : List UInt8) : List Value := [Go.Proofs.encStr s]
theorem keys38 (mb : Option Nat) (W : World) : Calls Try.prog 38 #[.map mb] W fun e w' => e = .returned (.func (.func 46) #[] #[.pointer (some ⟨W.heap.size, 0, none⟩)]) ∧ w' = W.alloc (.cells #[.map mb] 56) :=
  (callsIn_wide (n := 5)).1 (AnyZ.keys_in Try.keysS Fence.wide 5 trivial rfl mb W)
theorem sorted37 {V : Type} {ev : V → Value} (w : World) (b : Nat) (l : List (ByteArray × V)) (h : MapAt Value.string ev okS8 w b l) (hl : l.length ≤ 100000) :
    Calls Try.prog 37 #[.func (.func 46) #[] #[.pointer (some ⟨w.heap.size, 0, none⟩)]] (w.alloc (.cells #[.map (some b)] 56)) fun e w' => ∃ v, e = .returned v ∧ rowR 9 1 v ((textsOf l).map encT) w' (fun b => w.heap.size ≤ b) ∧ Upd [] w w' := by
  obtain ⟨D0, hown, hsz, hperm⟩ := keys_bridgeS (P := Try.prog) (k := 9) h Try.underlying9 (by unfold maxLen; omega)
  refine (callsIn_wide (n := 5)).1 ?_
  have hseq : SeqGives Fence.wide 2 Try.prog 46 #[.pointer (some ⟨w.heap.size, 0, none⟩)] encStr (fun ss => ss.Perm (strKeys D0)) (Maps.size D0) (w.alloc (.cells #[.map (some b)] 56)) :=
    AnyZ.keys_gives (ρ := Try.keysS_ren) { Try.keysS with } Fence.wide _ trivial rfl (by omega) w.heap.size b l.length D0 _ (by simp) (by simp) (hown.alloc _)
  have cS := AnyZ.sorted_in Try.sortedS Fence.wide 5 trivial trivial trivial trivial rfl (by omega) (sortsS _) (enters_of Try.func45 (by kernel_rfl) rfl) 46 #[.pointer (some ⟨w.heap.size, 0, none⟩)] trivial (enters_of Try.func46 (by kernel_rfl) rfl) _ _ (by rw [hsz]; unfold maxLen; omega) (by rw [hsz]; omega) _ hseq
  change CallsIn _ _ Try.prog 37 _ _ _ at cS
  refine cS.mono ?_
  rintro e w' ⟨v, ss, rfl, hS, hrow, hnil, hb⟩
  refine ⟨v, rfl, ?_, ((Upd.refl [] w).alloc _).trans (Upd.of_below hb [])⟩
  have hp := mergeSort_of_perm (hS.trans hperm)
  have e1 : (ss.mergeSort leB).map encStr = (textsOf l).map encStr := by rw [hp]; rfl
  have e2 : ss.length = ((textsOf l).map encStr).length := by rw [← e1]; simp
  have hrow' : w'.ownsRow w.heap.size 9 1 v ((textsOf l).map encStr).length ((textsOf l).map encStr) := by
    rw [← e2, ← e1]
    exact ownsRow_base_a hrow (by simp)
  have e3 : (textsOf l).map encT = ((textsOf l).map encStr).map (fun x => [x]) := by rw [List.map_map]; rfl
  rw [e3]
  exact rowR_of (w := w) hrow'
section
variable {w0 w : World} {K : List (Nat × Obj)} {T : Res} [Good T] {h : Nat} {size n : Int} {bs bv : Nat} {l : List Ent}
set_option maxRecDepth 100000 in
theorem hKeys (H : SepK w0 w K (hR bs bv l T)) (hK : (h, hblk size n bs bv) ∈ K) (hl : l.length ≤ 100000) :
    Calls Try.prog 24 #[.pointer (some ⟨h, 0, none⟩)] w fun e w' => ∃ v, e = .returned v ∧ SepK w0 w' K (star (rowR 9 1 v ((textsOf (swp (vsOf l))).map encT)) (hR bs bv l T)) := by
  have hb := H.blk hK
  have c2 := cell_of hb 2
  have lt := lt_of_heap hb
  simp only [List.getElem?_toArray, List.getElem?_cons_zero, List.getElem?_cons_succ] at c2
  have hm := H.slots
  have hl2 : (swp (vsOf l)).length ≤ 100000 := by simpa [swp, vsOf] using hl
  go_enter Try.func24, Try.ntmps24
  go_wp2_with (first
    | (go_at_call 30; (with_reducible refine (none_c hb).mono ?_); rintro e w1 ⟨rfl, rfl⟩)
    | (go_at_call 38; (with_reducible refine (keys38 _ _).mono ?_); rintro e w1 ⟨rfl, rfl⟩)
    | (go_at_call 37; (with_reducible refine (sorted37 w bs (swp (vsOf l)) hm hl2).mono ?_); rintro e w2 ⟨v, rfl, hrow, u2⟩))
  go_ret
  exact ⟨v, rfl, H.more u2 hrow (fun _ hb => hb)⟩
set_option maxRecDepth 100000 in
theorem hKeys_nil (w : World) : Calls Try.prog 24 #[.pointer none] w fun e w' => e = .returned (.slice none 0 0) ∧ w = w' := by
  go_enter Try.func24, Try.ntmps24
  go_wp2_with (go_at_call 30; (with_reducible refine (none_nil _).mono ?_); rintro e w1 ⟨rfl, rfl⟩)
  go_ret
  exact ⟨rfl, rfl⟩
end
end Go.Proofs.Ytagjcnhgappcjaa
