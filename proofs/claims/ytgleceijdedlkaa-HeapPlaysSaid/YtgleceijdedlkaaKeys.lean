/- slices.Sorted(maps.Keys(m)): the keys of a map in order. -/
import Derived.Test.YtgleceijdedlkaaTabRes
import Derived.Test.YtgleceijdedlkaaShelf
namespace Go.Proofs.Ytgleceijdedlkaa
open Go.RowKit Go.Maps Go.Sort Go.Shelf Go.WideElems
set_option linter.unusedVariables false
set_option linter.unusedSimpArgs false
set_option linter.unusedSectionVars false
/-- Anything reads. -/
def anyR : Value → Option (DataW Unit × List MemPlace) := fun _ => some (.lit (.bool true), [])
theorem insert_perm {H : Type} (x : Lit × DataW H) : ∀ l : List (Lit × DataW H), (DataW.insert x l).Perm (x :: l)
  | [] => by simp [DataW.insert]
  | y :: l => by
    unfold DataW.insert
    split
    · exact List.Perm.refl _
    · exact ((insert_perm x l).cons y).trans (List.Perm.swap x y l)
theorem sorted_perm {H : Type} : ∀ l : List (Lit × DataW H), (l.foldr DataW.insert []).Perm l
  | [] => List.Perm.refl _
  | x :: l => by
    simp only [List.foldr_cons]
    exact (insert_perm x _).trans ((sorted_perm l).cons x)
theorem map_inj {A B : Type} {f : A → B} (hf : ∀ x y, f x = f y → x = y) : ∀ l m : List A, l.map f = m.map f → l = m
  | [], [], _ => rfl
  | [], _ :: _, h => by simp at h
  | _ :: _, [], h => by simp at h
  | a :: l, b :: m, h => by
    simp only [List.map_cons, List.cons.injEq] at h
    rw [hf _ _ h.1, map_inj hf l m h.2]
theorem keys_bridge {P : Program} {k : TypeId} {V : Type} {ev : V → Value} {w : World} {b : Nat} {l : List (Int × V)} (h : MapAt (Value.int .i64) ev okI w b l) (hk : P.underlying k = some (.int .i64)) (hl : l.length ≤ maxLen) :
    ∃ D0 : DataW Unit, w.ownsMap P k anyR b l.length D0 ∧ Maps.size D0 = l.length ∧ (intKeys D0).Perm (l.map (·.1)) := by
  obtain ⟨es, cl, h1, h2, h3, h4⟩ := h
  have hlen : es.size = l.length := by
    have := congrArg List.length h3
    simpa using this
  have hread : ∀ x ∈ es.toList, ∃ a : Int, x.key = .int .i64 a ∧ rd P k anyR x = some (.int .i64 a, .lit (.bool true)) := fun x hx => by
    have : (x.key, x.val) ∈ l.map (fun p => (Value.int .i64 p.1, ev p.2)) := by
      rw [← h3]
      exact List.mem_map.2 ⟨x, hx, rfl⟩
    obtain ⟨p, hp, e⟩ := List.mem_map.1 this
    refine ⟨p.1, (congrArg Prod.fst e).symm, ?_⟩
    obtain ⟨key, val, born⟩ := x
    simp only [Prod.mk.injEq] at e
    obtain ⟨rfl, rfl⟩ := e
    exact rd_mk (R := anyR) (yv := (.lit (.bool true), [])) (Maps.keyOf_int_mk hk (h4 p hp)) rfl
  have F : Fit P k anyR es cl := ⟨by omega, h2, fun x hx => by obtain ⟨a, _, e⟩ := hread x hx; exact ⟨_, e⟩⟩
  refine ⟨_, ⟨es, cl, h1, F, by omega, rfl⟩, ?_, ?_⟩
  · show ((es.toList.map (rg P k anyR)).foldr DataW.insert []).length = _
    rw [length_read, hlen]
  · show (((es.toList.map (rg P k anyR)).foldr DataW.insert []).map fun p => Go.intOf p.1).Perm _
    refine ((sorted_perm _).map _).trans ?_
    have : (es.toList.map (rg P k anyR)).map (fun p => Go.intOf p.1) = l.map (·.1) := by
      have e1 : (es.toList.map (rg P k anyR)).map (fun p => Value.int .i64 (Go.intOf p.1)) = (l.map (·.1)).map (Value.int .i64) := by
        have e2 : (l.map (·.1)).map (Value.int .i64) = es.toList.map (·.key) := by
          have := congrArg (List.map Prod.fst) h3
          simp only [List.map_map, Function.comp_def] at this ⊢
          exact this.symm
        rw [e2, List.map_map]
        refine List.map_congr_left fun x hx => ?_
        obtain ⟨a, e3, e4⟩ := hread x hx
        simp only [Function.comp_def]
        rw [rg_of e4, e3]
        rfl
      have e5 : ((es.toList.map (rg P k anyR)).map (fun p => Go.intOf p.1)).map (Value.int .i64) = (l.map (·.1)).map (Value.int .i64) := by
        rw [← e1, List.map_map, List.map_map, List.map_map]
        rfl
      exact map_inj (fun x y e => by cases e; rfl) _ _ e5
    rw [this]
/-- The keys in order. -/
def keysOf {V : Type} (l : List (Int × V)) : List Int := (l.map (·.1)).mergeSort leI
theorem sortsA (m : Nat) : AnyZI.SortsIn Try.prog Try.sortedA_ren Fence.wide m :=
  ⟨fun blk off cap ss W hH hblk hsz => callsIn_wide.2 (AnyM.slices_Sort_int Try.sortA blk off cap ss W hH hblk hsz),
   fun p cap W => callsIn_wide.2 (AnyM.slices_Sort_int_none Try.sortA p cap W)⟩
theorem flat_one {α : Type} : ∀ l : List α, (l.map fun x => [x]).flatten = l
  | [] => rfl
  | a :: l => by simp only [List.map_cons, List.flatten_cons, flat_one l, List.singleton_append]
theorem rowR_of {w w' : World} {e : TypeId} {v : Value} {l : List Value} (h : w'.ownsRow w.heap.size e 1 v l.length l) : rowR e 1 v (l.map fun x => [x]) w' (fun b => w.heap.size ≤ b) := by
  have hf : (l.map fun x => [x]).flatten = l := flat_one l
  refine ⟨⟨?_, ?_⟩, by simp, fun g hg => ?_⟩
  · rw [hf]; simp
  · rw [hf]
    rcases h.2 with ⟨h1, h2⟩ | ⟨g, cap, cur, h1, h2, h3⟩
    · exact .inl ⟨h1, by simpa using h2⟩
    · exact .inr ⟨g, cap, cur, by simpa using h1, Nat.zero_le _, by simpa using h3⟩
  · rcases h.2 with ⟨h1, h2⟩ | ⟨g', cap, cur, h1, h2, h3⟩
    · rw [h1] at hg; cases hg
    · rw [h1] at hg; cases hg; exact h2
def encI (a : Int) : List Value := [.int .i64 a]
set_option maxRecDepth 100000 in
set_option maxHeartbeats 2000000 in
theorem Slots_spec (w : World) (s bm : Nat) (room used : Int) (l : Slots) (h : SlabAt w s bm room used l) (hl : l.length ≤ 100000) :
    Calls Try.prog 52 #[.pointer (some ⟨s, 0, none⟩)] w fun e w' => ∃ v, e = .returned v ∧ rowR 3 1 v ((keysOf l).map encI) w' (fun b => w.heap.size ≤ b) ∧ Upd [] w w' := by
  obtain ⟨D0, hown, hsz, hperm⟩ := keys_bridge (P := Try.prog) (k := 3) h.map Try.underlying3 (by unfold maxLen; omega)
  have c2 := h.c2
  have hbl := hown.lt
  refine (callsIn_wide (n := 6)).1 ?_
  have hseq : SeqGives Fence.wide 2 Try.prog 83 #[.pointer (some ⟨w.heap.size, 0, none⟩)] encZ (fun ss => ss.Perm (intKeys D0)) (Maps.size D0) (w.alloc (.cells #[.map (some bm)] 116)) :=
    AnyZI.keys_gives (ρ := Try.keysB_ren) { Try.keysB with } Fence.wide _ trivial rfl (by omega) w.heap.size bm l.length D0 _ (by simp) (by simp) (hown.alloc _)
  have cK : ∀ mb W, CallsIn Fence.wide 5 Try.prog 75 #[.map mb] W fun e w' => e = .returned (.func (.func 83) #[] #[.pointer (some ⟨W.heap.size, 0, none⟩)]) ∧ w' = W.alloc (.cells #[.map mb] 116) := fun mb W => AnyZI.keys_in Try.keysB Fence.wide 5 trivial rfl mb W
  have cS := AnyZI.sorted_in Try.sortedA Fence.wide 5 trivial trivial trivial trivial rfl (by omega) (sortsA _) (enters_of Try.func81 (by kernel_rfl) rfl) 83 #[.pointer (some ⟨w.heap.size, 0, none⟩)] trivial (enters_of Try.func83 (by kernel_rfl) rfl) _ _ (by rw [hsz]; unfold maxLen; omega) (by rw [hsz]; omega) _ hseq
  change CallsIn _ _ Try.prog 73 _ _ _ at cS
  have hfK : Fence.wide.fn 75 := trivial
  have hfS : Fence.wide.fn 73 := trivial
  clear hsz
  refine callsIn_of_wp Try.func52 rfl trivial ?_ rfl
  simp only [Try.ntmps52, List.size_toArray, List.length_cons, List.length_nil, Nat.reduceAdd, Nat.reduceSub, Array.replicate_succ, Array.replicate_zero, List.push_toArray, List.append_toArray, List.nil_append, List.cons_append]
  gi_wp2_with (first
    | (gi_at_call 75; refine (cK _ _).mono ?_; rintro e w' ⟨rfl, rfl⟩)
    | (gi_at_call 73; refine cS.mono ?_; rintro e w' ⟨v, ss, rfl, hS, hrow, hnil, hb⟩))
  go_ret
  refine ⟨v, rfl, ?_, ((Upd.refl [] w).alloc _).trans (Upd.of_below hb [])⟩
  have hp := mergeSort_of_perm_i (hS.trans hperm)
  have hlen : (ss.mergeSort leI).length = ss.length := by simp
  have e1 : (ss.mergeSort leI).map encZ = (keysOf l).map encZ := by rw [hp]; rfl
  have e2 : ss.length = ((keysOf l).map encZ).length := by rw [← e1]; simp
  have hrow' : w'.ownsRow w.heap.size 3 1 v ((keysOf l).map encZ).length ((keysOf l).map encZ) := by
    rw [← e2, ← e1]
    exact ownsRow_base_a hrow (by simp)
  have e3 : (keysOf l).map encI = ((keysOf l).map encZ).map (fun x => [x]) := by rw [List.map_map]; rfl
  rw [e3]
  exact rowR_of (w := w) hrow'
end Go.Proofs.Ytgleceijdedlkaa
