/- owns: slices.Contains, slices.ContainsFunc, slices.Collect(maps.Keys). -/
import Derived.Test.YtojjjkeciiieeaaOReach2
namespace Go.Proofs.Ytojjjkeciiieeaa
open Go.RowKit Go.Maps Go.Sort Go.Shelf Go.WideElems
set_option linter.unusedVariables false
set_option linter.unusedSimpArgs false
set_option linter.unusedSectionVars false
theorem one_cell {w : World} {A : Option Addr} {l : List Int} (h : RowsAt w A 1 (l.map encI)) {i : Nat} {x : Int} (hi : l[i]? = some x) : ∃ b off, A = some ⟨b, off, none⟩ ∧ w.cell? ⟨b, off + i, none⟩ = some (.int .i64 x) := by
  obtain ⟨b, off, e, hc⟩ := h i (encI x) (by rw [List.getElem?_map, hi]; rfl)
  exact ⟨b, off, e, by simpa using hc 0 _ rfl⟩
def IdxDid (P : Int → Prop) (l : List Int) (w : World) (e : Ending) (w' : World) : Prop := ∃ r : Int, e = .returned (.int .i64 r) ∧ w = w' ∧ ((0 ≤ r ∧ ∃ x ∈ l, P x) ∨ (r = -1 ∧ ∀ x ∈ l, ¬ P x))
set_option maxRecDepth 100000 in
theorem index39 (A : Option Addr) (c : Nat) (l : List Int) (x : Int) (w : World) (hA : RowsAt w A 1 (l.map encI)) (hl : l.length ≤ 100000) :
    Calls Try.prog 39 #[.slice A l.length c, .int .i64 x] w (IdxDid (fun y => y = x) l w) := by
  go_enter Try.func39, Try.ntmps39
  go_wp2_with fail
  go_loopg [8] l.length (fun kq v8 w' => ∃ i : Nat, v8 = .int .i64 (i : Int) ∧ kq + i = l.length ∧ w = w' ∧ ∀ y ∈ l.take i, y ≠ x)
  case atStart => exact ⟨0, rfl, rfl, rfl, by simp⟩
  case round =>
    obtain ⟨i, rfl, hk, rfl, hn⟩ := hrel
    have HN : Unit → ∀ y ∈ l.take i, y ≠ x := fun _ => hn
    clear hn
    by_cases hi : i < l.length
    · have z1 : decide ((i : Int) < (l.length : Int)) = true := decide_eq_true (by omega)
      obtain ⟨y, hy⟩ : ∃ y, l[i]? = some y := ⟨_, List.getElem?_eq_getElem hi⟩
      obtain ⟨b, off, rfl, k0⟩ := one_cell hA hy
      have y3 : (0 : Int) ≤ (i : Int) := by omega
      have y4 : (i : Int) < (l.length : Int) := by omega
      by_cases e : x = y
      · have z2 : (x == y) = true := by simp [e]
        have HP : Unit → ∃ z ∈ l, z = x := fun _ => ⟨y, List.mem_of_getElem? hy, e.symm⟩
        clear e HN hy
        go_wp2_with fail
        go_ret
        exact (Iff.of_eq (IdxDid.eq_1 ..)).2 ⟨(i : Int), rfl, rfl, .inl ⟨y3, HP ()⟩⟩
      · have z2 : (x == y) = false := by simp [e]
        have HN2 : Unit → ∀ z ∈ l.take (i + 1), z ≠ x := fun _ z hz => by
          rw [List.take_add_one, hy] at hz
          rcases List.mem_append.1 hz with h | h
          · exact HN () z h
          · simp at h; subst h; exact fun e' => e e'.symm
        clear e HN hy
        go_wp2_with fail
        go_roundg (gk - 1)
        case measure => omega
        case rel => exact ⟨i + 1, by go_num, by omega, rfl, HN2 ()⟩
    · have z1 : decide ((i : Int) < (l.length : Int)) = false := decide_eq_false (by omega)
      have HP : Unit → ∀ z ∈ l, ¬ z = x := fun _ => by
        have := HN ()
        rwa [List.take_of_length_le (by omega)] at this
      clear HN
      go_wp2_with fail
      go_ret
      exact (Iff.of_eq (IdxDid.eq_1 ..)).2 ⟨-1, rfl, rfl, .inr ⟨rfl, HP ()⟩⟩
theorem contains29 (A : Option Addr) (c : Nat) (l : List Int) (x : Int) (w : World) (hA : RowsAt w A 1 (l.map encI)) (hl : l.length ≤ 100000) :
    Calls Try.prog 29 #[.slice A l.length c, .int .i64 x] w fun e w' => e = .returned (.bool (decide (x ∈ l))) ∧ w = w' := by
  go_enter Try.func29, Try.ntmps29
  go_wp2_with fail
  refine (index39 A c l x w hA hl).mono ?_
  rintro e w1 hd
  obtain ⟨r, rfl, rfl, hr⟩ := (Iff.of_eq (IdxDid.eq_1 ..)).1 hd
  have hm : decide (x ∈ l) = decide (0 ≤ r) := by
    rw [decide_eq_decide]
    rcases hr with ⟨h0, y, hy, rfl⟩ | ⟨rfl, h⟩
    · exact ⟨fun _ => h0, fun _ => hy⟩
    · exact ⟨fun hm => absurd rfl (h x hm), fun h => by omega⟩
  have HM : Unit → decide (x ∈ l) = decide (0 ≤ r) := fun _ => hm
  clear hd hr hm
  go_wp2_with fail
  go_ret
  exact ⟨by rw [HM ()]; rfl, rfl⟩
def capR (A : Option Addr) (n c : Nat) : Obj := .cells #[.slice A n c] 25 (0, 0)
theorem in33 (A : Option Addr) (c : Nat) (l : List Int) (x : Int) (w : World) (b : Nat) (hb : w.heap[b]? = some (capR A l.length c)) (hA : RowsAt w A 1 (l.map encI)) (hl : l.length ≤ 100000) :
    Calls Try.prog 33 #[.int .i64 x, .pointer (some ⟨b, 0, none⟩)] w fun e w' => e = .returned (.bool (decide (x ∈ l))) ∧ w = w' := by
  have c0 := cell_of hb 0
  have l0 := lt_of_heap hb
  simp only [List.getElem?_toArray, List.getElem?_cons_zero] at c0
  clear hb
  go_enter Try.func33, Try.ntmps33
  go_wp2_with fail
  refine (contains29 A c l x w hA hl).mono ?_
  rintro e w1 ⟨rfl, rfl⟩
  go_wp2_with fail
  go_ret
  exact ⟨rfl, rfl⟩
set_option maxRecDepth 100000 in
theorem indexf40 (A B : Option Addr) (c cb : Nat) (l m : List Int) (w : World) (b : Nat) (hb : w.heap[b]? = some (capR B m.length cb)) (hB : RowsAt w B 1 (m.map encI)) (hm : m.length ≤ 100000) (hA : RowsAt w A 1 (l.map encI)) (hl : l.length ≤ 100000) :
    Calls Try.prog 40 #[.slice A l.length c, .func (.func 33) #[] #[.pointer (some ⟨b, 0, none⟩)]] w (IdxDid (fun y => y ∈ m) l w) := by
  go_enter Try.func40, Try.ntmps40
  go_wp2_with fail
  go_loopg [8] l.length (fun kq v8 w' => ∃ i : Nat, v8 = .int .i64 (i : Int) ∧ kq + i = l.length ∧ w = w' ∧ ∀ y ∈ l.take i, y ∉ m)
  case atStart => exact ⟨0, rfl, rfl, rfl, by simp⟩
  case round =>
    obtain ⟨i, rfl, hk, rfl, hn⟩ := hrel
    have HN : Unit → ∀ y ∈ l.take i, y ∉ m := fun _ => hn
    clear hn
    by_cases hi : i < l.length
    · have z1 : decide ((i : Int) < (l.length : Int)) = true := decide_eq_true (by omega)
      obtain ⟨y, hy⟩ : ∃ y, l[i]? = some y := ⟨_, List.getElem?_eq_getElem hi⟩
      obtain ⟨b9, off, rfl, k0⟩ := one_cell hA hy
      have y3 : (0 : Int) ≤ (i : Int) := by omega
      have y4 : (i : Int) < (l.length : Int) := by omega
      go_wp2_with fail
      refine (in33 B cb m y w b hb hB hm).mono ?_
      rintro e w1 ⟨rfl, rfl⟩
      by_cases e : y ∈ m
      · rw [decide_eq_true e]
        have HP : Unit → ∃ z ∈ l, z ∈ m := fun _ => ⟨y, List.mem_of_getElem? hy, e⟩
        clear e HN hy
        go_wp2_with fail
        go_ret
        exact (Iff.of_eq (IdxDid.eq_1 ..)).2 ⟨(i : Int), rfl, rfl, .inl ⟨y3, HP ()⟩⟩
      · rw [decide_eq_false e]
        have HN2 : Unit → ∀ z ∈ l.take (i + 1), z ∉ m := fun _ z hz => by
          rw [List.take_add_one, hy] at hz
          rcases List.mem_append.1 hz with h | h
          · exact HN () z h
          · simp at h; subst h; exact e
        clear e HN hy
        go_wp2_with fail
        go_roundg (gk - 1)
        case measure => omega
        case rel => exact ⟨i + 1, by go_num, by omega, rfl, HN2 ()⟩
    · have z1 : decide ((i : Int) < (l.length : Int)) = false := decide_eq_false (by omega)
      have HP : Unit → ∀ z ∈ l, ¬ z ∈ m := fun _ => by
        have := HN ()
        rwa [List.take_of_length_le (by omega)] at this
      clear HN
      go_wp2_with fail
      go_ret
      exact (Iff.of_eq (IdxDid.eq_1 ..)).2 ⟨-1, rfl, rfl, .inr ⟨rfl, HP ()⟩⟩
theorem containsf30 (A B : Option Addr) (c cb : Nat) (l m : List Int) (w : World) (b : Nat) (hb : w.heap[b]? = some (capR B m.length cb)) (hB : RowsAt w B 1 (m.map encI)) (hm : m.length ≤ 100000) (hA : RowsAt w A 1 (l.map encI)) (hl : l.length ≤ 100000) :
    Calls Try.prog 30 #[.slice A l.length c, .func (.func 33) #[] #[.pointer (some ⟨b, 0, none⟩)]] w fun e w' => e = .returned (.bool (l.any fun x => decide (x ∈ m))) ∧ w = w' := by
  go_enter Try.func30, Try.ntmps30
  go_wp2_with fail
  refine (indexf40 A B c cb l m w b hb hB hm hA hl).mono ?_
  rintro e w1 hd
  obtain ⟨r, rfl, rfl, hr⟩ := (Iff.of_eq (IdxDid.eq_1 ..)).1 hd
  have hmm : (l.any fun x => decide (x ∈ m)) = decide (0 ≤ r) := by
    rcases hr with ⟨h0, y, hy, h⟩ | ⟨rfl, h⟩
    · rw [decide_eq_true h0, List.any_eq_true]
      exact ⟨y, hy, decide_eq_true h⟩
    · rw [List.any_eq_false.2 fun x hx => by simpa using h x hx]
      rfl
  have HM : Unit → (l.any fun x => decide (x ∈ m)) = decide (0 ≤ r) := fun _ => hmm
  clear hd hr hmm
  go_wp2_with fail
  go_ret
  exact ⟨by rw [HM ()]; rfl, rfl⟩
theorem keys32 (mb : Option Nat) (W : World) : Calls Try.prog 32 #[.map mb] W fun e w' => e = .returned (.func (.func 42) #[] #[.pointer (some ⟨W.heap.size, 0, none⟩)]) ∧ w' = W.alloc (.cells #[.map mb] 46) :=
  (callsIn_wide (n := 5)).1 (AnyZI.keys_in Try.keysI Fence.wide 5 trivial rfl mb W)
theorem keys_same {w : World} {b : Nat} {S : List Int} {D0 : DataW Unit} (h : ∀ kl, Maps.has D0 kl = true ↔ ∃ x ∈ S, kl = .int .i64 x) (hown : w.ownsMap Try.prog 3 anyR b S.length D0) (x : Int) : x ∈ intKeys D0 ↔ x ∈ S := by
  obtain ⟨es, hD, _, hkl⟩ := hown.entries law3
  subst hD
  have hall : ∀ p ∈ es, ∃ a ∈ S, p.1 = .int .i64 a := fun p hp => by
    have : Maps.has (DataW.map es) p.1 = true := by
      rw [has_eq, List.any_eq_true]
      exact ⟨p, hp, WideAt.sameKey_self (hkl p hp)⟩
    obtain ⟨a, ha, e⟩ := (h _).1 this
    exact ⟨a, ha, e⟩
  show x ∈ es.map (fun p => Go.intOf p.1) ↔ _
  constructor
  · intro hx
    obtain ⟨p, hp, rfl⟩ := List.mem_map.1 hx
    obtain ⟨a, ha, e⟩ := hall p hp
    rw [e]
    exact ha
  · intro hx
    have := (h (.int .i64 x)).2 ⟨x, hx, rfl⟩
    rw [has_eq, List.any_eq_true] at this
    obtain ⟨p, hp, hs⟩ := this
    have e := WideAt.sameKey_eq hs
    exact List.mem_map.2 ⟨p, hp, by rw [e]; rfl⟩
def CollectDid (S : List Int) (w : World) (e : Ending) (w' : World) : Prop := ∃ s l, e = .returned s ∧ NewI w w' s l ∧ l.length ≤ 100000 ∧ ∀ x, x ∈ l ↔ x ∈ S
theorem collect31 {w : World} {mb : Nat} {S : List Int} (h : MapAt (Value.int .i64) Value.bool okI w mb (seenL S)) (hl : S.length ≤ 100000) :
    Calls Try.prog 31 #[.func (.func 42) #[] #[.pointer (some ⟨w.heap.size, 0, none⟩)]] (w.alloc (.cells #[.map (some mb)] 46)) (CollectDid S w) := by
  obtain ⟨D0, hown, hsz, hhas⟩ := seen_bridge h hl
  refine (callsIn_wide (n := 5)).1 ?_
  have hseq : SeqGives Fence.wide 3 Try.prog 42 #[.pointer (some ⟨w.heap.size, 0, none⟩)] encZ (fun ss => ss.Perm (intKeys D0)) (Maps.size D0) (w.alloc (.cells #[.map (some mb)] 46)) :=
    AnyZI.keys_gives (ρ := Try.keysI_ren) { Try.keysI with } Fence.wide _ trivial rfl (by omega) w.heap.size mb S.length D0 _ (by simp) (by simp) (hown.alloc _)
  have cS := AnyZI.collect_in Try.collectI Fence.wide 5 trivial trivial rfl (by omega) 42 #[.pointer (some ⟨w.heap.size, 0, none⟩)] trivial (enters_of Try.func42 (by kernel_rfl) rfl) _ _ (by rw [hsz]; unfold maxLen; omega) (by rw [hsz]; omega) _ hseq
  change CallsIn _ _ Try.prog 31 _ _ _ at cS
  refine cS.mono ?_
  rintro e w' ⟨v, ss, rfl, hS, hrow, hnil, hb⟩
  have hlen : ss.length = S.length := by
    rw [hS.length_eq, ← hsz]
    obtain ⟨es, hD, _⟩ := hown.entries law3
    subst hD
    simp [intKeys, Maps.size]
  have e1 : ss.map encZ = ss.map (Value.int .i64) := rfl
  have e2 : (ss.map encI).flatten = ss.map (Value.int .i64) := by
    clear hrow hS hnil hlen e1
    induction ss with
    | nil => rfl
    | cons a m ih => simp only [List.map_cons, List.flatten_cons, ih]; rfl
  have hrow' := ownsRow_base_a (base' := w.heap.size) hrow (by simp)
  refine ⟨v, ss, rfl, ⟨⟨?_, ?_, fun g hg => ?_⟩, ((Upd.refl [] w).alloc _).trans (Upd.of_below hb [])⟩, by omega, fun x => ?_⟩
  · rw [e2, List.length_map]
    rcases hrow'.2 with ⟨h1, h2⟩ | ⟨g, cap, cur, h1, h2, h3⟩
    · exact ⟨by simp, .inl ⟨h1, h2⟩⟩
    · exact ⟨by simp, .inr ⟨g, cap, cur, h1, Nat.zero_le _, h3⟩⟩
  · intro r hr
    obtain ⟨x, _, rfl⟩ := List.mem_map.1 hr
    rfl
  · rcases hrow'.2 with ⟨h1, h2⟩ | ⟨g', cap, cur, h1, h2, h3⟩
    · rw [h1] at hg; cases hg
    · rw [h1] at hg; cases hg; exact h2
  · rw [hS.mem_iff]
    exact keys_same hhas hown x
end Go.Proofs.Ytojjjkeciiieeaa
