/- code: Check's six parts, each with what is known ahead of it. -/
import Derived.Test.YtibghcmkmbamjaaCCheck
namespace Go.Proofs.Ytibghcmkmbamjaa
open Go.RowKit Go.Shelf
set_option linter.unusedVariables false
set_option linter.unusedSimpArgs false
set_option linter.unusedSectionVars false
abbrev rowC (b0 : Nat) : Obj := .cells #[.func (.func 61) #[] #[.pointer (some ⟨b0 + 1 + 1 + 1, 0, none⟩)], .int .i64 80, .func (.func 65) #[] #[.pointer (some ⟨b0 + 1 + 1 + 1, 0, none⟩)], .int .i64 81, .func (.func 68) #[] #[.pointer (some ⟨b0 + 1 + 1 + 1, 0, none⟩)], .int .i64 4, .func (.func 70) #[] #[.pointer (some ⟨b0 + 1 + 1 + 1, 0, none⟩)], .int .i64 82, .func (.func 72) #[] #[.pointer (some ⟨b0 + 1 + 1 + 1, 0, none⟩), .pointer (some ⟨b0, 0, none⟩)], .int .i64 84, .func (.func 76) #[.pointer (some ⟨b0 + 1 + 1, 0, none⟩)] #[], .int .i64 83] 89
abbrev restC (b0 : Nat) (A : Option Addr) (n c : Nat) : List (Nat × Obj) := (b0 + 1 + 1 + 1, .cells #[.pointer (some ⟨b0 + 1 + 1, 0, none⟩)] 82) :: (b0 + 1 + 1 + 1 + 1, rowC b0) :: (b0, .cells #[.slice A n c] 43) :: []
abbrev cK (b0 : Nat) (A : Option Addr) (n c : Nat) (E : Nat × Obj) (vS : Value) : List (Nat × Obj) := (b0 + 1 + 1, .cells #[.slice A n c, .map (some (b0 + 1)), vS] 85) :: E :: restC b0 A n c
/-- What is known ahead of part i. -/
structure Facts (l : List Ins) (i : Nat) : Prop where
  f1 : 1 ≤ i → ∀ a ∈ allP l, wholeP l a = true
  f2 : 2 ≤ i → ∀ a ∈ allP l, straysP l (allP l) a = false
  f3 : 3 ≤ i → (subsP l).length ≤ 32
  f4 : 4 ≤ i → ∀ a ∈ allP l, leavesP l (subsP l) a = false
  f5 : 5 ≤ i → ∀ a ∈ allP l, a ∈ seenN l (subsP l)
  f6 : 6 ≤ i → ¬ 0 ≤ loopF l (subsP l) 0 (subsP l)
/-- What lies in memory ahead of part i. -/
def St (w0 : World) (b0 : Nat) (A : Option Addr) (l : List Ins) (c : Nat) (E : Nat × Obj) (i : Nat) (W : World) : Prop :=
  ∃ (bs : List (Int × Bool)) (vS : Value) (ss : List (Int × Int)), SepK w0 W (cK b0 A l.length c E vS) (star (rowR 53 2 vS (ss.map encS)) (star (mapR (Value.int .i64) Value.bool okI (b0 + 1) bs) emp)) ∧
    (∀ t, (aget bs t).getD false = decide (t ∈ (if i < 2 then [] else allP l))) ∧ (i < 3 → vS = .slice none 0 0 ∧ ss = []) ∧ (3 ≤ i → ss = subsP l) ∧ Facts l i
/-- What part i tells. -/
def Tells (w0 : World) (b0 : Nat) (A : Option Addr) (l : List Ins) (c : Nat) (E : Nat × Obj) (i : Nat) (er : Int) (e : Ending) (w' : World) : Prop :=
  ∃ r : Int, e = .returned (.int .i64 r) ∧ Upd [] w0 w' ∧ w'.heap[E.1]? = some E.2 ∧ (0 ≤ r → checkP l = ([], r, er)) ∧ (r < 0 → St w0 b0 A l c E (i + 1) w')
section
variable {w0 W : World} {b0 c : Nat} {A : Option Addr} {l : List Ins} {E : Nat × Obj}
theorem prg_of {vS : Value} {bs : List (Int × Bool)} {b : List Int} {K : List (Nat × Obj)} {X : Res} {p bm : Nat} (hr : RowsAt w0 A 5 (l.map encN)) (hok : ∀ x ∈ l, OkI x) (hl : l.length ≤ 1024) (H : SepK w0 W ((p, .cells #[.slice A l.length c, .map (some bm), vS] 85) :: K) (star X (star (mapR (Value.int .i64) Value.bool okI bm bs) emp))) (hb : ∀ t, (aget bs t).getD false = decide (t ∈ b)) : Prg W p A c l bm b vS :=
  ⟨H.blk List.mem_cons_self, hr.keep H.u, hok, hl, bs, H.swap.map, hb⟩
theorem St.alloc {i : Nat} (h : St w0 b0 A l c E i W) (o : Obj) : St w0 b0 A l c (W.heap.size, o) i (W.alloc o) := by
  obtain ⟨bs, vS, ss, H, h1⟩ := h
  refine ⟨bs, vS, ss, (H.alloc o).drop _ (fun q hq => ?_), h1⟩
  simp only [List.mem_cons] at hq ⊢
  rcases hq with h | h | h | h | h | h <;> simp [h]
theorem St.extra {i : Nat} (h : St w0 b0 A l c E i W) : W.heap[E.1]? = some E.2 := by
  obtain ⟨bs, vS, ss, H, h1⟩ := h
  exact H.blk (by simp)
theorem St.plain {i : Nat} (h : St w0 b0 A l c E i W) : St w0 b0 A l c (b0, .cells #[.slice A l.length c] 43) i W := by
  obtain ⟨bs, vS, ss, H, h1⟩ := h
  refine ⟨bs, vS, ss, H.drop _ (fun q hq => ?_), h1⟩
  simp only [List.mem_cons] at hq ⊢
  rcases hq with h | h | h | h | h | h <;> simp [h]
theorem St.upd {i : Nat} {W' : World} (h : St w0 b0 A l c E i W) (u : Upd [] W W') : St w0 b0 A l c E i W' := by
  obtain ⟨bs, vS, ss, H, h1⟩ := h
  exact ⟨bs, vS, ss, H.upd u, h1⟩
variable (hr : RowsAt w0 A 5 (l.map encN)) (hok : ∀ x ∈ l, OkI x) (hl : l.length ≤ 1024) (hne : 0 < l.length)
include hr hok hl hne
theorem part0 (h : St w0 b0 A l c E 0 W) : Calls Try.prog 61 #[.pointer (some ⟨b0 + 1 + 1 + 1, 0, none⟩)] W (Tells w0 b0 A l c E 0 80) := by
  obtain ⟨bs, vS, ss, H, hb, h2, h3, hf⟩ := h
  refine (find61 (prg_of hr hok hl H hb) hne (H.blk (b := b0 + 1 + 1 + 1) (by simp))).mono ?_
  rintro e w' ⟨rfl, u⟩
  refine ⟨_, rfl, H.u.trans u, (H.upd u).blk (b := E.1) (o := E.2) (by simp), fun h0 => ?_, fun h0 => ⟨bs, vS, ss, H.upd u, hb, fun _ => h2 (by omega), (by intro h; omega), ⟨fun _ => ?_, (by intro h; omega), (by intro h; omega), (by intro h; omega), (by intro h; omega), (by intro h; omega)⟩⟩⟩
  · unfold checkP
    rw [if_neg (by omega), if_neg (by omega), if_pos h0]
  · have := firstP_neg.1 (Int.not_le.2 h0)
    exact fun a ha => by simpa using this a ha
theorem part1 (h : St w0 b0 A l c E 1 W) : Calls Try.prog 65 #[.pointer (some ⟨b0 + 1 + 1 + 1, 0, none⟩)] W (Tells w0 b0 A l c E 1 81) := by
  obtain ⟨bs, vS, ss, H, hb, h2, h3, hf⟩ := h
  refine (find65 (prg_of hr hok hl H hb) hne (hf.f1 (by omega)) (H.blk (b := b0 + 1 + 1 + 1) (by simp))).mono ?_
  rintro e w' ⟨rfl, u, hP⟩
  obtain ⟨bs', hm', hb'⟩ := hP.begins
  have H' := (H.swap.step (R' := mapR (Value.int .i64) Value.bool okI (b0 + 1) bs') (fun N hN hfr => ⟨⟨hm', hN.2⟩, .of1 u hN.2⟩)).swap
  refine ⟨_, rfl, H'.u, H'.blk (b := E.1) (o := E.2) (by simp), fun h0 => ?_, fun h0 => ⟨bs', vS, ss, H', hb', fun _ => h2 (by omega), (by intro h; omega), ⟨fun _ => hf.f1 (by omega), fun _ => firstP_neg.1 (Int.not_le.2 h0), (by intro h; omega), (by intro h; omega), (by intro h; omega), (by intro h; omega)⟩⟩⟩
  unfold checkP
  rw [if_neg (by omega), if_neg (by omega), if_neg (firstP_neg.2 fun a ha => by simp [hf.f1 (by omega) a ha]), if_pos h0]
theorem part2 (hE : E.1 ≠ b0 + 1 + 1) (h : St w0 b0 A l c E 2 W) : Calls Try.prog 68 #[.pointer (some ⟨b0 + 1 + 1 + 1, 0, none⟩)] W (Tells w0 b0 A l c E 2 4) := by
  obtain ⟨bs, vS, ss, H, hb, h2, h3, hf⟩ := h
  obtain ⟨rfl, rfl⟩ := h2 (by omega)
  have hS : Straight l := ⟨hne, hf.f1 (by omega), hf.f2 (by omega)⟩
  refine (find68 (bp := b0 + 1 + 1 + 1) (prg_of hr hok hl H hb) H (fun q hq => by
    simp only [List.mem_cons, List.not_mem_nil, or_false] at hq
    rcases hq with rfl | rfl | rfl | rfl
    · exact hE
    · show b0 + 1 + 1 + 1 ≠ b0 + 1 + 1; omega
    · show b0 + 1 + 1 + 1 + 1 ≠ b0 + 1 + 1; omega
    · show b0 ≠ b0 + 1 + 1; omega) hne (by simp) (by rw [subs_len]; have := hS.starts_len; omega)).mono ?_
  rintro e w' ⟨v', rfl, H'⟩
  have H2 := H'.imp fun _ g => star_imp g fun _ g => star_tail g
  have hmp : 0 ≤ manyP l ↔ 32 < (subsP l).length := by
    unfold manyP
    split
    · rename_i h32
      obtain ⟨s, hs⟩ : ∃ s, (subsP l)[32]? = some s := ⟨_, List.getElem?_eq_getElem h32⟩
      have := (hS.rows.sub hs).1
      rw [hs]
      simpa using ⟨fun _ => h32, fun _ => this⟩
    · rename_i h32
      exact ⟨fun h => by omega, fun h => absurd h h32⟩
  refine ⟨_, rfl, H2.u, H2.blk (b := E.1) (o := E.2) (by simp), fun h0 => ?_, fun h0 => ⟨bs, v', subsP l, H2, hb, (by intro h; omega), fun _ => rfl, ⟨fun _ => hf.f1 (by omega), fun _ => hf.f2 (by omega), fun _ => by have := mt hmp.2 (Int.not_le.2 h0); omega, (by intro h; omega), (by intro h; omega), (by intro h; omega)⟩⟩⟩
  have h32 := hmp.1 h0
  unfold checkP
  rw [if_neg (by omega), if_neg (by omega), if_neg (firstP_neg.2 fun a ha => by simp [hf.f1 (by omega) a ha]), if_neg (firstP_neg.2 (hf.f2 (by omega))), if_pos h32]
  unfold manyP
  rw [if_pos h32]
theorem part3 (h : St w0 b0 A l c E 3 W) : Calls Try.prog 70 #[.pointer (some ⟨b0 + 1 + 1 + 1, 0, none⟩)] W (Tells w0 b0 A l c E 3 82) := by
  obtain ⟨bs, vS, ss, H, hb, h2, h3, hf⟩ := h
  obtain rfl := h3 (by omega)
  obtain ⟨AS, cS, rfl, hrs⟩ := H.row
  rw [List.length_map] at H
  have hf3 := hf.f3 (by omega)
  refine (find70 (prg_of hr hok hl H hb) hrs (by omega) hne (H.blk (b := b0 + 1 + 1 + 1) (by simp))).mono ?_
  rintro e w' ⟨rfl, u⟩
  refine ⟨_, rfl, H.u.trans u, (H.upd u).blk (b := E.1) (o := E.2) (by simp), fun h0 => ?_, fun h0 => ⟨bs, _, subsP l, H.upd u, hb, (by intro h; omega), fun _ => rfl, ⟨fun _ => hf.f1 (by omega), fun _ => hf.f2 (by omega), fun _ => hf3, fun _ => firstP_neg.1 (Int.not_le.2 h0), (by intro h; omega), (by intro h; omega)⟩⟩⟩
  unfold checkP
  rw [if_neg (by omega), if_neg (by omega), if_neg (firstP_neg.2 fun a ha => by simp [hf.f1 (by omega) a ha]), if_neg (firstP_neg.2 (hf.f2 (by omega))), if_neg (by omega), if_pos h0]
theorem part4 (h : St w0 b0 A l c E 4 W) : Calls Try.prog 72 #[.pointer (some ⟨b0 + 1 + 1 + 1, 0, none⟩), .pointer (some ⟨b0, 0, none⟩)] W (Tells w0 b0 A l c E 4 84) := by
  obtain ⟨bs, vS, ss, H, hb, h2, h3, hf⟩ := h
  obtain rfl := h3 (by omega)
  obtain ⟨AS, cS, rfl, hrs⟩ := H.row
  rw [List.length_map] at H
  have hf3 := hf.f3 (by omega)
  have hK : Kept l := { pos := hne, whole := hf.f1 (by omega), strays := hf.f2 (by omega), leaves := hf.f4 (by omega) }
  refine (find72 (prg_of hr hok hl H hb) hrs (by omega) (fun s hs => by
    obtain ⟨k, hk⟩ := List.getElem?_of_mem hs
    have := hK.rows.sub hk
    exact okI_of (by omega) (by omega)) hne (H.blk (b := b0 + 1 + 1 + 1) (by simp)) (H.blk (b := b0) (by simp)) (fuelN l) (by unfold fuelN; omega) _ hK.seenN).mono ?_
  rintro e w' ⟨rfl, u⟩
  refine ⟨_, rfl, H.u.trans u, (H.upd u).blk (b := E.1) (o := E.2) (by simp), fun h0 => ?_, fun h0 => ⟨bs, _, subsP l, H.upd u, hb, (by intro h; omega), fun _ => rfl, ⟨fun _ => hf.f1 (by omega), fun _ => hf.f2 (by omega), fun _ => hf3, fun _ => hf.f4 (by omega), fun _ a ha => by simpa using firstP_neg.1 (Int.not_le.2 h0) a ha, (by intro h; omega)⟩⟩⟩
  unfold checkP
  rw [if_neg (by omega), if_neg (by omega), if_neg (firstP_neg.2 fun a ha => by simp [hf.f1 (by omega) a ha]), if_neg (firstP_neg.2 (hf.f2 (by omega))), if_neg (by omega), if_neg (firstP_neg.2 (hf.f4 (by omega))), if_pos h0]
theorem part5 (h : St w0 b0 A l c E 5 W) : Calls Try.prog 76 #[.pointer (some ⟨b0 + 1 + 1, 0, none⟩)] W (Tells w0 b0 A l c E 5 83) := by
  obtain ⟨bs, vS, ss, H, hb, h2, h3, hf⟩ := h
  obtain rfl := h3 (by omega)
  obtain ⟨AS, cS, rfl, hrs⟩ := H.row
  rw [List.length_map] at H
  have hf3 := hf.f3 (by omega)
  have hS : Straight l := ⟨hne, hf.f1 (by omega), hf.f2 (by omega)⟩
  refine (loop76 (prg_of hr hok hl H hb) hrs (by omega) hne hS.seenC).mono ?_
  rintro e w' ⟨rfl, u⟩
  refine ⟨_, rfl, H.u.trans u, (H.upd u).blk (b := E.1) (o := E.2) (by simp), fun h0 => ?_, fun h0 => ⟨bs, _, subsP l, H.upd u, hb, (by intro h; omega), fun _ => rfl, ⟨fun _ => hf.f1 (by omega), fun _ => hf.f2 (by omega), fun _ => hf3, fun _ => hf.f4 (by omega), fun _ => hf.f5 (by omega), fun _ => Int.not_le.2 h0⟩⟩⟩
  unfold checkP
  rw [if_neg (by omega), if_neg (by omega), if_neg (firstP_neg.2 fun a ha => by simp [hf.f1 (by omega) a ha]), if_neg (firstP_neg.2 (hf.f2 (by omega))), if_neg (by omega), if_neg (firstP_neg.2 (hf.f4 (by omega))), if_neg (firstP_neg.2 fun a ha => by simp [hf.f5 (by omega) a ha]), if_pos h0]
end
end Go.Proofs.Ytibghcmkmbamjaa
