/- owns: a type in a table, and its fields, stored. -/
import Derived.Test.YtojjjkeciiieeaaOLaw1
namespace Go.Proofs.Ytojjjkeciiieeaa
open Go.RowKit
set_option linter.unusedVariables false
set_option linter.unusedSimpArgs false
set_option linter.unusedSectionVars false
theorem flatten_set3 (x y z : Value) : ∀ {l : List (List Value)}, (∀ r ∈ l, r.length = 3) → ∀ {i : Nat}, i < l.length → (l.set i [x, y, z]).flatten = ((l.flatten.set (i * 3) x).set (i * 3 + 1) y).set (i * 3 + 2) z
  | [], _, i, h => by simp at h
  | r :: l, h, 0, _ => by
    have hr : r.length = 3 := h r (by simp)
    obtain ⟨a, b, c, rfl⟩ : ∃ a b c, r = [a, b, c] := by
      match r, hr with
      | [a, b, c], _ => exact ⟨a, b, c, rfl⟩
    simp
  | r :: l, h, i + 1, hi => by
    have hr : r.length = 3 := h r (by simp)
    obtain ⟨a, b, c, rfl⟩ : ∃ a b c, r = [a, b, c] := by
      match r, hr with
      | [a, b, c], _ => exact ⟨a, b, c, rfl⟩
    have := flatten_set3 x y z (l := l) (fun r hr => h r (by simp [hr])) (i := i) (by simpa using hi)
    have e : (i + 1) * 3 = i * 3 + 1 + 1 + 1 := by omega
    rw [e]
    simp only [List.set_cons_succ, List.flatten_cons, this, List.cons_append, List.nil_append]
def set3 (w : World) (b o : Nat) (x y z : Value) : World := ((w.setCell ⟨b, o, none⟩ x).setCell ⟨b, o + 1, none⟩ y).setCell ⟨b, o + 2, none⟩ z
theorem rowR_set3 {e : TypeId} {w : World} {N : Nat → Prop} {b off n c : Nat} {l : List (List Value)} (h : rowR e 3 (.slice (some ⟨b, off, none⟩) n c) l w N) {i : Nat} (hi : i < l.length) (x y z : Value) :
    off = 0 ∧ N b ∧ (∀ o, w.frozen? ⟨b, o, none⟩ = false) ∧ rowR e 3 (.slice (some ⟨b, off, none⟩) n c) (l.set i [x, y, z]) (set3 w b (off + i * 3) x y z) N := by
  obtain ⟨h1, h2, h3⟩ := h
  have hN := h3 b rfl
  rcases h1.2 with ⟨e0, _⟩ | ⟨g, cap, cur, e0, _, hg, hc, hm, hcs, ht⟩
  · cases e0
  · cases e0
    refine ⟨rfl, hN, fun o => frozen_of hg o, ⟨⟨?_, .inr ⟨b, c, ((cur.setIfInBounds (0 + i * 3) x).setIfInBounds (0 + i * 3 + 1) y).setIfInBounds (0 + i * 3 + 2) z, by simp, Nat.zero_le _, ?_, by simpa using hc, hm, ?_, ?_⟩⟩, fun r hr => ?_, h3⟩⟩
    · rw [flatten_len (k := 3)]
      intro r hr
      rcases List.mem_or_eq_of_mem_set hr with hr | rfl
      · exact h2 r hr
      · rfl
    · exact heap_setCell_same (heap_setCell_same (heap_setCell_same hg (0 + i * 3) x) (0 + i * 3 + 1) y) (0 + i * 3 + 2) z
    · simp [hcs]
    · rw [flatten_set3 x y z h2 hi, ← ht]
      simp [List.take_set]
    · rcases List.mem_or_eq_of_mem_set hr with hr | rfl
      · exact h2 r hr
      · rfl
theorem SepK.set3 {w0 w : World} {K : List (Nat × Obj)} {T : Res} [Good T] {e : TypeId} {b off n c : Nat} {l : List (List Value)} (H : SepK w0 w K (star (rowR e 3 (.slice (some ⟨b, off, none⟩) n c) l) T)) {i : Nat} (hi : i < l.length) (x y z : Value) :
    SepK w0 (Ytojjjkeciiieeaa.set3 w b (off + i * 3) x y z) K (star (rowR e 3 (.slice (some ⟨b, off, none⟩) n c) (l.set i [x, y, z])) T) :=
  H.step fun N hR hN => by
    obtain ⟨-, hb, -, hs⟩ := rowR_set3 hR hi x y z
    exact ⟨hs, .of1 ((((Upd.refl [b] w).setCell _ _ (.inl (by simp))).setCell _ _ (.inl (by simp))).setCell _ _ (.inl (by simp))) hb⟩
theorem SepK.free3 {w0 w : World} {K : List (Nat × Obj)} {T : Res} [Good T] {e : TypeId} {b off n c : Nat} {l : List (List Value)} (H : SepK w0 w K (star (rowR e 3 (.slice (some ⟨b, off, none⟩) n c) l) T)) {i : Nat} (hi : i < l.length) : off = 0 ∧ (∀ o, w.frozen? ⟨b, o, none⟩ = false) ∧ b < w.heap.size := by
  obtain ⟨N, hN⟩ := H.get
  obtain ⟨h1, h2, h3, h4⟩ := rowR_set3 hN hi (.int .i64 0) (.int .i64 0) (.int .i64 0)
  exact ⟨h1, h3, ownsRow_lt hN.1 rfl⟩
theorem info43 : (Try.prog.info? 43).map (fun i => (i.zero, i.size, i.bytes)) = some (some (.agg #[.string ⟨#[]⟩, .int .u8 0, .int .i64 0, .int .i64 0, .int .i64 0]), 5, 48) := by kernel_rfl
theorem encF_len (fs : List Fld) : ∀ r ∈ fs.map encF, r.length = 5 := fun r hr => by
  obtain ⟨f, _, rfl⟩ := List.mem_map.1 hr
  rfl
theorem encF_one (fs : List Fld) : ∀ r ∈ fs.map encF, ∀ u ∈ r, u.oneCell' = true := fun r hr u hu => by
  obtain ⟨f, _, rfl⟩ := List.mem_map.1 hr
  simp [encF] at hu
  rcases hu with rfl | rfl | rfl | rfl | rfl <;> rfl
theorem cell_five_new (w : World) (f : Fld) : ∀ j u, (encF f)[j]? = some u → (w.alloc (.cells (encF f).toArray 43)).cell? ((⟨w.heap.size, 0, none⟩ : Addr).add j) = some u := by
  intro j u hj
  have hb := heap_alloc_new w (.cells (encF f).toArray 43)
  match j, hj with
  | 0, hj => cases hj; rw [addr_add]; rw [cell_of hb]; rfl
  | 1, hj => cases hj; rw [addr_add]; rw [cell_of hb]; rfl
  | 2, hj => cases hj; rw [addr_add]; rw [cell_of hb]; rfl
  | 3, hj => cases hj; rw [addr_add]; rw [cell_of hb]; rfl
  | 4, hj => cases hj; rw [addr_add]; rw [cell_of hb]; rfl
/-- The rows of a table tell its types. -/
def TabRows (w : World) (rows : List (List Value)) (t : Tab) : Prop := rows.length = t.length ∧ ∀ (i : Nat) (ty : Ty), t[i]? = some ty → ∃ Af cf, rows[i]? = some (tyRow ty (.slice Af ty.fs.length cf)) ∧ RowsAt w Af 5 (ty.fs.map encF)
theorem TabRows.keep {w w' : World} {rows : List (List Value)} {t : Tab} (h : TabRows w rows t) (u : Upd [] w w') : TabRows w' rows t := ⟨h.1, fun i ty hi => by
  obtain ⟨Af, cf, h1, h2⟩ := h.2 i ty hi
  exact ⟨Af, cf, h1, h2.keep u⟩⟩
theorem OwnTab.rows {w0 w : World} {K : List (Nat × Obj)} {T : Res} {rows : List (List Value)} {t : Tab} (h : OwnTab K rows t) (H : SepK w0 w K T) : TabRows w rows t := ⟨h.1, fun i ty hi => by
  obtain ⟨fv, h1, h2⟩ := h.2 i ty hi
  obtain ⟨Af, cf, rfl, h3⟩ := h2.rows H
  exact ⟨Af, cf, h1, h3⟩⟩
theorem TabRows.set {w : World} {rows : List (List Value)} {t : Tab} (h : TabRows w rows t) {a : Nat} (ha : a < t.length) {ty : Ty} {Af : Option Addr} {cf : Nat} (hr : RowsAt w Af 5 (ty.fs.map encF)) : TabRows w (rows.set a (tyRow ty (.slice Af ty.fs.length cf))) (t.set a ty) := by
  refine ⟨by simp [h.1], fun i ty' hi => ?_⟩
  by_cases e : a = i
  · subst e
    rw [List.getElem?_set_self ha] at hi
    cases hi
    exact ⟨Af, cf, by rw [List.getElem?_set_self (by rw [h.1]; exact ha)], hr⟩
  · rw [List.getElem?_set_ne e] at hi
    obtain ⟨Af', cf', h1, h2⟩ := h.2 i ty' hi
    exact ⟨Af', cf', by rw [List.getElem?_set_ne e]; exact h1, h2⟩
theorem TabRows.tabAt {w0 w : World} {K : List (Nat × Obj)} {T : Res} {v : Value} {rows : List (List Value)} {t : Tab} (h : TabRows w rows t) (H : SepK w0 w K (star (rowR 41 3 v rows) T)) : TabAt w v t := by
  obtain ⟨A, c, rfl, hr⟩ := H.row
  refine ⟨A, c, by rw [h.1], fun i ty hi => ?_⟩
  obtain ⟨Af, cf, h1, hrf⟩ := h.2 i ty hi
  obtain ⟨b, off, e, hc⟩ := hr i _ h1
  exact ⟨b, off, Af, cf, e, hc 0 _ rfl, hc 1 _ rfl, hc 2 _ rfl, hrf⟩
theorem fieldsOf_set {t : Tab} {a : Nat} (ha : a < t.length) (ty : Ty) (i : Int) : fieldsOf (t.set a ty) i = if i = (a : Int) then ty.fs else fieldsOf t i := by
  unfold fieldsOf
  by_cases e : i = (a : Int)
  · subst e
    rw [if_pos rfl, if_pos (by omega)]
    simp [ha]
  · rw [if_neg e]
    by_cases h0 : 0 ≤ i
    · rw [if_pos h0, if_pos h0, List.getElem?_set_ne (by omega)]
    · rw [if_neg h0, if_neg h0]
theorem edge_more {n : Nat} {t : Tab} (h : EdgeT t n none) {a : Nat} {ty : Ty} (ha : t[a]? = some ty) (f : Fld) (hk : okk f.kind = true) (hf : 0 ≤ f.of ∧ f.of < (n : Int)) : EdgeT (t.set a ⟨ty.name, ty.size, ty.fs ++ [f]⟩) n (some ((a : Int), f.of)) := by
  have hal := (List.getElem?_eq_some_iff.1 ha).1
  refine ⟨by simp [h.1], fun i k => ?_⟩
  rw [mem_adj, List.length_set, fieldsOf_set hal]
  have h1 : k ∈ adj t i ↔ _ := h.2 i k
  rw [mem_adj] at h1
  by_cases e : i = (a : Int)
  · subst e
    rw [if_pos rfl]
    rw [fieldsOf_at ha] at h1
    constructor
    · rintro ⟨h2, g, hg, h3, h4⟩
      rcases List.mem_append.1 hg with hg | hg
      · exact .inl (Or.resolve_right (h1.1 ⟨h2, g, hg, h3, h4⟩) (by simp))
      · obtain rfl := List.mem_singleton.1 hg
        exact .inr (by rw [h4])
    · rintro (h2 | h2)
      · obtain ⟨h3, g, hg, h4⟩ := h1.2 (.inl h2)
        exact ⟨h3, g, List.mem_append_left _ hg, h4⟩
      · simp only [Option.some.injEq, Prod.mk.injEq, true_and] at h2
        subst h2
        exact ⟨by rw [h.1]; exact hf, f, List.mem_append_right _ (by simp), hk, rfl⟩
  · rw [if_neg e]
    constructor
    · intro h2
      exact .inl (Or.resolve_right (h1.1 h2) (by simp))
    · rintro (h2 | h2)
      · exact h1.2 (.inl h2)
      · simp only [Option.some.injEq, Prod.mk.injEq] at h2
        exact absurd h2.1.symm e
theorem set_fits {t : Tab} (h : Fits t) (a : Nat) {ty : Ty} (hy : ty.fs.length ≤ 1000) : Fits (t.set a ty) := ⟨by simpa using h.1, fun x hx => by
  rcases List.mem_or_eq_of_mem_set hx with hx | rfl
  · exact h.2 x hx
  · exact hy⟩
end Go.Proofs.Ytojjjkeciiieeaa
