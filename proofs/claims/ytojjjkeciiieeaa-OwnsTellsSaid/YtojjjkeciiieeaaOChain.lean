/- owns: a chain of types. -/
import Derived.Test.YtojjjkeciiieeaaODepth3
namespace Go.Proofs.Ytojjjkeciiieeaa
open Go.RowKit
set_option linter.unusedVariables false
set_option linter.unusedSimpArgs false
set_option linter.unusedSectionVars false
def tyRow (ty : Ty) (fv : Value) : List Value := [.string ty.name, .int .i64 ty.size, fv]
/-- A type's fields, in a block of the caller's own. -/
def FldIn (K : List (Nat × Obj)) (fv : Value) (fs : List Fld) : Prop := (fv = .slice none 0 0 ∧ fs = []) ∨ ∃ g f c, fv = .slice (some ⟨g, 0, none⟩) 1 c ∧ fs = [f] ∧ (g, Obj.cells (encF f).toArray 43 (0, 0)) ∈ K
/-- A table of the caller's own. -/
def OwnTab (K : List (Nat × Obj)) (rows : List (List Value)) (t : Tab) : Prop := rows.length = t.length ∧ ∀ (i : Nat) (ty : Ty), t[i]? = some ty → ∃ fv, rows[i]? = some (tyRow ty fv) ∧ FldIn K fv ty.fs
theorem OwnTab.more {K K' : List (Nat × Obj)} {rows : List (List Value)} {t : Tab} (h : OwnTab K rows t) (hK : ∀ p ∈ K, p ∈ K') : OwnTab K' rows t := by
  refine ⟨h.1, fun i ty hi => ?_⟩
  obtain ⟨fv, h1, h2⟩ := h.2 i ty hi
  refine ⟨fv, h1, ?_⟩
  rcases h2 with h2 | ⟨g, f, c, a, b, d⟩
  · exact .inl h2
  · exact .inr ⟨g, f, c, a, b, hK _ d⟩
theorem OwnTab.snoc {K : List (Nat × Obj)} {rows : List (List Value)} {t : Tab} (h : OwnTab K rows t) {ty : Ty} {fv : Value} (hf : FldIn K fv ty.fs) : OwnTab K (rows ++ [tyRow ty fv]) (t ++ [ty]) := by
  refine ⟨by simp [h.1], fun i ty' hi => ?_⟩
  by_cases hlt : i < t.length
  · rw [List.getElem?_append_left hlt] at hi
    obtain ⟨fv', h1, h2⟩ := h.2 i ty' hi
    exact ⟨fv', by rw [List.getElem?_append_left (by rw [h.1]; exact hlt)]; exact h1, h2⟩
  · have hi2 := (List.getElem?_eq_some_iff.1 hi).1
    simp at hi2
    obtain rfl : i = t.length := by omega
    rw [List.getElem?_append_right (by omega)] at hi
    simp at hi
    subst hi
    exact ⟨fv, by rw [List.getElem?_append_right (by rw [h.1]; omega)]; simp [h.1], hf⟩
theorem FldIn.rows {w0 w : World} {K : List (Nat × Obj)} {T : Res} (H : SepK w0 w K T) {fv : Value} {fs : List Fld} (h : FldIn K fv fs) : ∃ Af cf, fv = .slice Af fs.length cf ∧ RowsAt w Af 5 (fs.map encF) := by
  rcases h with ⟨rfl, rfl⟩ | ⟨g, f, c, rfl, rfl, hm⟩
  · exact ⟨none, 0, rfl, fun i r hi => by simp at hi⟩
  · refine ⟨_, c, rfl, fun i r hi => ⟨g, 0, rfl, fun j v hj => ?_⟩⟩
    obtain rfl : i = 0 := by
      have := (List.getElem?_eq_some_iff.1 hi).1
      simp at this
      omega
    simp at hi
    subst hi
    rw [cell_of (H.blk hm)]
    simpa using hj
theorem OwnTab.tabAt {w0 w : World} {K : List (Nat × Obj)} {T : Res} {v : Value} {rows : List (List Value)} {t : Tab} (h : OwnTab K rows t) (H : SepK w0 w K (star (rowR 41 3 v rows) T)) : TabAt w v t := by
  obtain ⟨A, c, rfl, hr⟩ := H.row
  refine ⟨A, c, by rw [h.1], fun i ty hi => ?_⟩
  obtain ⟨fv, h1, h2⟩ := h.2 i ty hi
  obtain ⟨b, off, e, hc⟩ := hr i _ h1
  obtain ⟨Af, cf, rfl, hrf⟩ := h2.rows H
  exact ⟨b, off, Af, cf, e, hc 0 _ rfl, hc 1 _ rfl, hc 2 _ rfl, hrf⟩
def kn : ByteArray := ⟨#[107]⟩
def chF (n : Nat) (rd : Bool) (i : Nat) : List Fld := if i + 1 < n ∨ rd = true then [⟨kn, 1, 0, (((i + 1) % n : Nat) : Int), 0⟩] else []
/-- The first types of a chain. -/
def ChainUpto (n : Nat) (rd : Bool) (m : Nat) (t : Tab) : Prop := t.length = m ∧ ∀ i, i < m → ∃ nm, t[i]? = some ⟨nm, 8, chF n rd i⟩
theorem ChainUpto.snoc {n : Nat} {rd : Bool} {m : Nat} {t : Tab} (h : ChainUpto n rd m t) (nm : ByteArray) : ChainUpto n rd (m + 1) (t ++ [⟨nm, 8, chF n rd m⟩]) := by
  refine ⟨by simp [h.1], fun i hi => ?_⟩
  by_cases hlt : i < m
  · obtain ⟨nm', h1⟩ := h.2 i hlt
    exact ⟨nm', by rw [List.getElem?_append_left (by rw [h.1]; exact hlt)]; exact h1⟩
  · obtain rfl : i = m := by omega
    exact ⟨nm, by rw [List.getElem?_append_right (by rw [h.1]; omega)]; simp [h.1]⟩
theorem info41 : (Try.prog.info? 41).map (fun i => (i.zero, i.size, i.bytes)) = some (some (.agg #[.string ⟨#[]⟩, .int .i64 0, .slice none 0 0]), 3, 48) := by kernel_rfl
theorem cell_three_new (w : World) (x y z : Value) (e : TypeId) : ∀ j u, [x, y, z][j]? = some u → (w.alloc (.cells #[x, y, z] e)).cell? ((⟨w.heap.size, 0, none⟩ : Addr).add j) = some u := by
  intro j u hj
  have hb := heap_alloc_new w (.cells #[x, y, z] e)
  match j, hj with
  | 0, hj => cases hj; rw [addr_add]; rw [cell_of hb]; rfl
  | 1, hj => cases hj; rw [addr_add]; rw [cell_of hb]; rfl
  | 2, hj => cases hj; rw [addr_add]; rw [cell_of hb]; rfl
def ChainDid (n : Nat) (rd : Bool) (w : World) (e : Ending) (w' : World) : Prop := ∃ v rows K t, e = .returned v ∧ SepK w w' K (star (rowR 41 3 v rows) emp) ∧ OwnTab K rows t ∧ ChainUpto n rd n t
set_option maxRecDepth 100000 in
set_option maxHeartbeats 4000000 in
theorem chain20 (n : Nat) (hn : n ≤ 100) (rd : Bool) (w : World) : Calls Try.prog 20 #[.int .i64 (n : Int), .bool rd] w (ChainDid n rd w) := by
  obtain ⟨i0, hi0, hz0, hz1, hz2⟩ := info_parts info41
  have H0 := (SepK.start w).row0 41 3
  go_enter Try.func20, Try.ntmps20
  go_wp2_with fail
  go_loopg [5, 6] n (fun kq v5 v6 w' => ∃ (i : Nat) (rows : List (List Value)) (K : List (Nat × Obj)) (t : Tab), v6 = .int .i64 (i : Int) ∧ kq + i = n ∧ SepK w w' K (star (rowR 41 3 v5 rows) emp) ∧ OwnTab K rows t ∧ ChainUpto n rd i t)
  case atStart => exact ⟨0, [], [], [], rfl, rfl, H0, ⟨rfl, fun i ty h => by simp at h⟩, ⟨rfl, fun i h => by omega⟩⟩
  case round =>
    clear H0
    obtain ⟨i, rows, K, t, rfl, hk, H, hO, hC⟩ := hrel
    by_cases hi : i < n
    · have z1 : decide ((i : Int) < (n : Int)) = true := decide_eq_true (by omega)
      have hrl : rows.length = i := by rw [hO.1, hC.1]
      obtain ⟨ba, hba⟩ : ∃ b : UInt8, ((b.toNat : Nat) : Int) = 97 + (i : Int) % 26 := ⟨UInt8.ofNat (97 + i % 26), by simp [UInt8.toNat_ofNat']; omega⟩
      obtain ⟨bb, hbb⟩ : ∃ b : UInt8, ((b.toNat : Nat) : Int) = 97 + (i : Int) / 26 % 26 := ⟨UInt8.ofNat (97 + i / 26 % 26), by simp [UInt8.toNat_ofNat']; omega⟩
      have hB : BytesAt 5 (wr.alloc (.cells #[.int .u8 (97 + (i : Int) % 26), .int .u8 (97 + (i : Int) / 26 % 26)] 5)) wr.heap.size [ba, bb] := by
        unfold BytesAt
        rw [heap_alloc_new]
        simp [bcell, hba, hbb]
      have hcv := hB.conv (P := Try.prog) Try.underlying36 Try.underlying5 Try.underlying9 0 2 2 (by simp)
      rw [List.drop_zero, List.take_of_length_le (by simp)] at hcv
      have hns : ((bstr [ba, bb]).size : Int) = 2 := by rw [bstr_size]; rfl
      clear hba hbb hB
      generalize bstr [ba, bb] = nm0 at hcv hns
      have HC : Unit → ChainUpto n rd i t := fun _ => hC
      have hcn : chF n rd i = chF n rd i := rfl
      have H1 := H.alloc (.cells #[.int .u8 (97 + (i : Int) % 26), .int .u8 (97 + (i : Int) / 26 % 26)] 5)
      have H2 := H1.alloc (.cells #[.string (⟨#[116]⟩ ++ nm0), .int .i64 8, .slice none 0 0] 41)
      rw [alloc_size] at H2
      by_cases hf : i + 1 < n ∨ rd = true
      · have hfe : chF n rd i = [⟨kn, 1, 0, (((i + 1) % n : Nat) : Int), 0⟩] := if_pos hf
        have hff : decide ((i : Int) + 1 < (n : Int)) = true ∨ (decide ((i : Int) + 1 < (n : Int)) = false ∧ rd = true) := by
          by_cases h : i + 1 < n
          · exact .inl (decide_eq_true (by omega))
          · exact .inr ⟨decide_eq_false (by omega), hf.resolve_left h⟩
        clear hf hC
        have hmod : ((i : Int) + 1) % (n : Int) = (((i + 1) % n : Nat) : Int) := by push_cast; rfl
        have hn0 : (n : Int) ≠ 0 := by omega
        have hn1 : (1 : Int) ≤ (n : Int) := by omega
        generalize (((i + 1) % n : Nat) : Int) = ofv at hmod hfe
        rcases hff with z2 | ⟨z2, rfl⟩
        all_goals
          have G2 := H1.alloc (.cells #[.string (⟨#[116]⟩ ++ nm0), .int .i64 8, .slice (some ⟨wr.heap.size + 1 + 1, 0, none⟩) 1 1] 41)
          rw [alloc_size] at G2
          have G3 := G2.alloc (.cells #[.string ⟨#[107]⟩, .int .u8 1, .int .i64 0, .int .i64 ofv, .int .i64 0] 43)
          rw [alloc_size, alloc_size] at G3
          have G4 := G3.alloc (.cells #[.string (⟨#[116]⟩ ++ nm0), .int .i64 8, .slice (some ⟨wr.heap.size + 1 + 1, 0, none⟩) 1 1] 41)
          rw [alloc_size, alloc_size, alloc_size] at G4
          go_wp2_with (at_builtin; refine wl_append rfl _ _ 22 rfl 41 i0 (.agg #[.string ⟨#[]⟩, .int .i64 0, .slice none 0 0]) 3 48 Try.underlying22 hi0 hz0 hz1 hz2 rfl (by decide) _ _ rfl G4 ⟨wr.heap.size + 1 + 1 + 1, 0, none⟩ 1 (tyRow ⟨⟨#[116]⟩ ++ nm0, 8, [⟨kn, 1, 0, ofv, 0⟩]⟩ (.slice (some ⟨wr.heap.size + 1 + 1, 0, none⟩) 1 1)) rfl rfl (by have := cell_three_new (((wr.alloc (.cells #[.int .u8 (97 + (i : Int) % 26), .int .u8 (97 + (i : Int) / 26 % 26)] 5)).alloc (.cells #[.string (⟨#[116]⟩ ++ nm0), .int .i64 8, .slice (some ⟨wr.heap.size + 1 + 1, 0, none⟩) 1 1] 41)).alloc (.cells #[.string ⟨#[107]⟩, .int .u8 1, .int .i64 0, .int .i64 ofv, .int .i64 0] 43)) (.string (⟨#[116]⟩ ++ nm0)) (.int .i64 8) (.slice (some ⟨wr.heap.size + 1 + 1, 0, none⟩) 1 1) 41; rw [alloc_size, alloc_size, alloc_size] at this; exact this) (fun u hu => by simp [tyRow] at hu; rcases hu with rfl | rfl | rfl <;> rfl) (by unfold maxLen; omega) (by omega) ?_; intro v' w5 H4)
          go_roundg (gk - 1)
          case measure => omega
          case rel => exact ⟨i + 1, _, (wr.heap.size + 1 + 1, Obj.cells (encF ⟨kn, 1, 0, ofv, 0⟩).toArray 43 (0, 0)) :: K, t ++ [⟨⟨#[116]⟩ ++ nm0, 8, [⟨kn, 1, 0, ofv, 0⟩]⟩], by go_num, by omega, H4.drop _ (fun p hp => by rcases List.mem_cons.1 hp with rfl | hp <;> simp [encF, kn, *]), (hO.more (fun p hp => List.mem_cons_of_mem _ hp)).snoc (.inr ⟨wr.heap.size + 1 + 1, ⟨kn, 1, 0, ofv, 0⟩, 1, rfl, rfl, List.mem_cons_self⟩), by rw [← hfe]; exact (HC ()).snoc _⟩
      · have hfe : chF n rd i = [] := if_neg hf
        have z2 : decide ((i : Int) + 1 < (n : Int)) = false := decide_eq_false (by omega)
        have z3 : rd = false := by cases rd <;> simp_all
        subst z3
        have H3 := H2.alloc (.cells #[.string (⟨#[116]⟩ ++ nm0), .int .i64 8, .slice none 0 0] 41)
        rw [alloc_size, alloc_size] at H3
        clear hf hC
        go_wp2_with (at_builtin; refine wl_append rfl _ _ 22 rfl 41 i0 (.agg #[.string ⟨#[]⟩, .int .i64 0, .slice none 0 0]) 3 48 Try.underlying22 hi0 hz0 hz1 hz2 rfl (by decide) _ _ rfl H3 ⟨wr.heap.size + 1 + 1, 0, none⟩ 1 (tyRow ⟨⟨#[116]⟩ ++ nm0, 8, []⟩ (.slice none 0 0)) rfl rfl (by have := cell_three_new ((wr.alloc (.cells #[.int .u8 (97 + (i : Int) % 26), .int .u8 (97 + (i : Int) / 26 % 26)] 5)).alloc (.cells #[.string (⟨#[116]⟩ ++ nm0), .int .i64 8, .slice none 0 0] 41)) (.string (⟨#[116]⟩ ++ nm0)) (.int .i64 8) (.slice none 0 0) 41; rw [alloc_size, alloc_size] at this; exact this) (fun u hu => by simp [tyRow] at hu; rcases hu with rfl | rfl | rfl <;> rfl) (by unfold maxLen; omega) (by omega) ?_; intro v' w5 H4)
        go_roundg (gk - 1)
        case measure => omega
        case rel => exact ⟨i + 1, _, K, t ++ [⟨⟨#[116]⟩ ++ nm0, 8, []⟩], by go_num, by omega, H4.drop K (fun p hp => by simp [hp]), hO.snoc (.inl ⟨rfl, rfl⟩), by rw [← hfe]; exact (HC ()).snoc _⟩
    · have z1 : decide ((i : Int) < (n : Int)) = false := decide_eq_false (by omega)
      obtain rfl : i = n := by omega
      go_wp2_with fail
      go_ret
      exact (Iff.of_eq (ChainDid.eq_1 ..)).2 ⟨_, rows, K, t, rfl, H, hO, hC⟩
end Go.Proofs.Ytojjjkeciiieeaa
