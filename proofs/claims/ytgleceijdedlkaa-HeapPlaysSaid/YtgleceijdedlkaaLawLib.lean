/- Slices that came in; the end of a law's row. -/
import Derived.Test.YtgleceijdedlkaaMapLib
import Derived.ProofKit
import Derived.OpenShut
import Derived.ShutString
import Derived.ChangeOld
import Derived.ChangeSame
import Derived.Below
import Derived.SizedLaws
import Derived.Deep.Slices
import Derived.Deep.Fields
import Derived.Carry
namespace Go.Proofs.Ytgleceijdedlkaa
open Go.RowKit Go.ChangeShapes Go.WideShapes Go.ChangeAt
set_option linter.unusedVariables false
set_option linter.unusedSectionVars false
/-- The cells of a slice's rows, of k cells each. -/
def RowsAt (w : World) (A : Option Addr) (k : Nat) (l : List (List Value)) : Prop :=
  ∀ i r, l[i]? = some r → ∃ b off, A = some ⟨b, off, none⟩ ∧ ∀ j v, r[j]? = some v → w.cell? ⟨b, off + i * k + j, none⟩ = some v
theorem RowsAt.kept {w w' : World} {A : Option Addr} {k : Nat} {l : List (List Value)} {S : List Nat} (h : RowsAt w A k l) (u : Upd S w w') (hS : ∀ b off, A = some ⟨b, off, none⟩ → b ∉ S) : RowsAt w' A k l := by
  intro i r hi
  obtain ⟨b, off, hA, hc⟩ := h i r hi
  exact ⟨b, off, hA, fun j v hj => u.cell (hc j v hj) (hS b off hA)⟩
theorem RowsAt.keep {w w' : World} {A : Option Addr} {k : Nat} {l : List (List Value)} (h : RowsAt w A k l) (u : Upd [] w w') : RowsAt w' A k l := h.kept u (by simp)
theorem exists_list {α : Type} (p : Nat → α → Prop) : ∀ n : Nat, (∀ i, i < n → ∃ x, p i x) → ∃ l : List α, l.length = n ∧ ∀ i x, l[i]? = some x → p i x
  | 0, _ => ⟨[], rfl, fun i x h => by simp at h⟩
  | n + 1, h => by
    obtain ⟨l, h1, h2⟩ := exists_list p n (fun i hi => h i (by omega))
    obtain ⟨x, hx⟩ := h n (by omega)
    refine ⟨l ++ [x], by simp [h1], fun i y hy => ?_⟩
    by_cases hi : i < n
    · rw [List.getElem?_append_left (by omega)] at hy
      exact h2 i y hy
    · have hlt : i < (l ++ [x]).length := (List.getElem?_eq_some_iff.1 hy).1
      obtain rfl : i = n := by simp [h1] at hlt; omega
      rw [List.getElem?_append_right (by omega)] at hy
      simp [h1] at hy
      exact hy ▸ hx
theorem addr_add (b off m : Nat) : (⟨b, off, none⟩ : Addr).add m = ⟨b, off + m, none⟩ := by
  unfold Addr.add
  split
  · rename_i h; subst h; rfl
  · rfl
theorem spot_none {w : World} {a : Addr} {v : Value} (h : w.cell? a = some v) : a.spot = none := by
  unfold World.cell? at h
  split at h
  · split at h
    · cases h
    · cases hs : a.spot <;> simp_all
  · cases h
section
variable {H : Type} {enc : TypeId × Value → H} {P : Program} {w : World} {base : Nat} {spare : Nat → Bool} {held : Bool}
open Go.Deep in
theorem open_rows {t e : TypeId} {fs : Array Field} {fuel : Nat} {cs : List Value} {x : DataW H × List MemPlace} (ht : P.underlying t = some (.slice e)) (he : P.underlying e = some (.struct fs))
    (hone : oneCellFields P fs = true) (hC : P.cellsOf e = fs.size) (hpos : 0 < fs.size) (h : DataW.trod enc P w base spare held fuel t cs = some x) :
    ∃ (A : Option Addr) (len cap : Nat), cs = [.slice A len cap] ∧ len ≤ cap ∧ cap ≤ maxLen ∧ ∀ i, i < len → ∃ (b off : Nat) (n : Nat), A = some ⟨b, off, none⟩ ∧
        ∀ (j : Nat) (f : Field), fs[j]? = some f → ∃ (v : Value) (y : DataW H × List MemPlace), w.cell? ⟨b, off + i * fs.size + j, none⟩ = some v ∧ DataW.trod enc P w base spare held n f.type [v] = some y := by
  rcases open_slice ht h with ⟨rfl, rfl⟩ | ⟨a, len, cap, m, n, D, Pl, hcs, hb, hl, hm, hmm, hx, hi⟩
  · exact ⟨none, 0, 0, rfl, Nat.le_refl _, by unfold maxLen; omega, fun i hi => absurd hi (by omega)⟩
  · refine ⟨some a, len, cap, hcs, hl, hm, fun i hil => ?_⟩
    have hsp : a.spot = none := by
      have h0m : 0 < m := by rw [hmm]; split <;> omega
      obtain ⟨cs', hc, _⟩ := hi 0 h0m
      rw [hC] at hc
      obtain ⟨_, hcl, hat⟩ := World.cells?_some hc
      have h2 := hat 0 hpos
      have h3 : w.cell? a = cs'[0]? := by simpa [Addr.add] using h2
      have h4 : cs'[0]? = some (cs'[0]'(by omega)) := List.getElem?_eq_getElem (by omega)
      exact spot_none (h3.trans h4)
    obtain ⟨b, off, sp⟩ := a
    simp only at hsp
    subst hsp
    have him : i < m := by rw [hmm]; split <;> omega
    obtain ⟨cs', hc, ht'⟩ := hi i him
    rw [hC] at hc
    obtain ⟨ys, n', hn', hy, hlen, hyl, hf⟩ := DataW.trod_struct he ht'
    obtain ⟨_, hcl, hat⟩ := World.cells?_some hc
    refine ⟨b, off, n', rfl, fun j f hj => ?_⟩
    obtain ⟨ho, hk⟩ := hone_of hone j f hj
    have hjl : j < fs.size := (Array.getElem?_eq_some_iff.1 hj).1
    have hcell := hat j hjl
    have hv : cs'[j]? = some (cs'[j]'(by omega)) := List.getElem?_eq_getElem (by omega)
    have h1 := hf j f hj
    rw [ho, hk] at h1
    have hone' : (cs'.drop j).take 1 = [cs'[j]'(by omega)] := by
      rw [List.drop_eq_getElem_cons (by omega)]
      rfl
    rw [hone'] at h1
    have hys : ys[j]? = some (ys[j]'(by omega)) := List.getElem?_eq_getElem (by omega)
    refine ⟨_, _, ?_, h1.trans hys⟩
    rw [addr_add, addr_add] at hcell
    rw [hcell, hv]
end
section
variable {H : Type} {enc : TypeId × Value → H} {P : Program} {w : World} {base : Nat} {spare : Nat → Bool} {held : Bool}
open Go.Deep in
/-- A slice of bytes that came in. -/
theorem open_byteslice {t e : TypeId} {fuel : Nat} {cs : List Value} {x : DataW H × List MemPlace} (ht : P.underlying t = some (.slice e)) (he : P.underlying e = some (.int .u8))
    (hC : P.cellsOf e = 1) (h : DataW.trod enc P w base spare held fuel t cs = some x) :
    ∃ (A : Option Addr) (cap : Nat) (l : List UInt8), cs = [.slice A l.length cap] ∧ l.length ≤ cap ∧ cap ≤ maxLen ∧ ∀ i b, l[i]? = some b → ∃ g off, A = some ⟨g, off, none⟩ ∧ w.cell? ⟨g, off + i, none⟩ = some (.int .u8 (b.toNat : Int)) := by
  rcases open_slice ht h with ⟨rfl, rfl⟩ | ⟨a, len, cap, m, n, D, Pl, hcs, hb, hl, hm, hmm, hx, hi⟩
  · exact ⟨none, 0, [], rfl, Nat.le_refl _, by unfold maxLen; omega, fun i b hi => by simp at hi⟩
  · obtain ⟨l, hlen, hl'⟩ := exists_list (α := UInt8) (fun i b => a.spot = none ∧ w.cell? (a.add i) = some (.int .u8 (b.toNat : Int))) len (fun i hil => by
      have him : i < m := by rw [hmm]; split <;> omega
      have h0m : 0 < m := by omega
      have hcell : ∀ j, j < m → ∃ q, w.cell? (a.add j) = some (.int .u8 q) ∧ (Lit.int .u8 q).wf = true := fun j hj => by
        obtain ⟨cs', hc, ht'⟩ := hi j hj
        rw [hC, Nat.mul_one] at hc
        obtain ⟨q, hq, _, hw⟩ := DataW.trod_int he ht'
        obtain ⟨_, hcl, hat⟩ := World.cells?_some hc
        have h2 := hat 0 (by omega)
        rw [hq] at h2
        have h3 : (a.add j).add 0 = a.add j := by simp [Addr.add]
        rw [h3] at h2
        exact ⟨q, h2, hw⟩
      obtain ⟨q0, h0, _⟩ := hcell 0 h0m
      obtain ⟨q, h1, hw⟩ := hcell i him
      have hsp : a.spot = none := by
        have : a.add 0 = a := by simp [Addr.add]
        rw [this] at h0
        exact spot_none h0
      have hq : 0 ≤ q ∧ q ≤ 255 := by
        have w2' : IntKind.u8.min ≤ q ∧ q ≤ IntKind.u8.max := by simpa [Lit.wf] using hw
        exact w2'
      refine ⟨UInt8.ofNat q.toNat, hsp, ?_⟩
      rw [h1]
      have : ((UInt8.ofNat q.toNat).toNat : Int) = q := by simp [UInt8.toNat_ofNat']; omega
      rw [this])
    subst hlen
    refine ⟨some a, cap, l, hcs, hl, hm, fun i b hb' => ?_⟩
    obtain ⟨h1, h2⟩ := hl' i b hb'
    obtain ⟨g, off, sp⟩ := a
    simp only at h1
    subst h1
    rw [addr_add] at h2
    exact ⟨g, off, rfl, h2⟩
end
section
variable {H : Type} {enc : TypeId × Value → H} {P : Program}
theorem trodAll_below (hl : laidOutB P = true) {W W' : World} (hb : Below W.heap.size W W') : ∀ (ts : List TypeId) (vs : List Value) (ds : List (DataW H)) (ps : List MemPlace), (∀ t ∈ ts, P.readableRec t = true ∧ t < P.types.size) →
    DataW.TrodAll enc P W 0 (fun _ => true) true ts vs ds ps → (∀ x ∈ ps, x.block < W.heap.size) → DataW.TrodAll enc P W' 0 (fun b => decide (b < W.heap.size)) true ts vs ds ps
  | [], vs, ds, ps, _, h, _ => by
    obtain ⟨rfl, rfl, rfl⟩ := trodAll_nil h
    exact trodAll_mk0
  | t :: ts, vs, ds, ps, ht, h, hlt => by
    obtain ⟨v, vs', d, ds', p, q, rfl, rfl, rfl, h0, r0⟩ := trodAll_cons h
    have h1 := ht t (by simp)
    exact trodAll_cons_mk (Below.trod hl h1.1 h1.2 h0 hb (fun x hx => hlt x (by simp [hx]))) (trodAll_below hl hb ts vs' ds' q (fun t h => ht t (by simp [h])) r0 (fun x hx => hlt x (by simp [hx])))
/-- The end of a law's row: it answers true, and nothing that was there has turned. -/
theorem law_post {f : Func} {s : ChangeSpec} {fresh handsOn : Bool} {W W' : World} {args : Array Value} {ds gs : List (DataW H)} {before : List MemPlace} (hl : laidOutB P = true)
    (hW : DataW.Whole enc P f.params.toList s.vars false W args.toList ds gs before) (hv : s.vars = []) (ht : f.params.toList.all (fun t => P.readableRec t && decide (t < P.types.size)) = true)
    {b : TypeId} (hr : f.resultTypes = #[b]) (hbt : P.underlying b = some .bool) (hs : s.fn H (ds ++ gs) = { results := [.lit (.bool true)], args := ds }) (hb : Below W.heap.size W W') :
    s.post enc P f false fresh handsOn false W args (.bool true) W' := by
  have hW' := hW
  obtain ⟨p, q, hA0, hV, rfl, hfz, hnd⟩ := hW
  rw [hv] at hV
  obtain ⟨rfl, rfl⟩ := trodVars_none hV
  have hlt : ∀ x ∈ p ++ [], x.block < W.heap.size := fun x hx => hW'.lt x hx
  refine ⟨_, _, _, [], p, [], hW', ?_, ?_, ?_, hb.frame _, fun h => by cases h⟩
  · rw [hr, hs]; exact trodAll_mk1 (shut_bool hbt _)
  · rw [hs]; exact trodAll_below hl hb _ _ _ _ (fun t h => by simpa using List.all_eq_true.1 ht t h) hA0 (fun x hx => hlt x (by simp [hx]))
  · rw [hv, hs]; exact rfl
end
end Go.Proofs.Ytgleceijdedlkaa
