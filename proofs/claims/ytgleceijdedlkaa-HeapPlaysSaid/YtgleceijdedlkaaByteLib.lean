/- Slices of bytes of a program's own: made, copied into, read as a string. -/
import Derived.Test.YtgleceijdedlkaaMapLib
import Derived.Laws.MakeOwn
import Derived.Laws.BytesArg
import Derived.Laws.CopyRow
import Derived.Laws.OwnMore
namespace Go.Proofs.Ytgleceijdedlkaa
open Go.RowKit
set_option linter.unusedVariables false
set_option linter.unusedSimpArgs false
/-- A byte in memory. -/
def bcell (b : UInt8) : Value := .int .u8 (b.toNat : Int)
/-- Bytes as a string. -/
def bstr (l : List UInt8) : ByteArray := ⟨l.toArray⟩
theorem bstr_data (s : ByteArray) : bstr s.data.toList = s := by cases s; simp [bstr]
theorem bstr_inj {l m : List UInt8} (h : bstr l = bstr m) : l = m := by
  have := congrArg (fun s : ByteArray => s.data.toList) h
  simpa [bstr] using this
theorem bstr_size (l : List UInt8) : (bstr l).size = l.length := by simp [bstr, ByteArray.size]
/-- Block b holds these bytes (its elements are of type e). -/
def BytesAt (e : TypeId) (w : World) (b : Nat) (l : List UInt8) : Prop := w.heap[b]? = some (.cells (l.map bcell).toArray e (0, 0))
variable {e : TypeId} {w w' : World} {b : Nat} {l : List UInt8} {P : Program}
theorem BytesAt.cell (h : BytesAt e w b l) (i : Nat) : w.cell? ⟨b, i, none⟩ = (l[i]?).map bcell := by
  rw [cell_of h]; simp
theorem BytesAt.lt (h : BytesAt e w b l) : b < w.heap.size := lt_of_heap h
theorem BytesAt.kept {S : List Nat} (h : BytesAt e w b l) (u : Upd S w w') (hb : b ∉ S) : BytesAt e w' b l := u.heap h hb
theorem strOfNums_bytes (l : List UInt8) : strOfNums (l.map fun b => (b.toNat : Int)) = bstr l := by
  simp [strOfNums, bstr, Function.comp_def]
theorem BytesAt.conv (h : BytesAt e w b l) {src dst : TypeId} (hs : P.underlying src = some (.slice e)) (he : P.underlying e = some (.int .u8)) (hd : P.underlying dst = some .string) (off len cap : Nat) (hl : off + len ≤ l.length) :
    (convert src dst (.slice (some ⟨b, off, none⟩) len cap)).run P w = .ok (.string (bstr ((l.drop off).take len))) w := by
  have := run_convert_bytes_arg w src e hs he b off len cap (((l.drop off).take len).map fun b => (b.toNat : Int)) (by simp; omega) (fun i hi => by
    rw [h.cell]
    have h1 : l[off + i]? = some (l[off + i]'(by omega)) := List.getElem?_eq_getElem (by omega)
    rw [h1]
    have h2 : ((l.drop off).take len)[i]? = some (l[off + i]'(by omega)) := by
      rw [List.getElem?_take, if_pos hi, List.getElem?_drop, h1]
    show _ = some (Value.int .u8 _)
    rw [List.getD_eq_getElem?_getD, List.getElem?_map, h2]
    rfl) dst hd
  rw [this, strOfNums_bytes]
/-- Bytes written over others, from o on. -/
def over (l : List UInt8) (o : Nat) (m : List UInt8) : List UInt8 := l.take o ++ m ++ l.drop (o + m.length)
theorem over_length (l : List UInt8) (o : Nat) (m : List UInt8) (h : o + m.length ≤ l.length) : (over l o m).length = l.length := by
  simp [over]; omega
theorem setRow_upd {w : World} {g : Nat} {cur cs : Array Value} {t : TypeId} {fr : Nat × Nat} (hg : w.heap[g]? = some (.cells cur t fr)) :
    Upd [g] w (w.setRow g cs) ∧ (w.setRow g cs).heap[g]? = some (.cells cs t fr) ∧ (w.setRow g cs).heap.size = w.heap.size := by
  have hlt := lt_of_heap hg
  refine ⟨⟨rfl, rfl, rfl, by simp [World.setRow], fun i hi hm => ?_⟩, ?_, by simp [World.setRow]⟩
  · simp only [List.mem_singleton] at hm
    simp [World.setRow, Array.getElem?_modify, Ne.symm hm]
  · simp [World.setRow, Array.getElem?_modify, hg]
theorem BytesAt.copy (h : BytesAt e w b l) {dT sT : TypeId} (hu : P.underlying dT = some (.slice e)) (hs : (P.info? e).map (·.size) = some 1) (ty : TypeId) (off len cap : Nat) (s : ByteArray) (hsz : s.size ≤ len) (hl : off + len ≤ l.length) :
    ∃ w', (Builtin.copy_ #[dT, sT] ty #[.slice (some ⟨b, off, none⟩) len cap, .string s]).run P w = .ok (.int .i64 (s.size : Int)) w' ∧ BytesAt e w' b (over l off s.data.toList) ∧ Upd [b] w w' ∧ w'.heap.size = w.heap.size := by
  have hsl : s.data.toList.length = s.size := rfl
  have hst := run_storeCells_at P b off e (s.data.toList.map bcell) 0 _ w h (by simp only [List.length_map, hsl, List.size_toArray]; omega) (fun v hv => by obtain ⟨x, _, rfl⟩ := List.mem_map.1 hv; rfl)
  have hmin : Nat.min s.size len = s.size := Nat.min_eq_left hsz
  obtain ⟨u1, u2, u3⟩ := setRow_upd (cs := (((l.map bcell).toArray).toList.take (off + 0) ++ s.data.toList.map bcell ++ ((l.map bcell).toArray).toList.drop (off + 0 + (s.data.toList.map bcell).length)).toArray) h
  refine ⟨_, ?_, ?_, u1, u3⟩
  · cases hq : P.info? e with
    | none => simp [hq] at hs
    | some i =>
      have hi : i.size = 1 := by simpa [hq] using hs
      have hx : (s.extract 0 s.size).data.map (fun b => Value.int .u8 (b.toNat : Int)) = (s.data.toList.map bcell).toArray := by
        rw [ByteArray.extract_zero_size]
        show s.data.map bcell = _
        rw [← List.map_toArray]
      simp only [Nat.add_zero] at hst
      simp only [Builtin.copy_, run_underlying hu, Builtin.lenOf, Builtin.firstCells, sizeOf, typeInfo, hq, hi, hmin, goInt, Sem.run_bind, Result.andThen_ok, Sem.run_pure, hx, List.getElem?_toArray, List.getElem?_cons_zero, List.getElem?_cons_succ, run_program, hst, Nat.add_zero]
  · unfold BytesAt
    rw [u2]
    simp [over, hsl, List.map_take, List.map_drop]
theorem made_bytes (n : Nat) : madeCells (Value.int .u8 0).cells n = ((List.replicate n (0 : UInt8)).map bcell).toArray := by
  apply Array.ext
  · simp [madeCells]
  · intro i h1 h2
    simp [madeCells, Value.cells, bcell, Nat.mod_one]
theorem make_bytes {t : TypeId} (ht : P.underlying t = some (.slice e)) (hi : (P.info? e).map (fun i => (i.zero, i.size, i.bytes)) = some (some (.int .u8 0), 1, 1)) (w : World) (n : Int) (h0 : 0 ≤ n) (h1 : n ≤ 281474976710656) :
    (Instr.makeSlice t (.int .i64 n) (.int .i64 n)).run P w = .ok (.slice (some ⟨w.heap.size, 0, none⟩) n.toNat n.toNat) (w.alloc (.cells ((List.replicate n.toNat (0 : UInt8)).map bcell).toArray e (0, 0))) := by
  cases hq : P.info? e with
  | none => simp [hq] at hi
  | some i =>
    simp only [hq, Option.map_some, Option.some.injEq, Prod.mk.injEq] at hi
    obtain ⟨hz, hs, hb⟩ := hi
    have := run_make (P := P) w t e i _ ht hq hz .i64 .i64 n n h0 (Int.le_refl _) (by rw [hb]; omega) (by omega)
    rw [this, hs, Nat.mul_one, made_bytes]
theorem BytesAt.made (w : World) (n : Nat) : BytesAt e (w.alloc (.cells ((List.replicate n (0 : UInt8)).map bcell).toArray e (0, 0))) w.heap.size (List.replicate n 0) := heap_alloc_new _ _
theorem BytesAt.set (h : BytesAt e w b l) (i : Nat) (c : UInt8) : BytesAt e (w.setCell ⟨b, i, none⟩ (bcell c)) b (l.set i c) := by
  have := heap_setCell_same h i (bcell c)
  unfold BytesAt
  rw [this, List.map_set]
  simp
theorem BytesAt.frozen (h : BytesAt e w b l) (i : Nat) : w.frozen? ⟨b, i, none⟩ = false := frozen_of h i
end Go.Proofs.Ytgleceijdedlkaa
