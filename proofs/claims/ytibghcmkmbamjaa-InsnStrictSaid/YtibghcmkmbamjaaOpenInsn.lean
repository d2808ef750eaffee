/- An instruction that came in. -/
import Derived.Test.YtibghcmkmbamjaaProg
import Derived.Test.YtibghcmkmbamjaaOpenLib
import Derived.Lib.SmallJoins
namespace Go.Proofs.Ytibghcmkmbamjaa
open Go.RowKit Go.ChangeShapes Go.WideShapes Go.ChangeAt
set_option linter.unusedVariables false
section
variable {H : Type} {enc : TypeId × Value → H} {w : World} {base : Nat} {spare : Nat → Bool} {held : Bool}
theorem u8_range {a : Int} (h : (Lit.int .u8 a).wf = true) : 0 ≤ a ∧ a ≤ 255 := by
  have : IntKind.u8.min ≤ a ∧ a ≤ IntKind.u8.max := by simpa [Lit.wf] using h
  exact this
theorem i16_range {a : Int} (h : (Lit.int .i16 a).wf = true) : -32768 ≤ a ∧ a ≤ 32767 := by
  have : IntKind.i16.min ≤ a ∧ a ≤ IntKind.i16.max := by simpa [Lit.wf] using h
  exact this
theorem i32_range {a : Int} (h : (Lit.int .i32 a).wf = true) : -2147483648 ≤ a ∧ a ≤ 2147483647 := by
  have : IntKind.i32.min ≤ a ∧ a ≤ IntKind.i32.max := by simpa [Lit.wf] using h
  exact this
/-- The numbers of an instruction, as they may be. -/
structure InsnOk (op D S O M : Int) : Prop where
  op0 : 0 ≤ op
  op1 : op ≤ 255
  d0 : 0 ≤ D
  d1 : D ≤ 255
  s0 : 0 ≤ S
  s1 : S ≤ 255
  o0 : -32768 ≤ O
  o1 : O ≤ 32767
  m0 : -2147483648 ≤ M
  m1 : M ≤ 2147483647
set_option maxRecDepth 100000 in
theorem open_insn {r : Reach} {b0 : Nat} {v : Value} {d : DataW H} {p : List MemPlace} (hv : Value.okWide Try.prog w r b0 24 v) (h : DataW.Trod enc Try.prog w base spare held 24 v d p) :
    ∃ op D S O M : Int, v = .agg #[.int .u8 op, .int .u8 D, .int .u8 S, .int .i16 O, .int .i32 M] ∧ InsnOk op D S O M := by
  obtain ⟨cs, rfl, hsz⟩ := okWide_struct Try.underlying24 hv
  have hc : Try.prog.cellsOf 24 = 5 := by kernel_rfl
  rw [hc] at hsz
  obtain ⟨fuel, hf⟩ := h
  have hl : cs.toList.length = 5 := by simpa using hsz
  have hf' : DataW.trod enc Try.prog w base spare held fuel 24 cs.toList = some (d, p) := hf
  obtain ⟨n0, v0, y0, c0, t0, _⟩ := open_field Try.underlying24 hf' (j := 0) rfl (by kernel_rfl) (by rw [hl]; decide)
  obtain ⟨n1, v1, y1, c1, t1, _⟩ := open_field Try.underlying24 hf' (j := 1) rfl (by kernel_rfl) (by rw [hl]; decide)
  obtain ⟨n2, v2, y2, c2, t2, _⟩ := open_field Try.underlying24 hf' (j := 2) rfl (by kernel_rfl) (by rw [hl]; decide)
  obtain ⟨n3, v3, y3, c3, t3, _⟩ := open_field Try.underlying24 hf' (j := 3) rfl (by kernel_rfl) (by rw [hl]; decide)
  obtain ⟨n4, v4, y4, c4, t4, _⟩ := open_field Try.underlying24 hf' (j := 4) rfl (by kernel_rfl) (by rw [hl]; decide)
  obtain ⟨a0, e0, _, g0⟩ := DataW.trod_int Try.underlying5 t0
  obtain ⟨a1, e1, _, g1⟩ := DataW.trod_int Try.underlying5 t1
  obtain ⟨a2, e2, _, g2⟩ := DataW.trod_int Try.underlying5 t2
  obtain ⟨a3, e3, _, g3⟩ := DataW.trod_int Try.underlying22 t3
  obtain ⟨a4, e4, _, g4⟩ := DataW.trod_int Try.underlying21 t4
  cases e0; cases e1; cases e2; cases e3; cases e4
  refine ⟨a0, a1, a2, a3, a4, ?_, ⟨(u8_range g0).1, (u8_range g0).2, (u8_range g1).1, (u8_range g1).2, (u8_range g2).1, (u8_range g2).2, (i16_range g3).1, (i16_range g3).2, (i32_range g4).1, (i32_range g4).2⟩⟩
  congr 1
  apply Array.toList_inj.1
  apply List.ext_getElem?
  intro i
  have hi : ∀ (j : Nat) (v : Value), cs.toList[j]? = some v → ([Value.int .u8 a0, .int .u8 a1, .int .u8 a2, .int .i16 a3, .int .i32 a4] : List Value)[j]? = some v → cs.toList[j]? = ([Value.int .u8 a0, .int .u8 a1, .int .u8 a2, .int .i16 a3, .int .i32 a4] : List Value)[j]? := fun j v h1 h2 => h1.trans h2.symm
  match i with
  | 0 => exact hi 0 _ c0 rfl
  | 1 => exact hi 1 _ c1 rfl
  | 2 => exact hi 2 _ c2 rfl
  | 3 => exact hi 3 _ c3 rfl
  | 4 => exact hi 4 _ c4 rfl
  | i + 5 => rw [List.getElem?_eq_none (by omega)]; rfl
end
end Go.Proofs.Ytibghcmkmbamjaa
