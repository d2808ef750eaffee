/- Own texts, laid one behind the other: OpenInsn, CKind, CPure, COpen, CWalkP. -/
import Derived.Test.YtibghcmkmbamjaaProg
import Derived.Test.YtibghcmkmbamjaaGLib
import Derived.Lib.SmallJoins
import Derived.Test.YtibghcmkmbamjaaPu1
section
namespace Go.Proofs.Ytibghcmkmbamjaa
open Go.RowKit Go.ChangeShapes Go.WideShapes Go.ChangeAt
set_option linter.unusedVariables false
section
variable {H : Type} {enc : TypeId × Value → H} {w : World} {base : Nat} {spare : Nat → Bool} {held : Bool}
theorem u8_range {a : Int} (h : (Lit.int .u8 a).wf = true) : 0 ≤ a ∧ a ≤ 255 := by
  have : IntKind.u8.min ≤ a ∧ a ≤ IntKind.u8.max := by simpa [Lit.wf] using h
  exact this
theorem i16_range {a : Int} (h : (Lit.int .i16 a).wf = true) : -32768 ≤ a ∧ a ≤ 32767 := by
  have : IntKind.i16.min ≤ a ∧ a ≤ IntKind.i16.max := by simpa [Lit.wf] using h
  exact this
theorem i32_range {a : Int} (h : (Lit.int .i32 a).wf = true) : -2147483648 ≤ a ∧ a ≤ 2147483647 := by
  have : IntKind.i32.min ≤ a ∧ a ≤ IntKind.i32.max := by simpa [Lit.wf] using h
  exact this
/-- The numbers of an instruction, as they may be. -/
structure InsnOk (op D S O M : Int) : Prop where
  op0 : 0 ≤ op
  op1 : op ≤ 255
  d0 : 0 ≤ D
  d1 : D ≤ 255
  s0 : 0 ≤ S
  s1 : S ≤ 255
  o0 : -32768 ≤ O
  o1 : O ≤ 32767
  m0 : -2147483648 ≤ M
  m1 : M ≤ 2147483647
set_option maxRecDepth 100000 in
theorem open_insn {r : Reach} {b0 : Nat} {v : Value} {d : DataW H} {p : List MemPlace} (hv : Value.okWide Try.prog w r b0 24 v) (h : DataW.Trod enc Try.prog w base spare held 24 v d p) :
    ∃ op D S O M : Int, v = .agg #[.int .u8 op, .int .u8 D, .int .u8 S, .int .i16 O, .int .i32 M] ∧ InsnOk op D S O M := by
  obtain ⟨cs, rfl, hsz⟩ := okWide_struct Try.underlying24 hv
  have hc : Try.prog.cellsOf 24 = 5 := by kernel_rfl
  rw [hc] at hsz
  obtain ⟨fuel, hf⟩ := h
  have hl : cs.toList.length = 5 := by simpa using hsz
  have hf' : DataW.trod enc Try.prog w base spare held fuel 24 cs.toList = some (d, p) := hf
  obtain ⟨n0, v0, y0, c0, t0, _⟩ := open_field Try.underlying24 hf' (j := 0) rfl (by kernel_rfl) (by rw [hl]; decide)
  obtain ⟨n1, v1, y1, c1, t1, _⟩ := open_field Try.underlying24 hf' (j := 1) rfl (by kernel_rfl) (by rw [hl]; decide)
  obtain ⟨n2, v2, y2, c2, t2, _⟩ := open_field Try.underlying24 hf' (j := 2) rfl (by kernel_rfl) (by rw [hl]; decide)
  obtain ⟨n3, v3, y3, c3, t3, _⟩ := open_field Try.underlying24 hf' (j := 3) rfl (by kernel_rfl) (by rw [hl]; decide)
  obtain ⟨n4, v4, y4, c4, t4, _⟩ := open_field Try.underlying24 hf' (j := 4) rfl (by kernel_rfl) (by rw [hl]; decide)
  obtain ⟨a0, e0, _, g0⟩ := DataW.trod_int Try.underlying5 t0
  obtain ⟨a1, e1, _, g1⟩ := DataW.trod_int Try.underlying5 t1
  obtain ⟨a2, e2, _, g2⟩ := DataW.trod_int Try.underlying5 t2
  obtain ⟨a3, e3, _, g3⟩ := DataW.trod_int Try.underlying22 t3
  obtain ⟨a4, e4, _, g4⟩ := DataW.trod_int Try.underlying21 t4
  cases e0; cases e1; cases e2; cases e3; cases e4
  refine ⟨a0, a1, a2, a3, a4, ?_, ⟨(u8_range g0).1, (u8_range g0).2, (u8_range g1).1, (u8_range g1).2, (u8_range g2).1, (u8_range g2).2, (i16_range g3).1, (i16_range g3).2, (i32_range g4).1, (i32_range g4).2⟩⟩
  congr 1
  apply Array.toList_inj.1
  apply List.ext_getElem?
  intro i
  have hi : ∀ (j : Nat) (v : Value), cs.toList[j]? = some v → ([Value.int .u8 a0, .int .u8 a1, .int .u8 a2, .int .i16 a3, .int .i32 a4] : List Value)[j]? = some v → cs.toList[j]? = ([Value.int .u8 a0, .int .u8 a1, .int .u8 a2, .int .i16 a3, .int .i32 a4] : List Value)[j]? := fun j v h1 h2 => h1.trans h2.symm
  match i with
  | 0 => exact hi 0 _ c0 rfl
  | 1 => exact hi 1 _ c1 rfl
  | 2 => exact hi 2 _ c2 rfl
  | 3 => exact hi 3 _ c3 rfl
  | 4 => exact hi 4 _ c4 rfl
  | i + 5 => rw [List.getElem?_eq_none (by omega)]; rfl
end
end Go.Proofs.Ytibghcmkmbamjaa
end
section
namespace Go.Proofs.Ytibghcmkmbamjaa.PI
open Go.RowKit Go.Proofs.YtibghcmkmbamjaaW.PrintWords Go.Proofs.YtibghcmkmbamjaaW.PrintLast Go.Proofs.YtibghcmkmbamjaaW.PrintMore Go.Proofs.Ytibghcmkmbamjaa
set_option linter.unusedVariables false
set_option linter.unusedSimpArgs false
set_option linter.unusedSectionVars false
section
variable {op D S O M : Int} (h : InsnOk op D S O M) (w : World)
include h
theorem kind_c : Calls Try.prog 19 #[.agg #[.int .u8 op, .int .u8 D, .int .u8 S, .int .i16 O, .int .i32 M]] w fun e w' => e = .returned (.int .u8 (kindF op D S O M)) ∧ Below w.heap.size w w' := insn_Kind.calls 7 op D S O M _ w (Kind_eq 0 op D S O M h.op0 h.op1)
end
end Go.Proofs.Ytibghcmkmbamjaa.PI
end
section
namespace Go.Proofs.Ytibghcmkmbamjaa
set_option linter.unusedVariables false
set_option linter.unusedSimpArgs false
set_option linter.unusedSectionVars false
/-- An instruction. -/
structure Ins where
  op : Int
  D : Int
  S : Int
  O : Int
  M : Int
deriving DecidableEq
def Ins.kind (i : Ins) : Int := PI.kindF i.op i.D i.S i.O i.M
/-- The kind of what stands at a slot; 0: there is none. -/
def kindP (l : List Ins) (a : Int) : Int := if 0 ≤ a then (match l[a.toNat]? with | some i => i.kind | none => 0) else 0
def szK (k : Int) : Int := if k = 9 then 2 else 1
def offP (l : List Ins) (a : Int) : Int := match l[a.toNat]? with | some i => i.O | none => 0
def immP (l : List Ins) (a : Int) : Int := match l[a.toNat]? with | some i => i.M | none => 0
def srcP (l : List Ins) (a : Int) : Int := match l[a.toNat]? with | some i => i.S | none => 0
/-- Where an instruction leads. -/
def nextP (l : List Ins) (a : Int) : List Int :=
  if kindP l a = 0 ∨ kindP l a = 8 then []
  else if kindP l a = 10 then [a + 1 + offP l a]
  else if kindP l a = 5 then (if offP l a < 0 then [a + 1 + offP l a, a + 1] else if offP l a = 0 then [a + 1] else [a + 1, a + 1 + offP l a])
  else [a + szK (kindP l a)]
/-- Whom it names. -/
def calleeP (l : List Ins) (a : Int) : Option Int :=
  if kindP l a = 7 then some (a + 1 + immP l a) else if kindP l a = 9 ∧ srcP l a = 2 then some (a + 2 + immP l a) else none
def secondP (l : List Ins) (a : Int) : Bool := match l[a.toNat]? with | some i => decide (i.op = 0 ∧ i.D = 0 ∧ i.S = 0 ∧ i.O = 0) | none => false
def wholeP (l : List Ins) (a : Int) : Bool := !decide (kindP l a = 0) && (!decide (kindP l a = 9) || secondP l (a + 1))
/-- All beginnings from a on, rising. -/
def allF (l : List Ins) : Nat → Int → List Int
  | 0, _ => []
  | f + 1, a => if a < (l.length : Int) then a :: allF l f (a + szK (kindP l a)) else []
def allP (l : List Ins) : List Int := allF l l.length 0
/-- The least of which something is so. -/
def firstP (is : Int → Bool) (l : List Ins) : Int := match (allP l).find? is with | some a => a | none => -1
def lostP (l : List Ins) (b : List Int) (t : Int) : Bool := decide (t < 0) || (decide (t < (l.length : Int)) && !decide (t ∈ b))
def straysP (l : List Ins) (b : List Int) (a : Int) : Bool :=
  (nextP l a).any (lostP l b) || (match calleeP l a with | some t => !decide (t ∈ b) || (decide (kindP l a = 9) && !decide (immP l (a + 1) = 0)) | none => false)
/-- Put into a rising list. -/
def insU (x : Int) : List Int → List Int
  | [] => [x]
  | y :: l => if x < y then x :: y :: l else if x = y then y :: l else y :: insU x l
def riseU (l : List Int) : List Int := l.foldr insU []
def startsP (l : List Ins) : List Int := riseU (0 :: (allP l).filterMap (calleeP l))
def pairsP (n : Int) : List Int → List (Int × Int)
  | [] => []
  | [a] => [(a, n)]
  | a :: b :: r => (a, b) :: pairsP n (b :: r)
def subsP (l : List Ins) : List (Int × Int) := pairsP l.length (startsP l)
def inSub (a : Int) (s : Int × Int) : Bool := decide (s.1 ≤ a) && decide (a < s.2)
/-- The place of the one that a slot is in. -/
def ofP (subs : List (Int × Int)) (a : Int) : Int := match subs.findIdx? (inSub a) with | some i => (i : Int) | none => -1
def leavesP (l : List Ins) (subs : List (Int × Int)) (a : Int) : Bool := (nextP l a).any fun t => !decide (ofP subs t = ofP subs a)
/-- All to which one comes. -/
def walkP (steps : Int → List Int) : Nat → List Int → List Int → Option (List Int)
  | _, [], seen => some seen
  | 0, _ :: _, _ => none
  | f + 1, a :: todo, seen => if a ∈ seen then walkP steps f todo seen else walkP steps f (steps a ++ todo) (seen ++ [a])
def callsP (l : List Ins) (subs : List (Int × Int)) (k : Int) : List Int :=
  (allP l).filterMap fun a => match calleeP l a with | some t => if kindP l a = 7 ∧ ofP subs a = k then some (ofP subs t) else none | none => none
def fuelN (l : List Ins) : Nat := 4 * l.length + 8
def fuelC (l : List Ins) (subs : List (Int × Int)) : Nat := (subs.length + 2) * (l.length + 2)
def seenN (l : List Ins) (subs : List (Int × Int)) : List Int := (walkP (nextP l) (fuelN l) (subs.map (·.1)) []).getD []
def seenC (l : List Ins) (subs : List (Int × Int)) (k : Int) : List Int := (walkP (callsP l subs) (fuelC l subs) (callsP l subs k) []).getD []
/-- The beginning of the least that calls itself. -/
def loopF (l : List Ins) (subs : List (Int × Int)) : Nat → List (Int × Int) → Int
  | _, [] => -1
  | k, s :: r => if (k : Int) ∈ seenC l subs k then s.1 else loopF l subs (k + 1) r
def checkP (l : List Ins) : List (Int × Int) × Int × Int :=
  if l.length = 0 then ([], 0, 2)
  else if 1024 < l.length then ([], 1024, 4)
  else if 0 ≤ firstP (fun a => !wholeP l a) l then ([], firstP (fun a => !wholeP l a) l, 80)
  else if 0 ≤ firstP (straysP l (allP l)) l then ([], firstP (straysP l (allP l)) l, 81)
  else if 32 < (subsP l).length then ([], ((subsP l)[32]?.getD (0, 0)).1, 4)
  else if 0 ≤ firstP (leavesP l (subsP l)) l then ([], firstP (leavesP l (subsP l)) l, 82)
  else if 0 ≤ firstP (fun a => !decide (a ∈ seenN l (subsP l))) l then ([], firstP (fun a => !decide (a ∈ seenN l (subsP l))) l, 84)
  else if 0 ≤ loopF l (subsP l) 0 (subsP l) then ([], loopF l (subsP l) 0 (subsP l), 83)
  else (subsP l, 0, 0)
def movI : Ins := ⟨183, 0, 0, 0, 0⟩
def exitI : Ins := ⟨149, 0, 0, 0, 0⟩
theorem alive1 : checkP [movI, exitI] = ([(0, 2)], 0, 0) := by decide +kernel
theorem alive2 : checkP [movI] = ([], 0, 82) := by decide +kernel
theorem alive3 : checkP [⟨5, 0, 0, -1, 0⟩, exitI] = ([], 1, 84) := by decide +kernel
theorem alive4 : checkP [⟨133, 0, 1, 0, 1⟩, exitI, movI, exitI] = ([(0, 2), (2, 4)], 0, 0) := by decide +kernel
theorem alive5 : checkP [⟨133, 0, 1, 0, -1⟩, exitI] = ([], 0, 83) := by decide +kernel
theorem alive6 : checkP [] = ([], 0, 2) := by decide +kernel
end Go.Proofs.Ytibghcmkmbamjaa
end
section
namespace Go.Proofs.Ytibghcmkmbamjaa
open Go.RowKit Go.ChangeShapes Go.WideShapes Go.ChangeAt
set_option linter.unusedVariables false
set_option linter.unusedSectionVars false
abbrev OkW (x : Ins) : Prop := (Lit.int .u8 x.op).wf = true ∧ (Lit.int .u8 x.D).wf = true ∧ (Lit.int .u8 x.S).wf = true ∧ (Lit.int .i16 x.O).wf = true ∧ (Lit.int .i32 x.M).wf = true
theorem okw_ok {x : Ins} (h : OkW x) : InsnOk x.op x.D x.S x.O x.M := by
  obtain ⟨h1, h2, h3, h4, h5⟩ := h
  have g1 : IntKind.u8.min ≤ x.op ∧ x.op ≤ IntKind.u8.max := by simpa [Lit.wf] using h1
  have g2 : IntKind.u8.min ≤ x.D ∧ x.D ≤ IntKind.u8.max := by simpa [Lit.wf] using h2
  have g3 : IntKind.u8.min ≤ x.S ∧ x.S ≤ IntKind.u8.max := by simpa [Lit.wf] using h3
  have g4 : IntKind.i16.min ≤ x.O ∧ x.O ≤ IntKind.i16.max := by simpa [Lit.wf] using h4
  have g5 : IntKind.i32.min ≤ x.M ∧ x.M ≤ IntKind.i32.max := by simpa [Lit.wf] using h5
  exact ⟨g1.1, g1.2, g2.1, g2.2, g3.1, g3.2, g4.1, g4.2, g5.1, g5.2⟩
open Go.Deep in
theorem open_nil_cap {H : Type} {enc : TypeId × Value → H} {P : Program} {w : World} {base : Nat} {spare : Nat → Bool} {held : Bool} {t e : TypeId} {fuel : Nat} {A : Option Addr} {len cap : Nat} {x : DataW H × List MemPlace} (ht : P.underlying t = some (.slice e))
    (h : DataW.trod enc P w base spare held fuel t [.slice A len cap] = some x) : A = none → cap = 0 := by
  rcases open_slice ht h with ⟨h1, _⟩ | ⟨a, len', cap', m, n, D, Pl, hcs, _⟩
  · intro _
    cases h1
    rfl
  · intro hA
    cases hcs
    cases hA
end Go.Proofs.Ytibghcmkmbamjaa
end
section
namespace Go.Proofs.Ytibghcmkmbamjaa
set_option linter.unusedVariables false
set_option linter.unusedSimpArgs false
theorem len_le_of_nodup : ∀ (s u : List Int), s.Nodup → (∀ x ∈ s, x ∈ u) → s.length ≤ u.length
  | [], u, _, _ => by simp
  | a :: s, u, hn, hs => by
    have ha : a ∈ u := hs a (by simp)
    have h1 := List.nodup_cons.1 hn
    have := len_le_of_nodup s (u.erase a) h1.2 (fun x hx => by
      have hxa : x ≠ a := fun e => h1.1 (e ▸ hx)
      exact (List.mem_erase_of_ne hxa).2 (hs x (by simp [hx])))
    rw [List.length_erase_of_mem ha] at this
    have : 0 < u.length := List.length_pos_of_mem ha
    simp only [List.length_cons]
    omega
section
variable {steps : Int → List Int}
/-- It ends: U is closed, no one has more than M steps. -/
theorem walkP_ends (U : List Int) (hU : ∀ x ∈ U, ∀ y ∈ steps x, y ∈ U) (M : Nat) (hM : ∀ x ∈ U, (steps x).length ≤ M) : ∀ (F : Nat) (todo seen : List Int), (∀ x ∈ todo, x ∈ U) → seen.Nodup → (∀ x ∈ seen, x ∈ U) → todo.length + (U.length - seen.length) * M ≤ F → ∃ s, walkP steps F todo seen = some s
  | 0, [], seen, _, _, _, _ => ⟨seen, rfl⟩
  | F + 1, [], seen, _, _, _, _ => ⟨seen, rfl⟩
  | 0, a :: todo, seen, _, _, _, h => by simp at h
  | F + 1, a :: todo, seen, ht, hn, hs, h => by
    rw [walkP]
    by_cases hin : a ∈ seen
    · rw [if_pos hin]
      exact walkP_ends U hU M hM F todo seen (fun x hx => ht x (by simp [hx])) hn hs (by simp only [List.length_cons] at h; omega)
    · rw [if_neg hin]
      have haU := ht a (by simp)
      have hn' : (seen ++ [a]).Nodup := by
        rw [List.nodup_append]
        exact ⟨hn, by simp, fun x hx y hy => by simp at hy; subst hy; exact fun e => hin (e ▸ hx)⟩
      have hs' : ∀ x ∈ seen ++ [a], x ∈ U := fun x hx => by
        rcases List.mem_append.1 hx with hx | hx
        · exact hs x hx
        · simp at hx; subst hx; exact haU
      have hl := len_le_of_nodup _ _ hn' hs'
      rw [List.length_append, List.length_singleton] at hl
      refine walkP_ends U hU M hM F (steps a ++ todo) (seen ++ [a]) (fun x hx => ?_) hn' hs' ?_
      · rcases List.mem_append.1 hx with hx | hx
        · exact hU a haU x hx
        · exact ht x (by simp [hx])
      · have := hM a haU
        rw [List.length_append, List.length_append, List.length_singleton]
        simp only [List.length_cons] at h
        obtain ⟨k, hk⟩ : ∃ k, U.length - seen.length = k + 1 := ⟨U.length - seen.length - 1, by omega⟩
        have hk2 : U.length - (seen.length + 1) = k := by omega
        rw [hk] at h
        rw [hk2]
        rw [Nat.add_mul] at h
        omega
/-- One comes from one to another one. -/
inductive Comes (steps : Int → List Int) : Int → Int → Prop
  | here (x : Int) : Comes steps x x
  | step {x y z : Int} : y ∈ steps x → Comes steps y z → Comes steps x z
theorem Comes.trans {x y z : Int} (h : Comes steps x y) (g : Comes steps y z) : Comes steps x z := by
  induction h with
  | here => exact g
  | step h1 _ ih => exact .step h1 (ih g)
theorem walkP_sound : ∀ (F : Nat) (todo seen s : List Int), walkP steps F todo seen = some s → ∀ x ∈ s, x ∈ seen ∨ ∃ t ∈ todo, Comes steps t x
  | F, [], seen, s, h, x, hx => by
    have : seen = s := by cases F <;> simpa [walkP] using h
    exact .inl (this ▸ hx)
  | 0, a :: todo, seen, s, h, x, hx => by simp [walkP] at h
  | F + 1, a :: todo, seen, s, h, x, hx => by
    rw [walkP] at h
    by_cases hin : a ∈ seen
    · rw [if_pos hin] at h
      rcases walkP_sound F todo seen s h x hx with h1 | ⟨t, ht, hc⟩
      · exact .inl h1
      · exact .inr ⟨t, by simp [ht], hc⟩
    · rw [if_neg hin] at h
      rcases walkP_sound F _ _ s h x hx with h1 | ⟨t, ht, hc⟩
      · rcases List.mem_append.1 h1 with h1 | h1
        · exact .inl h1
        · simp at h1; subst h1; exact .inr ⟨x, by simp, .here x⟩
      · rcases List.mem_append.1 ht with ht | ht
        · exact .inr ⟨a, by simp, .step ht hc⟩
        · exact .inr ⟨t, by simp [ht], hc⟩
theorem walkP_closed : ∀ (F : Nat) (todo seen s : List Int), walkP steps F todo seen = some s → (∀ x ∈ seen, ∀ y ∈ steps x, y ∈ seen ∨ y ∈ todo) → (∀ x ∈ seen, x ∈ s) ∧ (∀ x ∈ todo, x ∈ s) ∧ ∀ x ∈ s, ∀ y ∈ steps x, y ∈ s
  | F, [], seen, s, h, hc => by
    have : seen = s := by cases F <;> simpa [walkP] using h
    subst this
    exact ⟨fun x hx => hx, by simp, fun x hx y hy => (hc x hx y hy).elim id (by simp)⟩
  | 0, a :: todo, seen, s, h, hc => by simp [walkP] at h
  | F + 1, a :: todo, seen, s, h, hc => by
    rw [walkP] at h
    by_cases hin : a ∈ seen
    · rw [if_pos hin] at h
      obtain ⟨g1, g2, g3⟩ := walkP_closed F todo seen s h (fun x hx y hy => by
        rcases hc x hx y hy with h1 | h1
        · exact .inl h1
        · rcases List.mem_cons.1 h1 with rfl | h1
          · exact .inl hin
          · exact .inr h1)
      exact ⟨g1, fun x hx => by rcases List.mem_cons.1 hx with rfl | hx; exact g1 _ hin; exact g2 x hx, g3⟩
    · rw [if_neg hin] at h
      obtain ⟨g1, g2, g3⟩ := walkP_closed F _ _ s h (fun x hx y hy => by
        rcases List.mem_append.1 hx with hx | hx
        · rcases hc x hx y hy with h1 | h1
          · exact .inl (by simp [h1])
          · rcases List.mem_cons.1 h1 with rfl | h1
            · exact .inl (by simp)
            · exact .inr (by simp [h1])
        · simp at hx; subst hx; exact .inr (by simp [hy]))
      exact ⟨fun x hx => g1 x (by simp [hx]), fun x hx => by rcases List.mem_cons.1 hx with rfl | hx; exact g1 _ (by simp); exact g2 x (by simp [hx]), g3⟩
/-- What is told is just what one comes to. -/
theorem walkP_iff {F : Nat} {first s : List Int} (h : walkP steps F first [] = some s) (x : Int) : x ∈ s ↔ ∃ t ∈ first, Comes steps t x := by
  constructor
  · intro hx
    rcases walkP_sound F first [] s h x hx with h1 | h1
    · simp at h1
    · exact h1
  · rintro ⟨t, ht, hc⟩
    obtain ⟨-, g2, g3⟩ := walkP_closed F first [] s h (by simp)
    have : ∀ a b, Comes steps a b → a ∈ s → b ∈ s := by
      intro a b hab
      induction hab with
      | here => exact id
      | step h1 _ ih => exact fun ha => ih (g3 _ ha _ h1)
    exact this t x hc (g2 t ht)
end
end Go.Proofs.Ytibghcmkmbamjaa
end
