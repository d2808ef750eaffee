/- The heap of objects as one thing among others. -/
import Derived.Test.YtgleceijdedlkaaHeld
import Derived.Test.YtgleceijdedlkaaSepLib
namespace Go.Proofs.Ytgleceijdedlkaa
open Go.RowKit
set_option linter.unusedVariables false
set_option linter.unusedSimpArgs false
set_option linter.unusedSectionVars false
def heldR (x : Nat) (room : Int) (st : HS) : Res := fun w N => Held w x room st N
instance {x : Nat} {room : Int} {st : HS} : Good (heldR x room st) where
  kept := fun h u hS => Held.kept h u hS
  mono := fun h hM => Held.mono h hM
variable {w0 w : World} {x : Nat} {room : Int} {st : HS} {K : List (Nat × Obj)} {T : Res}
theorem SepK.inv1 (h : SepK w0 w K (star (heldR x room st) T)) (s : Int) : (aget st.V s).isSome = (aget st.sl s).isSome := by
  obtain ⟨N, hN⟩ := h.get
  exact Held.inv1 hN s
theorem SepK.inv2 (h : SepK w0 w K (star (heldR x room st) T)) (q : Int × Int) : (aget st.ob q).isSome = true ↔ aget st.V q.1 = some q := by
  obtain ⟨N, hN⟩ := h.get
  exact Held.inv2 hN q
theorem SepK.slot (h : SepK w0 w K (star (heldR x room st) T)) {a b : Int} {y : Int × Int} (hg : aget st.ob (a, b) = some y) : ∃ bs, aget st.sl a = some bs := by
  obtain ⟨N, hN⟩ := h.get
  exact Held.slot hN hg
theorem SepK.okH (h : SepK w0 w K (star (heldR x room st) T)) {q : Int × Int} {y : Int × Int} (hg : aget st.ob q = some y) : okH q := by
  obtain ⟨N, hN⟩ := h.get
  exact Held.okH hN hg
section
variable [Good T]
theorem sKind_no (H : SepK w0 w K (star (heldR x room st) T)) (a b : Int) (hk : okH (a, b)) (hg : aget st.ob (a, b) = none) :
    Calls Try.prog 35 #[.pointer (some ⟨x, 0, none⟩), .agg #[.int .i64 a, .int .u64 b]] w fun e w' => e = .returned (.tuple #[.int .i64 0, .bool false]) ∧ SepK w0 w' K (star (heldR x room st) T) :=
  H.call0 fun N h => hKind_no h a b hk hg
theorem sCount_no (H : SepK w0 w K (star (heldR x room st) T)) (a b : Int) (hk : okH (a, b)) (hg : aget st.ob (a, b) = none) :
    Calls Try.prog 41 #[.pointer (some ⟨x, 0, none⟩), .agg #[.int .i64 a, .int .u64 b]] w fun e w' => e = .returned (.tuple #[.int .i64 0, .bool false]) ∧ SepK w0 w' K (star (heldR x room st) T) :=
  H.call0 fun N h => hCount_no h a b hk hg
theorem sHold_no (H : SepK w0 w K (star (heldR x room st) T)) (a b : Int) (hk : okH (a, b)) (hg : aget st.ob (a, b) = none) :
    Calls Try.prog 32 #[.pointer (some ⟨x, 0, none⟩), .agg #[.int .i64 a, .int .u64 b]] w fun e w' => e = .returned (.tuple #[.int .i64 0, .int .i64 130]) ∧ SepK w0 w' K (star (heldR x room st) T) :=
  H.call0 fun N h => hHold_no h a b hk hg
theorem sDrop_no (H : SepK w0 w K (star (heldR x room st) T)) (a b : Int) (hk : okH (a, b)) (hg : aget st.ob (a, b) = none) :
    Calls Try.prog 33 #[.pointer (some ⟨x, 0, none⟩), .agg #[.int .i64 a, .int .u64 b]] w fun e w' => e = .returned (.tuple #[.int .i64 0, .int .i64 130]) ∧ SepK w0 w' K (star (heldR x room st) T) :=
  H.call0 fun N h => hDrop_no h a b hk hg
theorem sFree_no (H : SepK w0 w K (star (heldR x room st) T)) (a b : Int) (hk : okH (a, b)) (hg : aget st.ob (a, b) = none) :
    Calls Try.prog 34 #[.pointer (some ⟨x, 0, none⟩), .agg #[.int .i64 a, .int .u64 b]] w fun e w' => e = .returned (.int .i64 130) ∧ SepK w0 w' K (star (heldR x room st) T) :=
  H.call0 fun N h => hFree_no h a b hk hg
theorem sRead_no (H : SepK w0 w K (star (heldR x room st) T)) (a b : Int) (i n : Int) (hk : okH (a, b)) (hg : aget st.ob (a, b) = none) :
    Calls Try.prog 36 #[.pointer (some ⟨x, 0, none⟩), .agg #[.int .i64 a, .int .u64 b], .int .i64 i, .int .i64 n] w fun e w' => e = .returned (.tuple #[.string ByteArray.empty, .int .i64 130]) ∧ SepK w0 w' K (star (heldR x room st) T) :=
  H.call0 fun N h => hRead_no h a b i n hk hg
theorem sWrite_no (H : SepK w0 w K (star (heldR x room st) T)) (a b : Int) (i : Int) (t : ByteArray) (hk : okH (a, b)) (hg : aget st.ob (a, b) = none) :
    Calls Try.prog 37 #[.pointer (some ⟨x, 0, none⟩), .agg #[.int .i64 a, .int .u64 b], .int .i64 i, .string t] w fun e w' => e = .returned (.int .i64 130) ∧ SepK w0 w' K (star (heldR x room st) T) :=
  H.call0 fun N h => hWrite_no h a b i t hk hg
theorem sKind_ok (H : SepK w0 w K (star (heldR x room st) T)) (a b c k : Int) (hg : aget st.ob (a, b) = some (c, k)) :
    Calls Try.prog 35 #[.pointer (some ⟨x, 0, none⟩), .agg #[.int .i64 a, .int .u64 b]] w fun e w' => e = .returned (.tuple #[.int .i64 k, .bool true]) ∧ SepK w0 w' K (star (heldR x room st) T) :=
  H.call0 fun N h => hKind_ok h a b c k hg
theorem sCount_ok (H : SepK w0 w K (star (heldR x room st) T)) (a b c k : Int) (hg : aget st.ob (a, b) = some (c, k)) :
    Calls Try.prog 41 #[.pointer (some ⟨x, 0, none⟩), .agg #[.int .i64 a, .int .u64 b]] w fun e w' => e = .returned (.tuple #[.int .i64 c, .bool true]) ∧ SepK w0 w' K (star (heldR x room st) T) :=
  H.call0 fun N h => hCount_ok h a b c k hg
theorem sHold_ok (H : SepK w0 w K (star (heldR x room st) T)) (a b c k : Int) (hc : -1000000 ≤ c ∧ c ≤ 1000000) (hg : aget st.ob (a, b) = some (c, k)) :
    Calls Try.prog 32 #[.pointer (some ⟨x, 0, none⟩), .agg #[.int .i64 a, .int .u64 b]] w fun e w' => e = .returned (.tuple #[.int .i64 (c + 1), .int .i64 0]) ∧ SepK w0 w' K (star (heldR x room { st with ob := aput st.ob (a, b) (c + 1, k) }) T) :=
  H.call1 fun N h _ => hHold_ok h a b c k hc hg
theorem sDrop_ok (H : SepK w0 w K (star (heldR x room st) T)) (a b c k : Int) (hc : -1000000 ≤ c ∧ c ≤ 1000000) (h0 : c ≠ 0) (hg : aget st.ob (a, b) = some (c, k)) :
    Calls Try.prog 33 #[.pointer (some ⟨x, 0, none⟩), .agg #[.int .i64 a, .int .u64 b]] w fun e w' => e = .returned (.tuple #[.int .i64 (c - 1), .int .i64 0]) ∧ SepK w0 w' K (star (heldR x room { st with ob := aput st.ob (a, b) (c - 1, k) }) T) :=
  H.call1 fun N h _ => hDrop_ok h a b c k hc h0 hg
theorem sDrop_zero (H : SepK w0 w K (star (heldR x room st) T)) (a b k : Int) (hg : aget st.ob (a, b) = some (0, k)) :
    Calls Try.prog 33 #[.pointer (some ⟨x, 0, none⟩), .agg #[.int .i64 a, .int .u64 b]] w fun e w' => e = .returned (.tuple #[.int .i64 0, .int .i64 3]) ∧ SepK w0 w' K (star (heldR x room st) T) :=
  H.call0 fun N h => hDrop_zero h a b k hg
theorem sFree_held (H : SepK w0 w K (star (heldR x room st) T)) (a b c k : Int) (hc : 0 < c) (hg : aget st.ob (a, b) = some (c, k)) :
    Calls Try.prog 34 #[.pointer (some ⟨x, 0, none⟩), .agg #[.int .i64 a, .int .u64 b]] w fun e w' => e = .returned (.int .i64 3) ∧ SepK w0 w' K (star (heldR x room st) T) :=
  H.call0 fun N h => hFree_held h a b c k hc hg
theorem sFree_ok (H : SepK w0 w K (star (heldR x room st) T)) (a b c k : Int) (hc : c ≤ 0) (bs : List UInt8) (hbs : aget st.sl a = some bs) (hbl : bs.length ≤ 1000) (h0 : 0 ≤ st.used) (h1 : st.used ≤ 65536) (hg : aget st.ob (a, b) = some (c, k)) :
    Calls Try.prog 34 #[.pointer (some ⟨x, 0, none⟩), .agg #[.int .i64 a, .int .u64 b]] w fun e w' => e = .returned (.int .i64 0) ∧ SepK w0 w' K (star (heldR x room { used := st.used - cls bs.length, sl := adel st.sl a, L := st.L, V := adel st.V a, ob := adel st.ob (a, b) }) T) :=
  H.call1 fun N h _ => hFree_ok h a b c k hc bs hbs hbl h0 h1 hg
theorem sRead_ok (H : SepK w0 w K (star (heldR x room st) T)) (a b c k : Int) (i n : Nat) (bs : List UInt8) (hbs : aget st.sl a = some bs) (hbl : bs.length ≤ 1000) (hf : i + n ≤ bs.length) (hg : aget st.ob (a, b) = some (c, k)) :
    Calls Try.prog 36 #[.pointer (some ⟨x, 0, none⟩), .agg #[.int .i64 a, .int .u64 b], .int .i64 (i : Int), .int .i64 (n : Int)] w fun e w' => e = .returned (.tuple #[.string (bstr ((bs.drop i).take n)), .int .i64 0]) ∧ SepK w0 w' K (star (heldR x room st) T) :=
  H.call0 fun N h => hRead_ok h a b c k i n bs hbs hbl hf hg
theorem sRead_bad (H : SepK w0 w K (star (heldR x room st) T)) (a b c k : Int) (i n : Int) (bs : List UInt8) (hbs : aget st.sl a = some bs) (hbl : ∀ q ∈ st.sl, q.2.length ≤ 1000) (hi : okI i) (hn : okI n) (hf : ¬ fits bs.length i n) (hg : aget st.ob (a, b) = some (c, k)) :
    Calls Try.prog 36 #[.pointer (some ⟨x, 0, none⟩), .agg #[.int .i64 a, .int .u64 b], .int .i64 i, .int .i64 n] w fun e w' => e = .returned (.tuple #[.string ByteArray.empty, .int .i64 120]) ∧ SepK w0 w' K (star (heldR x room st) T) :=
  H.call0 fun N h => hRead_bad h a b c k i n bs hbs hbl hi hn hf hg
theorem sWrite_bad (H : SepK w0 w K (star (heldR x room st) T)) (a b c k : Int) (i : Int) (t : ByteArray) (bs : List UInt8) (hbs : aget st.sl a = some bs) (hbl : ∀ q ∈ st.sl, q.2.length ≤ 1000) (hi : okI i) (ht : okI t.size) (hf : ¬ fits bs.length i t.size) (hg : aget st.ob (a, b) = some (c, k)) :
    Calls Try.prog 37 #[.pointer (some ⟨x, 0, none⟩), .agg #[.int .i64 a, .int .u64 b], .int .i64 i, .string t] w fun e w' => e = .returned (.int .i64 120) ∧ SepK w0 w' K (star (heldR x room st) T) :=
  H.call0 fun N h => hWrite_bad h a b c k i t bs hbs hbl hi ht hf hg
theorem sWrite_ok (H : SepK w0 w K (star (heldR x room st) T)) (a b c k : Int) (i : Nat) (t : ByteArray) (bs : List UInt8) (hbs : aget st.sl a = some bs) (hbl : bs.length ≤ 1000) (hf : i + t.size ≤ bs.length) (hg : aget st.ob (a, b) = some (c, k)) :
    Calls Try.prog 37 #[.pointer (some ⟨x, 0, none⟩), .agg #[.int .i64 a, .int .u64 b], .int .i64 (i : Int), .string t] w fun e w' => e = .returned (.int .i64 0) ∧ SepK w0 w' K (star (heldR x room { st with sl := aput st.sl a (over bs i t.data.toList) }) T) :=
  H.call1 fun N h _ => hWrite_ok h a b c k i t bs hbs hbl hf hg
theorem sMake_ok (H : SepK w0 w K (star (heldR x room st) T)) (kind n : Int) (hn : okc n = true) (hr : st.used + cls n ≤ room) (h0 : 0 ≤ st.used) (h1 : room ≤ 65536) (hl' : st.sl.length ≤ 100000) :
    Calls Try.prog 30 #[.pointer (some ⟨x, 0, none⟩), .int .i64 kind, .int .i64 n] w fun e w' => ∃ k : Nat, (e = .returned (.tuple #[.agg #[.int .i64 (k : Int), .int .u64 (genOf st.L k)], .int .i64 0]) ∧ (∀ j : Nat, j < k → (j : Int) ∈ st.sl.map (·.1)) ∧ (k : Int) ∉ st.sl.map (·.1)) ∧
      SepK w0 w' K (star (heldR x room (st.made k n kind)) T) :=
  H.call (α := Nat) (Q := fun k e => e = .returned (.tuple #[.agg #[.int .i64 (k : Int), .int .u64 (genOf st.L k)], .int .i64 0]) ∧ (∀ j : Nat, j < k → (j : Int) ∈ st.sl.map (·.1)) ∧ (k : Int) ∉ st.sl.map (·.1)) (S := fun k => heldR x room (st.made k n kind))
    fun N h hN => (hMake_ok h kind n hN hn hr h0 h1 hl').mono fun e w' ⟨k, he, p1, p2, h', t⟩ => ⟨k, ⟨he, p1, p2⟩, h', t⟩
theorem sMake_arg (H : SepK w0 w K (star (heldR x room st) T)) (kind n : Int) (hn : okc n = false) :
    Calls Try.prog 30 #[.pointer (some ⟨x, 0, none⟩), .int .i64 kind, .int .i64 n] w fun e w' => e = .returned (.tuple #[.agg #[.int .i64 0, .int .u64 0], .int .i64 2]) ∧ SepK w0 w' K (star (heldR x room st) T) :=
  H.call0 fun N h => hMake_arg h kind n hn
theorem sMake_full (H : SepK w0 w K (star (heldR x room st) T)) (kind n : Int) (hn : okc n = true) (hr : room < st.used + cls n) (h0 : 0 ≤ st.used) (h1 : st.used ≤ 65536) :
    Calls Try.prog 30 #[.pointer (some ⟨x, 0, none⟩), .int .i64 kind, .int .i64 n] w fun e w' => e = .returned (.tuple #[.agg #[.int .i64 0, .int .u64 0], .int .i64 6]) ∧ SepK w0 w' K (star (heldR x room st) T) :=
  H.call0 fun N h => hMake_full h kind n hn hr h0 h1
theorem sUsed (H : SepK w0 w K (star (heldR x room st) T)) : Calls Try.prog 62 #[.pointer (some ⟨x, 0, none⟩)] w fun e w' => e = .returned (.int .i64 st.used) ∧ w = w' := by
  obtain ⟨N, hN⟩ := H.get
  exact hUsed hN
theorem sRoom (H : SepK w0 w K (star (heldR x room st) T)) : Calls Try.prog 63 #[.pointer (some ⟨x, 0, none⟩)] w fun e w' => e = .returned (.int .i64 room) ∧ w = w' := by
  obtain ⟨N, hN⟩ := H.get
  exact hRoom hN
/-- A new heap beside what is there. -/
theorem sNew (h : SepK w0 w K T) (room : Int) (h0 : 0 ≤ room) (h1 : room ≤ 65536) : Calls Try.prog 29 #[.int .i64 room] w fun e w' => ∃ x, e = .returned (.tuple #[.pointer (some ⟨x, 0, none⟩), .int .i64 0]) ∧ SepK w0 w' K (star (heldR x room HS.nil) T) :=
  (hNew w room h0 h1).mono fun e w' ⟨x, he, hx, u⟩ => ⟨x, he, h.more u hx (fun _ hb => hb)⟩
end
end Go.Proofs.Ytgleceijdedlkaa
