/- does, at any step, beside an empty heap of the reference. -/
import Derived.Test.YtgleceijdedlkaaDoes14c
import Derived.Test.YtgleceijdedlkaaDoes14d
import Derived.Test.YtgleceijdedlkaaDoes14e
namespace Go.Proofs.Ytgleceijdedlkaa
open Go.RowKit
set_option linter.unusedVariables false
set_option linter.unusedSimpArgs false
section
variable {w0 w w' : World} {K : List (Nat × Obj)} {x : Nat} {room : Int} {st : HS} {T : Res} [Good T]
theorem does_any (H : SepK w0 w K (star (heldR x room st) T)) {r : Nat} {o1 o2 : Value} (hK : (r, blkR o1 o2) ∈ K) {n : Nat} (hI : Inv room n st) (hn : n ≤ 1000) (hroom : room ≤ 65536) (q : Int × Int) (hq : okH q) (s : St14) (hs : okS s) :
    Calls Try.prog 39 #[.pointer (some ⟨x, 0, none⟩), .pointer (some ⟨r, 0, none⟩), .agg (encS s).toArray, .agg #[.int .i64 q.1, .int .u64 q.2]] w fun e w' => ∃ b st', e = .returned (.bool b) ∧ SepK w0 w' K (star (heldR x room st') T) ∧ Did room n q st st' := by
  by_cases d1 : s.d = 1
  · exact does_hold H hK hI hn q hq s d1
  by_cases d2 : s.d = 2
  · exact does_drop H hK hI hn hroom q hq s hs d2
  by_cases d3 : s.d = 3
  · exact does_free H hK hI hn hroom q hq s hs d3
  by_cases d4 : s.d = 4
  · exact does_read H hK hI hn hroom q hq s hs d4
  by_cases d5 : s.d = 5
  · cases hob : aget st.ob q with
    | none => exact does_write_none H hK hI hn hroom q hq s hs d5 hob
    | some y =>
      obtain ⟨c, k⟩ := y
      obtain ⟨bs, hbs⟩ := H.slot hob
      have hbl : bs.length ≤ 128 := hI.each _ (aget_mem hbs)
      by_cases hf : fits bs.length s.pos s.s.size
      · exact does_write_ok H hK hI hn hroom q hq s hs d5 hob bs hbs hbl hf
      · exact does_write_bad H hK hI hn hroom q hq s hs d5 hob bs hbs hbl hf
  · exact does_else H hI q s d1 d2 d3 d4 d5
/-- One object, in two heaps alike. -/
structure Ap (n : Nat) (stx sty : HS) (c : Int) (bs : List UInt8) : Prop where
  inv : Inv 65536 n stx
  ox : aget stx.ob (0, 1) = some (c, 3)
  oy : aget sty.ob (0, 1) = some (c, 3)
  sx : aget stx.sl 0 = some bs
  sy : aget sty.sl 0 = some bs
  len : bs.length = 32
theorem Ap.more {n : Nat} {stx sty : HS} {c : Int} {bs : List UInt8} (h : Ap n stx sty c bs) : Ap (n + 1) stx sty c bs := { h with inv := h.inv.more }
theorem Ap.did {n : Nat} {stx sty st' : HS} {c : Int} {bs : List UInt8} (h : Ap n stx sty c bs) {q : Int × Int} (hq : q ≠ (0, 1)) (hd : Did 65536 n q stx st') : Ap (n + 1) st' sty c bs :=
  ⟨hd.inv, (hd.ob _ (Ne.symm hq)).trans h.ox, h.oy, (hd.sl (0, 1) (Ne.symm hq) (by rw [h.ox]; rfl)).trans h.sx, h.sy, h.len⟩
theorem Ap.made {n : Nat} {stx sty : HS} {c : Int} {bs : List UInt8} (h : Ap n stx sty c bs) (k kind : Int) (hk : k ∉ stx.sl.map (·.1)) (hr : stx.used + cls 16 ≤ 65536) (hno : aget stx.ob (k, genOf stx.L k) = none) : Ap (n + 1) (stx.made k 16 kind) sty c bs := by
  have h0 : k ≠ 0 := fun e => hk (List.mem_map.2 ⟨_, aget_mem h.sx, e.symm⟩)
  refine ⟨h.inv.made k 16 kind hk rfl hr, ?_, h.oy, ?_, h.sy, h.len⟩
  · simp only [HS.made]
    rw [aget_aput_ne _ _ (fun e => h0 (congrArg Prod.fst e))]
    exact h.ox
  · simp only [HS.made]
    rw [aget_aput_ne _ _ h0]
    exact h.sx
theorem Ap.set {n : Nat} {stx sty : HS} {c d : Int} {bs : List UInt8} (h : Ap n stx sty c bs) (h0 : 0 ≤ d) (h1 : d ≤ n + 1) : Ap (n + 1) { stx with ob := aput stx.ob (0, 1) (d, 3) } { sty with ob := aput sty.ob (0, 1) (d, 3) } d bs :=
  ⟨h.inv.set (0, 1) d 3 h0 h1, aget_aput_self _ _ _, aget_aput_self _ _ _, h.sx, h.sy, h.len⟩
end
end Go.Proofs.Ytgleceijdedlkaa
