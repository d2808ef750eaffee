/- The slab as one thing among others: Read, Write. -/
import Derived.Test.YtgleceijdedlkaaTabRes
namespace Go.Proofs.Ytgleceijdedlkaa
open Go.RowKit
set_option linter.unusedVariables false
set_option linter.unusedSimpArgs false
set_option linter.unusedSectionVars false
section
variable {w0 w : World} {K : List (Nat × Obj)} {T : Res} [Good T] {s : Nat} {room used : Int} {sl : List (Int × List UInt8)}
theorem agetB {l : Slots} {sl : List (Int × List UInt8)} (e : mapv (·.2) l = sl) {x : Int} : aget sl x = (aget l x).map (·.2) := by rw [← e, aget_mapv]
theorem smallB {l : Slots} {sl : List (Int × List UInt8)} (e : mapv (·.2) l = sl) (h : ∀ q ∈ sl, q.2.length ≤ 1000) : ∀ p ∈ l, p.2.2.length ≤ 1000 := fun p hp => by
  have : (p.1, p.2.2) ∈ sl := by rw [← e]; exact List.mem_map.2 ⟨p, hp, rfl⟩
  exact h _ this
theorem noB {l : Slots} {sl : List (Int × List UInt8)} (e : mapv (·.2) l = sl) {slot at_ n r : Int} (hr : (aget sl slot = none ∧ r = 5) ∨ ∃ bs, aget sl slot = some bs ∧ ¬ fits bs.length at_ n ∧ r = 120) :
    (aget l slot = none ∧ r = 5) ∨ ∃ b bs, aget l slot = some (b, bs) ∧ ¬ fits bs.length at_ n ∧ r = 120 := by
  rw [agetB e] at hr
  rcases hr with ⟨h1, h2⟩ | ⟨bs, h1, h2, h3⟩
  · exact .inl ⟨by simpa using h1, h2⟩
  · obtain ⟨⟨b, bs'⟩, hq, he⟩ := Option.map_eq_some_iff.1 h1
    cases he
    exact .inr ⟨b, _, hq, h2, h3⟩
theorem lRead_no (H : SepK w0 w K (star (slabR s room used sl) T)) (slot at_ n r : Int) (hs : okI slot) (ha : okI at_) (hn : okI n) (hl : ∀ q ∈ sl, q.2.length ≤ 1000)
    (hr : (aget sl slot = none ∧ r = 5) ∨ ∃ bs, aget sl slot = some bs ∧ ¬ fits bs.length at_ n ∧ r = 120) :
    Calls Try.prog 26 #[.pointer (some ⟨s, 0, none⟩), .int .i64 slot, .int .i64 at_, .int .i64 n] w fun e w' => e = .returned (.tuple #[.string ByteArray.empty, .int .i64 r]) ∧ w = w' := by
  obtain ⟨N, bm, l, h, e, -⟩ := H.get
  exact Read_no w s bm room used l slot at_ n r h hs ha hn (smallB e hl) (noB e hr)
theorem lRead_ok (H : SepK w0 w K (star (slabR s room used sl) T)) (slot : Int) (at_ n : Nat) (hs : okI slot) (bs : List UInt8) (hg : aget sl slot = some bs) (hl : bs.length ≤ 1000) (hf : at_ + n ≤ bs.length) :
    Calls Try.prog 26 #[.pointer (some ⟨s, 0, none⟩), .int .i64 slot, .int .i64 (at_ : Int), .int .i64 (n : Int)] w fun e w' => e = .returned (.tuple #[.string (bstr ((bs.drop at_).take n)), .int .i64 0]) ∧ w = w' := by
  obtain ⟨N, bm, l, h, e, -⟩ := H.get
  rw [agetB e] at hg
  obtain ⟨⟨b, bs'⟩, hq, he⟩ := Option.map_eq_some_iff.1 hg
  cases he
  exact Read_ok w s bm room used l slot at_ n h hs b _ hq hl hf
theorem lWrite_no (H : SepK w0 w K (star (slabR s room used sl) T)) (slot at_ r : Int) (t : ByteArray) (hs : okI slot) (ha : okI at_) (hn : okI t.size) (hl : ∀ q ∈ sl, q.2.length ≤ 1000)
    (hr : (aget sl slot = none ∧ r = 5) ∨ ∃ bs, aget sl slot = some bs ∧ ¬ fits bs.length at_ t.size ∧ r = 120) :
    Calls Try.prog 24 #[.pointer (some ⟨s, 0, none⟩), .int .i64 slot, .int .i64 at_, .string t] w fun e w' => e = .returned (.int .i64 r) ∧ w = w' := by
  obtain ⟨N, bm, l, h, e, -⟩ := H.get
  exact Write_no w s bm room used l slot at_ r t h hs ha hn (smallB e hl) (noB e hr)
theorem lWrite_ok (H : SepK w0 w K (star (slabR s room used sl) T)) (slot : Int) (at_ : Nat) (t : ByteArray) (hs : okI slot) (bs : List UInt8) (hg : aget sl slot = some bs) (hl : bs.length ≤ 1000) (hf : at_ + t.size ≤ bs.length) :
    Calls Try.prog 24 #[.pointer (some ⟨s, 0, none⟩), .int .i64 slot, .int .i64 (at_ : Int), .string t] w fun e w' => e = .returned (.int .i64 0) ∧ SepK w0 w' K (star (slabR s room used (aput sl slot (over bs at_ t.data.toList))) T) :=
  H.call1 fun N ⟨bm, l, h, e, g1, g2, g3⟩ hN => by
    rw [agetB e] at hg
    obtain ⟨⟨b, bs'⟩, hq, he⟩ := Option.map_eq_some_iff.1 hg
    cases he
    refine (Write_ok w s bm room used l slot at_ t h hs b _ hq hl hf).mono fun e' w' ⟨he, h', u⟩ => ⟨he, ⟨bm, _, h', by rw [aput_mapv, e], g1, g2, fun p hp => ?_⟩, [b], fun y hy => ?_, u⟩
    · rcases mem_aput hp with h1 | hp
      · rw [h1]
        have h2 := g3 _ (aget_mem hq)
        exact h2
      · exact g3 p hp
    · obtain rfl := List.mem_singleton.1 hy
      have h2 := g3 _ (aget_mem hq)
      exact h2
end
end Go.Proofs.Ytgleceijdedlkaa
