/- The table of handles, and the slab, each as one thing among others. -/
import Derived.Test.YtgleceijdedlkaaHeldRes
namespace Go.Proofs.Ytgleceijdedlkaa
open Go.RowKit
set_option linter.unusedVariables false
set_option linter.unusedSimpArgs false
set_option linter.unusedSectionVars false
def tabR (t : Nat) (L : Lasts) (V : Lives) : Res := fun w N => ∃ bl bv, TableAt w t bl bv L V ∧ N t ∧ N bl ∧ N bv
instance {t : Nat} {L : Lasts} {V : Lives} : Good (tabR t L V) where
  kept := fun ⟨bl, bv, h, h1, h2, h3⟩ u hS => ⟨bl, bv, h.kept u (fun hm => hS _ hm h1) (fun hm => hS _ hm h2) (fun hm => hS _ hm h3), h1, h2, h3⟩
  mono := fun ⟨bl, bv, h, h1, h2, h3⟩ hM => ⟨bl, bv, h, hM _ h.lts.1 h1, hM _ h.lts.2.1 h2, hM _ h.lts.2.2 h3⟩
def slabR (s : Nat) (room used : Int) (sl : List (Int × List UInt8)) : Res := fun w N => ∃ bm l, SlabAt w s bm room used l ∧ mapv (·.2) l = sl ∧ N s ∧ N bm ∧ ∀ p ∈ l, N p.2.1
instance {s : Nat} {room used : Int} {sl : List (Int × List UInt8)} : Good (slabR s room used sl) where
  kept := fun ⟨bm, l, h, e, h1, h2, h3⟩ u hS => ⟨bm, l, h.kept u (fun hm => hS _ hm h1) (fun hm => hS _ hm h2) (fun p hp hm => hS _ hm (h3 p hp)), e, h1, h2, h3⟩
  mono := fun ⟨bm, l, h, e, h1, h2, h3⟩ hM => ⟨bm, l, h, e, hM _ h.lts.1 h1, hM _ h.lts.2.1 h2, fun p hp => hM _ (h.lts.2.2 p hp) (h3 p hp)⟩
section
variable {w0 w : World} {K : List (Nat × Obj)} {T : Res} [Good T]
section
variable {t : Nat} {L : Lasts} {V : Lives}
theorem tNew (h : SepK w0 w K T) : Calls Try.prog 18 #[] w fun e w' => ∃ t, e = .returned (.pointer (some ⟨t, 0, none⟩)) ∧ SepK w0 w' K (star (tabR t [] []) T) :=
  (New_spec w).mono fun e w' ⟨t, bl, bv, he, h1, u, g1, g2, g3⟩ => ⟨t, he, h.more u (M := fun b => w.heap.size ≤ b) ⟨bl, bv, h1, g1, g2, g3⟩ (fun _ hb => hb)⟩
theorem tMake (H : SepK w0 w K (star (tabR t L V) T)) (s : Int) (hs : okI s) :
    Calls Try.prog 19 #[.pointer (some ⟨t, 0, none⟩), .int .i64 s] w fun e w' => e = .returned (.tuple #[.agg #[.int .i64 (mkH L V s).1, .int .u64 (mkH L V s).2], .int .i64 (mkE V s)]) ∧ SepK w0 w' K (star (tabR t (mkL L V s) (mkV L V s)) T) :=
  H.call1 fun N ⟨bl, bv, h, h1, h2, h3⟩ hN => (Make_spec w t bl bv L V s h hs).mono fun e w' ⟨he, h', u⟩ => ⟨he, ⟨bl, bv, h', h1, h2, h3⟩, [bl, bv], fun y hy => (by simp at hy; rcases hy with rfl | rfl <;> assumption), u⟩
theorem tDrop (H : SepK w0 w K (star (tabR t L V) T)) (s g : Int) (hs : okI s) :
    Calls Try.prog 20 #[.pointer (some ⟨t, 0, none⟩), .agg #[.int .i64 s, .int .u64 g]] w fun e w' => e = .returned (.int .i64 (drE V s g)) ∧ SepK w0 w' K (star (tabR t L (drV V s g)) T) :=
  H.call1 fun N ⟨bl, bv, h, h1, h2, h3⟩ hN => (Drop_sp w t bl bv L V s g h hs).mono fun e w' ⟨he, h', u⟩ => ⟨he, ⟨bl, bv, h', h1, h2, h3⟩, [bv], fun y hy => (by simp at hy; subst hy; assumption), u⟩
theorem tLives (H : SepK w0 w K (star (tabR t L V) T)) (s g : Int) (hs : okI s) :
    Calls Try.prog 47 #[.pointer (some ⟨t, 0, none⟩), .agg #[.int .i64 s, .int .u64 g]] w fun e w' => e = .returned (.bool (decide (aget V s = some (s, g)))) ∧ SepK w0 w' K (star (tabR t L V) T) :=
  H.call0 fun N ⟨bl, bv, h, h1, h2, h3⟩ => (Lives_spec w t bl bv L V s g h hs).mono fun e w' ⟨he, u⟩ => ⟨he, ⟨bl, bv, h.kept u (by simp) (by simp) (by simp), h1, h2, h3⟩, u⟩
theorem tOf (H : SepK w0 w K (star (tabR t L V) T)) (s : Int) (hs : okI s) :
    Calls Try.prog 44 #[.pointer (some ⟨t, 0, none⟩), .int .i64 s] w fun e w' => e = .returned (.tuple #[.agg #[.int .i64 ((aget V s).getD (0, 0)).1, .int .u64 ((aget V s).getD (0, 0)).2], .bool (aget V s).isSome]) ∧ SepK w0 w' K (star (tabR t L V) T) :=
  H.call0 fun N ⟨bl, bv, h, h1, h2, h3⟩ => (Of_spec w t bl bv L V s h hs).mono fun e w' ⟨he, u⟩ => ⟨he, ⟨bl, bv, h.kept u (by simp) (by simp) (by simp), h1, h2, h3⟩, u⟩
end
section
variable {s : Nat} {room used : Int} {sl : List (Int × List UInt8)}
theorem lNew (h : SepK w0 w K T) (room : Int) (h0 : 0 ≤ room) (h1 : room ≤ 65536) : Calls Try.prog 22 #[.int .i64 room] w fun e w' => ∃ s, e = .returned (.tuple #[.pointer (some ⟨s, 0, none⟩), .int .i64 0]) ∧ SepK w0 w' K (star (slabR s room 0 []) T) :=
  (NewSlab_spec w room h0 h1).mono fun e w' ⟨s, bm, he, h1, u, g1, g2⟩ => ⟨s, he, h.more u (M := fun b => w.heap.size ≤ b) ⟨bm, [], h1, rfl, g1, g2, by simp⟩ (fun _ hb => hb)⟩
theorem lNew_no (h : SepK w0 w K T) (room : Int) (hr : room < 0 ∨ 65536 < room) : Calls Try.prog 22 #[.int .i64 room] w fun e w' => e = .returned (.tuple #[.pointer none, .int .i64 2]) ∧ SepK w0 w' K T :=
  (NewSlab_no w room hr).mono fun e w' ⟨he, u⟩ => ⟨he, h.upd u⟩
omit [Good T] in
theorem SepK.slots (h : SepK w0 w K (star (slabR s room used sl) T)) : (sl.map (·.1)).Nodup ∧ ∀ x ∈ sl.map (·.1), okI x := by
  obtain ⟨N, bm, l, h1, e, -⟩ := h.get
  rw [← e, keys_mapv]
  obtain ⟨es, cl, h1, h2, h3, h4⟩ := h1.map
  exact ⟨nodup_of ki.inj h2 h3, fun x hx => by obtain ⟨p, hp, rfl⟩ := List.mem_map.1 hx; exact h4 p hp⟩
theorem lUsed (H : SepK w0 w K (star (slabR s room used sl) T)) : Calls Try.prog 50 #[.pointer (some ⟨s, 0, none⟩)] w fun e w' => e = .returned (.int .i64 used) ∧ w = w' := by
  obtain ⟨N, bm, l, h, -⟩ := H.get
  exact Used_spec w s bm room used l h
theorem lRoom (H : SepK w0 w K (star (slabR s room used sl) T)) : Calls Try.prog 56 #[.pointer (some ⟨s, 0, none⟩)] w fun e w' => e = .returned (.int .i64 room) ∧ w = w' := by
  obtain ⟨N, bm, l, h, -⟩ := H.get
  exact Room_spec w s bm room used l h
theorem lSize_no (H : SepK w0 w K (star (slabR s room used sl) T)) (x : Int) (hx : okI x) (hn : aget sl x = none) : Calls Try.prog 57 #[.pointer (some ⟨s, 0, none⟩), .int .i64 x] w fun e w' => e = .returned (.tuple #[.int .i64 0, .bool false]) ∧ w = w' := by
  obtain ⟨N, bm, l, h, e, -⟩ := H.get
  exact Size_no w s bm room used l x h hx (by rw [← e, aget_mapv] at hn; simpa using hn)
theorem lSize_ok (H : SepK w0 w K (star (slabR s room used sl) T)) (x : Int) (hx : okI x) (bs : List UInt8) (hn : aget sl x = some bs) (hl : bs.length ≤ 1000) : Calls Try.prog 57 #[.pointer (some ⟨s, 0, none⟩), .int .i64 x] w fun e w' => e = .returned (.tuple #[.int .i64 (bs.length : Int), .bool true]) ∧ w = w' := by
  obtain ⟨N, bm, l, h, e, -⟩ := H.get
  rw [← e, aget_mapv] at hn
  obtain ⟨⟨b, bs'⟩, hq, he⟩ := Option.map_eq_some_iff.1 hn
  cases he
  exact Size_ok w s bm room used l x h hx b _ hq hl
theorem lGive_no (H : SepK w0 w K (star (slabR s room used sl) T)) (x : Int) (hx : okI x) (hn : aget sl x = none) : Calls Try.prog 51 #[.pointer (some ⟨s, 0, none⟩), .int .i64 x] w fun e w' => e = .returned (.int .i64 5) ∧ w = w' := by
  obtain ⟨N, bm, l, h, e, -⟩ := H.get
  exact Give_no w s bm room used l x h hx (by rw [← e, aget_mapv] at hn; simpa using hn)
theorem lGive_ok (H : SepK w0 w K (star (slabR s room used sl) T)) (x : Int) (hx : okI x) (bs : List UInt8) (hn : aget sl x = some bs) (hl : bs.length ≤ 1000) (h0 : 0 ≤ used) (h1 : used ≤ 65536) :
    Calls Try.prog 51 #[.pointer (some ⟨s, 0, none⟩), .int .i64 x] w fun e w' => e = .returned (.int .i64 0) ∧ SepK w0 w' K (star (slabR s room (used - cls bs.length) (adel sl x)) T) :=
  H.call1 fun N ⟨bm, l, h, e, g1, g2, g3⟩ hN => by
    rw [← e, aget_mapv] at hn
    obtain ⟨⟨b, bs'⟩, hq, he⟩ := Option.map_eq_some_iff.1 hn
    cases he
    refine (Give_ok w s bm room used l x h hx b _ hq hl h0 h1).mono fun e' w' ⟨he, h', u⟩ => ⟨he, ⟨bm, _, h', by rw [adel_mapv, e], g1, g2, fun p hp => g3 p (mem_adel hp).1⟩, [s, bm], fun y hy => (by simp at hy; rcases hy with rfl | rfl <;> assumption), u⟩
theorem lTake_ok (H : SepK w0 w K (star (slabR s room used sl) T)) (n : Int) (hn : okc n = true) (hr : used + cls n ≤ room) (h0 : 0 ≤ used) (h1 : room ≤ 65536) (hl : sl.length ≤ 100000) :
    Calls Try.prog 23 #[.pointer (some ⟨s, 0, none⟩), .int .i64 n] w fun e w' => ∃ k : Nat, (e = .returned (.tuple #[.int .i64 (k : Int), .int .i64 0]) ∧ (∀ j : Nat, j < k → (j : Int) ∈ sl.map (·.1)) ∧ (k : Int) ∉ sl.map (·.1)) ∧ SepK w0 w' K (star (slabR s room (used + cls n) (sl ++ [((k : Int), List.replicate n.toNat 0)])) T) :=
  H.call (α := Nat) (Q := fun k e => e = .returned (.tuple #[.int .i64 (k : Int), .int .i64 0]) ∧ (∀ j : Nat, j < k → (j : Int) ∈ sl.map (·.1)) ∧ (k : Int) ∉ sl.map (·.1)) (S := fun k => slabR s room (used + cls n) (sl ++ [((k : Int), List.replicate n.toNat 0)]))
    fun N ⟨bm, l, h, e, g1, g2, g3⟩ hN => by
      have ek : sl.map (·.1) = l.map (·.1) := by rw [← e, keys_mapv]
      rw [ek]
      refine (Take_ok w s bm room used n l h hn hr h0 h1 (by rw [← e] at hl; simpa [mapv] using hl)).mono fun e' w' ⟨k, b, he, p1, p2, h', hb, u⟩ => ⟨k, ⟨he, p1, p2⟩, ⟨bm, _, h', by simp [mapv, ← e], g1, g2, fun p hp => ?_⟩, [s, bm], fun y hy => (by simp at hy; rcases hy with rfl | rfl <;> assumption), u⟩
      rcases List.mem_append.1 hp with hp | hp
      · exact g3 p hp
      · obtain rfl := List.mem_singleton.1 hp
        exact hN _ hb
theorem lTake_arg (H : SepK w0 w K (star (slabR s room used sl) T)) (n : Int) (hn : okc n = false) : Calls Try.prog 23 #[.pointer (some ⟨s, 0, none⟩), .int .i64 n] w fun e w' => e = .returned (.tuple #[.int .i64 0, .int .i64 2]) ∧ SepK w0 w' K (star (slabR s room used sl) T) :=
  H.call0 fun N ⟨bm, l, h, e, g1, g2, g3⟩ => (Take_arg w s bm room used n l h hn).mono fun e' w' ⟨he, u⟩ => ⟨he, ⟨bm, l, h.keep u, e, g1, g2, g3⟩, u⟩
theorem lTake_full (H : SepK w0 w K (star (slabR s room used sl) T)) (n : Int) (hn : okc n = true) (hr : room < used + cls n) (h0 : 0 ≤ used) (h1 : used ≤ 65536) : Calls Try.prog 23 #[.pointer (some ⟨s, 0, none⟩), .int .i64 n] w fun e w' => e = .returned (.tuple #[.int .i64 0, .int .i64 6]) ∧ SepK w0 w' K (star (slabR s room used sl) T) :=
  H.call0 fun N ⟨bm, l, h, e, g1, g2, g3⟩ => (Take_full w s bm room used n l h hn hr h0 h1).mono fun e' w' ⟨he, u⟩ => ⟨he, ⟨bm, l, h.keep u, e, g1, g2, g3⟩, u⟩
end
end
end Go.Proofs.Ytgleceijdedlkaa
