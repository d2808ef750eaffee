/- A hash's calls, each by one contract in plain words. -/
import Derived.Test.YtagjcnhgappcjaaHTexts
import Derived.Test.YtagjcnhgappcjaaHModel
namespace Go.Proofs.Ytagjcnhgappcjaa
open Go.RowKit
set_option linter.unusedVariables false
set_option linter.unusedSimpArgs false
set_option linter.unusedSectionVars false
/-- A hash of these values. -/
def hashR (size n : Int) (bs bv : Nat) (vs : Vs) (T : Res) : Res := fun w N => HB size n vs ∧ ∃ l, vsOf l = vs ∧ hR bs bv l T w N
instance {size n : Int} {bs bv : Nat} {vs : Vs} {T : Res} [Good T] : Good (hashR size n bs bv vs T) where
  kept := fun ⟨h, l, e, h1⟩ u hS => ⟨h, l, e, Good.kept h1 u hS⟩
  mono := fun ⟨h, l, e, h1⟩ hM => ⟨h, l, e, Good.mono h1 hM⟩
theorem SepK.tl {R T : Res} [Good T] {w0 w : World} {K : List (Nat × Obj)} (H : SepK w0 w K (star R T)) : SepK w0 w K T := by
  obtain ⟨u, A, B, h1, ⟨C, D, g1, g2, g3, g4, g5⟩, h3, h4, h5⟩ := H
  exact ⟨u, A, B, h1, Good.mono g2 (fun b _ hb => g4 b hb), h3, h4, h5⟩
section
variable {w0 w : World} {K : List (Nat × Obj)} {T : Res} [Good T] {h : Nat} {size n : Int} {bs bv : Nat} {vs : Vs}
theorem SepK.open (H : SepK w0 w K (hashR size n bs bv vs T)) : HB size n vs ∧ ∃ l, vsOf l = vs ∧ SepK w0 w K (hR bs bv l T) := by
  obtain ⟨u, A, B, h1, ⟨hb, l, e, h2⟩, h3⟩ := H
  exact ⟨hb, l, e, u, A, B, h1, h2, h3⟩
theorem SepK.close {l : List Ent} (H : SepK w0 w K (hR bs bv l T)) (hb : HB size n (vsOf l)) : SepK w0 w K (hashR size n bs bv (vsOf l) T) := H.imp fun _ g => ⟨hb, l, rfl, g⟩
theorem vs_none {l : List Ent} {x : Int} (h : aget (vsOf l) x = none) : aget l x = none := by
  rw [vsOf_get] at h
  cases hg : aget l x with
  | none => rfl
  | some v => rw [hg] at h; cases h
theorem vs_some {l : List Ent} {x : Int} {k : ByteArray} {L : List UInt8} (h : aget (vsOf l) x = some (k, L)) : ∃ ob gb, aget l x = some (ob, gb, k, L) := by
  rw [vsOf_get] at h
  cases hg : aget l x with
  | none => rw [hg] at h; cases h
  | some v =>
    rw [hg] at h
    obtain ⟨a, b, c, d⟩ := v
    cases h
    exact ⟨a, b, rfl⟩
theorem keys_vs (l : List Ent) : (vsOf l).map (·.1) = l.map (·.1) := by simp [vsOf]
theorem okI_of {x : Int} (h : 0 ≤ x ∧ x < n) (hn : n ≤ 256) : okI x := WalkArith.wf_i64 (by omega)
def putV (r : Int × Bool × Int) : Value := .tuple #[.int .i64 r.1, .bool r.2.1, .int .i64 r.2.2]
def twoV (r : Int × Int) : Value := .tuple #[.int .i64 r.1, .int .i64 r.2]
def strV (r : ByteArray × Bool) : Value := .tuple #[.string r.1, .bool r.2]
theorem cPut (H : SepK w0 w K (hashR size n bs bv vs T)) (hK : (h, hblk size n bs bv) ∈ K) (k : ByteArray) :
    Calls Try.prog 11 #[.pointer (some ⟨h, 0, none⟩), .string k] w fun e w' => e = .returned (putV (put size n vs k).1) ∧ SepK w0 w' K (hashR size n bs bv (put size n vs k).2 T) := by
  obtain ⟨hb, l, rfl, H1⟩ := H.open
  have hp := hb.put k
  unfold put at hp ⊢
  by_cases hk : k.size ≠ 8
  · rw [if_pos hk]
    exact (hPut_no H1 hK k hk).mono fun e w' ⟨h1, h2⟩ => ⟨h1, h2 ▸ H⟩
  · rw [if_neg hk] at hp ⊢
    have hk8 : k.size = 8 := by omega
    cases hg : aget (swp (vsOf l)) k with
    | some i => exact (hPut_old H1 hK k hk8 i hg).mono fun e w' ⟨h1, h2⟩ => ⟨h1, h2 ▸ H⟩
    | none =>
      rw [hg] at hp
      simp only at hp ⊢
      rcases freeV_cases n (vsOf l) with ⟨i, e, h1, h2, h3⟩ | ⟨e, h1⟩
      · rw [e] at hp ⊢
        refine (hPut_new H1 hK hb.s1 hb.s2 hb.n1 hb.n2 k hk8 hg ⟨i, h1, by rw [← keys_vs]; exact h2⟩).mono ?_
        rintro e' w' ⟨j, ob, gb, rfl, g1, g2, g3, g4⟩
        rw [← keys_vs] at g2
        have hj : freeV n (vsOf l) = some j := freeV_some g1 g2 (by rw [keys_vs]; exact g3)
        obtain rfl : i = j := by rw [e] at hj; exact Option.some.inj hj
        refine ⟨rfl, ?_⟩
        have e2 : vsOf (l ++ [((i : Int), (ob, gb, k, List.replicate size.toNat (0 : UInt8)))]) = vsOf l ++ [((i : Int), k, List.replicate size.toNat 0)] := by simp [vsOf]
        have g5 := g4.close (size := size) (n := n) (by rw [e2]; exact hp)
        rw [e2] at g5
        exact g5
      · rw [e] at hp ⊢
        exact (hPut_full H1 hK hb.n1 hb.n2 k hk8 hg (by rw [← keys_vs]; exact h1)).mono fun e w' ⟨h1, h2⟩ => ⟨h1, h2 ▸ H⟩
theorem cDrop (H : SepK w0 w K (hashR size n bs bv vs T)) (hK : (h, hblk size n bs bv) ∈ K) (k : ByteArray) :
    Calls Try.prog 12 #[.pointer (some ⟨h, 0, none⟩), .string k] w fun e w' => e = .returned (twoV (drop vs k).1) ∧ SepK w0 w' K (hashR size n bs bv (drop vs k).2 T) := by
  obtain ⟨hb, l, rfl, H1⟩ := H.open
  have hp := hb.drop k
  unfold drop at hp ⊢
  by_cases hk : k.size ≠ 8
  · rw [if_pos hk]
    exact (hDrop_no H1 hK k hk).mono fun e w' ⟨h1, h2⟩ => ⟨h1, h2 ▸ H⟩
  · rw [if_neg hk] at hp ⊢
    have hk8 : k.size = 8 := by omega
    cases hg : aget (swp (vsOf l)) k with
    | some i =>
      rw [hg] at hp
      obtain ⟨L, hL⟩ := hb.inv.find hg
      refine (hDrop H1 hK hb.inv k hk8 i hg (okI_of (hb.okI hL) hb.n2)).mono fun e w' ⟨h1, h2⟩ => ⟨h1, ?_⟩
      show SepK w0 w' K (hashR size n bs bv (adel (vsOf l) i) T)
      rw [← vsOf_adel]
      exact h2.close (by rw [vsOf_adel]; exact hp)
    | none => exact (hDrop_none H1 hK k hk8 hg).mono fun e w' ⟨h1, h2⟩ => ⟨h1, h2 ▸ H⟩
theorem cFind (H : SepK w0 w K (hashR size n bs bv vs T)) (hK : (h, hblk size n bs bv) ∈ K) (k : ByteArray) :
    Calls Try.prog 26 #[.pointer (some ⟨h, 0, none⟩), .string k] w fun e w' => e = .returned (twoV (find vs k)) ∧ w = w' := by
  obtain ⟨hb, l, rfl, H1⟩ := H.open
  unfold find
  by_cases hk : k.size ≠ 8
  · rw [if_pos hk]
    exact hFind_no H1 hK k hk
  · rw [if_neg hk]
    have hk8 : k.size = 8 := by omega
    cases hg : aget (swp (vsOf l)) k with
    | some i => exact hFind H1 hK k hk8 i hg
    | none => exact hFind_none H1 hK k hk8 hg
theorem cWrite (H : SepK w0 w K (hashR size n bs bv vs T)) (hK : (h, hblk size n bs bv) ∈ K) (x o : Int) (hx : okI x) (t : ByteArray) :
    Calls Try.prog 13 #[.pointer (some ⟨h, 0, none⟩), .int .i64 x, .int .i64 o, .string t] w fun e w' => e = .returned (.int .i64 (write size vs x o t).1) ∧ SepK w0 w' K (hashR size n bs bv (write size vs x o t).2 T) := by
  obtain ⟨hb, l, rfl, H1⟩ := H.open
  have hp := hb.write x o t
  unfold write at hp ⊢
  cases hg : aget (vsOf l) x with
  | none => exact (hWrite_none H1 hK x hx (vs_none hg) o t).mono fun e w' ⟨h1, h2⟩ => ⟨h1, h2 ▸ H⟩
  | some v =>
    obtain ⟨k, L⟩ := v
    rw [hg] at hp
    simp only at hp ⊢
    obtain ⟨ob, gb, hl⟩ := vs_some hg
    by_cases hf : 0 ≤ o ∧ o ≤ size ∧ (t.size : Int) ≤ size - o
    · rw [if_pos hf] at hp ⊢
      have hL : (L.length : Int) = size := hb.inv.bs (x, k, L) (aget_mem hg)
      have e : ((o.toNat : Nat) : Int) = o := by omega
      have := hWrite H1 hK hb.inv hb.s2 x hx hl o.toNat t (by show o.toNat + t.size ≤ L.length; omega)
      rw [e] at this
      refine this.mono fun e w' ⟨h1, h2⟩ => ⟨h1, ?_⟩
      have e3 := vsOf_aput l x (ob, gb, k, over L o.toNat t.data.toList)
      have h5 := h2.close (size := size) (n := n) (by rw [e3]; exact hp)
      rw [e3] at h5
      exact h5
    · rw [if_neg hf]
      exact (hWrite_no H1 hK hb.s1 hb.s2 x hx hl o t (by omega)).mono fun e w' ⟨h1, h2⟩ => ⟨h1, h2 ▸ H⟩
theorem cGet (H : SepK w0 w K (hashR size n bs bv vs T)) (hK : (h, hblk size n bs bv) ∈ K) (x : Int) (hx : okI x) :
    Calls Try.prog 14 #[.pointer (some ⟨h, 0, none⟩), .int .i64 x] w fun e w' => e = .returned (strV (hget vs x)) ∧ w = w' := by
  obtain ⟨hb, l, rfl, H1⟩ := H.open
  unfold hget
  cases hg : aget (vsOf l) x with
  | none => exact hGet_none H1 hK x hx (vs_none hg)
  | some v =>
    obtain ⟨k, L⟩ := v
    obtain ⟨ob, gb, hl⟩ := vs_some hg
    exact hGet H1 hK x hx hl
theorem cKey (H : SepK w0 w K (hashR size n bs bv vs T)) (hK : (h, hblk size n bs bv) ∈ K) (x : Int) (hx : okI x) :
    Calls Try.prog 15 #[.pointer (some ⟨h, 0, none⟩), .int .i64 x] w fun e w' => e = .returned (strV (hkey vs x)) ∧ w = w' := by
  obtain ⟨hb, l, rfl, H1⟩ := H.open
  unfold hkey
  cases hg : aget (vsOf l) x with
  | none => exact hKey_none H1 hK x hx (vs_none hg)
  | some v =>
    obtain ⟨k, L⟩ := v
    obtain ⟨ob, gb, hl⟩ := vs_some hg
    exact hKey H1 hK x hx hl
theorem cSize (H : SepK w0 w K (hashR size n bs bv vs T)) (hK : (h, hblk size n bs bv) ∈ K) : Calls Try.prog 17 #[.pointer (some ⟨h, 0, none⟩)] w fun e w' => e = .returned (.int .i64 size) ∧ w = w' := by
  obtain ⟨hb, l, rfl, H1⟩ := H.open
  exact hSize H1 hK
def slotsV (vs : Vs) : List (List Value) := (keysOf vs).map encI
def keysV (vs : Vs) : List (List Value) := (textsOf (swp vs)).map encT
theorem keysOf_vs (l : List Ent) : keysOf l = keysOf (vsOf l) := by unfold keysOf; rw [keys_vs]
theorem cSlots (H : SepK w0 w K (hashR size n bs bv vs T)) (hK : (h, hblk size n bs bv) ∈ K) :
    Calls Try.prog 20 #[.pointer (some ⟨h, 0, none⟩)] w fun e w' => ∃ v, e = .returned v ∧ SepK w0 w' K (star (rowR 3 1 v (slotsV vs)) (hashR size n bs bv vs T)) := by
  obtain ⟨hb, l, rfl, H1⟩ := H.open
  have hl := hb.len
  have hn := hb.n2
  have e : (vsOf l).length = l.length := by simp [vsOf]
  refine (hSlots H1 hK (by omega)).mono fun e w' ⟨v, h1, h2⟩ => ⟨v, h1, ?_⟩
  rw [keysOf_vs] at h2
  exact h2.imp fun _ g => star_imp g fun _ g => ⟨hb, l, rfl, g⟩
theorem cKeys (H : SepK w0 w K (hashR size n bs bv vs T)) (hK : (h, hblk size n bs bv) ∈ K) :
    Calls Try.prog 24 #[.pointer (some ⟨h, 0, none⟩)] w fun e w' => ∃ v, e = .returned v ∧ SepK w0 w' K (star (rowR 9 1 v (keysV vs)) (hashR size n bs bv vs T)) := by
  obtain ⟨hb, l, rfl, H1⟩ := H.open
  have hl := hb.len
  have hn := hb.n2
  have e : (vsOf l).length = l.length := by simp [vsOf]
  refine (hKeys H1 hK (by omega)).mono fun e w' ⟨v, h1, h2⟩ => ⟨v, h1, ?_⟩
  exact h2.imp fun _ g => star_imp g fun _ g => ⟨hb, l, rfl, g⟩
theorem cNew (H : SepK w0 w K T) (size n : Int) (h1 : 1 ≤ size) (h2 : size ≤ 128) (h3 : 1 ≤ n) (h4 : n ≤ 256) :
    Calls Try.prog 10 #[.int .i64 size, .int .i64 n] w fun e w' => ∃ h bs bv, e = .returned (.tuple #[.pointer (some ⟨h, 0, none⟩), .int .i64 0]) ∧ SepK w0 w' ((h, hblk size n bs bv) :: K) (hashR size n bs bv [] T) :=
  (hNew H size n h1 h2 h3 h4).mono fun e w' ⟨h, bs, bv, g1, g2⟩ => ⟨h, bs, bv, g1, SepK.close (l := []) g2 (.start h1 h2 h3 h4)⟩
end
end Go.Proofs.Ytagjcnhgappcjaa
