/- The heap of objects, its blocks left out: each call by what it answers, and what the objects are then. -/
import Derived.Test.YtgleceijdedlkaaHeap3
namespace Go.Proofs.Ytgleceijdedlkaa
open Go.RowKit
set_option linter.unusedVariables false
set_option linter.unusedSimpArgs false
set_option linter.unusedSectionVars false
section
variable {K V W : Type} [DecidableEq K]
def mapv (f : V → W) (l : List (K × V)) : List (K × W) := l.map fun p => (p.1, f p.2)
theorem aget_mapv (f : V → W) (l : List (K × V)) (x : K) : aget (mapv f l) x = (aget l x).map f := by
  induction l with
  | nil => rfl
  | cons p l ih =>
    obtain ⟨k, u⟩ := p
    simp only [mapv, List.map_cons, aget] at ih ⊢
    split
    · rfl
    · exact ih
theorem aput_mapv (f : V → W) (l : List (K × V)) (x : K) (v : V) : mapv f (aput l x v) = aput (mapv f l) x (f v) := by
  induction l with
  | nil => rfl
  | cons p l ih =>
    obtain ⟨k, u⟩ := p
    simp only [mapv, List.map_cons, aput] at ih ⊢
    split
    · rfl
    · simp only [List.map_cons, ih]
theorem adel_mapv (f : V → W) (l : List (K × V)) (x : K) : mapv f (adel l x) = adel (mapv f l) x := by
  unfold mapv adel
  rw [List.filter_map]
  rfl
theorem keys_mapv (f : V → W) (l : List (K × V)) : (mapv f l).map (·.1) = l.map (·.1) := by
  simp [mapv, Function.comp_def]
end
/-- What a heap is, without its blocks. -/
structure HS where
  used : Int
  sl : List (Int × List UInt8)
  L : Lasts
  V : Lives
  ob : List ((Int × Int) × (Int × Int))
def HS.nil : HS := ⟨0, [], [], [], []⟩
/-- At x a heap; its blocks lie where N says. -/
def Held (w : World) (x : Nat) (room : Int) (st : HS) (N : Nat → Prop) : Prop :=
  ∃ B l O, B.x = x ∧ HeapAt w B room st.used l st.L st.V O ∧ mapv (·.2) l = st.sl ∧ mapv (·.2) O = st.ob ∧ ∀ b ∈ B.all l O, N b
variable {w w' : World} {x : Nat} {room : Int} {st : HS} {N : Nat → Prop}
theorem Held.kept {S : List Nat} (h : Held w x room st N) (u : Upd S w w') (hS : ∀ b ∈ S, ¬ N b) : Held w' x room st N := by
  obtain ⟨B, l, O, h1, h2, h3, h4, h5⟩ := h
  exact ⟨B, l, O, h1, h2.kept u (fun b hb hm => hS b hb (h5 b hm)), h3, h4, h5⟩
theorem Held.keep (h : Held w x room st N) (u : Upd [] w w') : Held w' x room st N := h.kept u (by simp)
/-- A block of the caller's own. -/
theorem Held.own (h : Held w x room st N) (o : Obj) : Held (w.alloc o) x room st (fun b => N b ∧ b ≠ w.heap.size) := by
  obtain ⟨B, l, O, h1, h2, h3, h4, h5⟩ := h
  exact ⟨B, l, O, h1, h2.keep ((Upd.refl [] w).alloc o), h3, h4, fun b hb => ⟨h5 b hb, by have := h2.lts b hb; omega⟩⟩
theorem Held.mono (h : Held w x room st N) {M : Nat → Prop} (hM : ∀ b, b < w.heap.size → N b → M b) : Held w x room st M := by
  obtain ⟨B, l, O, h1, h2, h3, h4, h5⟩ := h
  exact ⟨B, l, O, h1, h2, h3, h4, fun b hb => hM b (h2.lts b hb) (h5 b hb)⟩
theorem Held.inv1 (h : Held w x room st N) (s : Int) : (aget st.V s).isSome = (aget st.sl s).isSome := by
  obtain ⟨B, l, O, h1, h2, h3, h4, h5⟩ := h
  rw [h2.inv1, ← h3, aget_mapv]
  cases aget l s <;> rfl
theorem Held.inv2 (h : Held w x room st N) (q : Int × Int) : (aget st.ob q).isSome = true ↔ aget st.V q.1 = some q := by
  obtain ⟨B, l, O, h1, h2, h3, h4, h5⟩ := h
  rw [← h2.inv2, ← h4, aget_mapv]
  cases aget O q <;> simp
theorem Held.slot (h : Held w x room st N) {a b : Int} {y : Int × Int} (hg : aget st.ob (a, b) = some y) : ∃ bs, aget st.sl a = some bs := by
  have h1 := (h.inv2 (a, b)).1 (by rw [hg]; rfl)
  have h2 := h.inv1 a
  simp only at h1
  rw [h1] at h2
  cases hl : aget st.sl a with
  | none => rw [hl] at h2; cases h2
  | some y => exact ⟨y, rfl⟩
theorem Held.okH (h : Held w x room st N) {q : Int × Int} {y : Int × Int} (hg : aget st.ob q = some y) : okH q := by
  obtain ⟨B, l, O, h1, h2, h3, h4, h5⟩ := h
  rw [← h4, aget_mapv] at hg
  cases ho : aget O q with
  | none => rw [ho] at hg; cases hg
  | some z => exact h2.map.oks _ (aget_mem ho)
/-- What a call may turn. -/
def Turn (N : Nat → Prop) (w w' : World) : Prop := ∃ S : List Nat, (∀ b ∈ S, N b) ∧ Upd S w w'
theorem Turn.of (h : Upd [] w w') : Turn N w w' := ⟨[], by simp, h⟩
theorem Turn.heap (h : Turn N w w') {b : Nat} {o : Obj} (hb : w.heap[b]? = some o) (hN : ¬ N b) : w'.heap[b]? = some o := by
  obtain ⟨S, hS, u⟩ := h
  exact u.heap hb (fun hm => hN (hS b hm))
theorem Turn.size (h : Turn N w w') : w.heap.size ≤ w'.heap.size := by
  obtain ⟨S, _, u⟩ := h
  exact u.size
theorem Turn.upd {w0 : World} (h : Turn N w w') (h0 : Upd [] w0 w) (hN : ∀ b, N b → w0.heap.size ≤ b) : Upd [] w0 w' := by
  obtain ⟨S, hS, u⟩ := h
  exact h0.step u (fun b hb => .inr (hN b (hS b hb)))
theorem Turn.held {x' : Nat} {room' : Int} {st' : HS} {M : Nat → Prop} (h : Turn N w w') (g : Held w x' room' st' M) (hd : ∀ b, N b → ¬ M b) : Held w' x' room' st' M := by
  obtain ⟨S, hS, u⟩ := h
  exact g.kept u (fun b hb => hd b (hS b hb))

theorem hKind_no (H : Held w x room st N) (a b : Int) (hk : okH (a, b)) (hg : aget st.ob (a, b) = none) :
    Calls Try.prog 35 #[.pointer (some ⟨x, 0, none⟩), .agg #[.int .i64 a, .int .u64 b]] w fun e w' => e = .returned (.tuple #[.int .i64 0, .bool false]) ∧ Held w' x room st N ∧ Upd [] w w' := by
  obtain ⟨B, l, O, rfl, h, hl, hO, hB⟩ := H
  rw [← hO, aget_mapv, Option.map_eq_none_iff] at hg
  exact (Kind_no w B room st.used l st.L st.V O a b h hk hg).mono fun e w' ⟨he, u⟩ => ⟨he, ⟨B, l, O, rfl, h.keep u, hl, hO, hB⟩, u⟩
theorem hCount_no (H : Held w x room st N) (a b : Int) (hk : okH (a, b)) (hg : aget st.ob (a, b) = none) :
    Calls Try.prog 41 #[.pointer (some ⟨x, 0, none⟩), .agg #[.int .i64 a, .int .u64 b]] w fun e w' => e = .returned (.tuple #[.int .i64 0, .bool false]) ∧ Held w' x room st N ∧ Upd [] w w' := by
  obtain ⟨B, l, O, rfl, h, hl, hO, hB⟩ := H
  rw [← hO, aget_mapv, Option.map_eq_none_iff] at hg
  exact (Count_no w B room st.used l st.L st.V O a b h hk hg).mono fun e w' ⟨he, u⟩ => ⟨he, ⟨B, l, O, rfl, h.keep u, hl, hO, hB⟩, u⟩
theorem hHold_no (H : Held w x room st N) (a b : Int) (hk : okH (a, b)) (hg : aget st.ob (a, b) = none) :
    Calls Try.prog 32 #[.pointer (some ⟨x, 0, none⟩), .agg #[.int .i64 a, .int .u64 b]] w fun e w' => e = .returned (.tuple #[.int .i64 0, .int .i64 130]) ∧ Held w' x room st N ∧ Upd [] w w' := by
  obtain ⟨B, l, O, rfl, h, hl, hO, hB⟩ := H
  rw [← hO, aget_mapv, Option.map_eq_none_iff] at hg
  exact (Hold_no w B room st.used l st.L st.V O a b h hk hg).mono fun e w' ⟨he, u⟩ => ⟨he, ⟨B, l, O, rfl, h.keep u, hl, hO, hB⟩, u⟩
theorem hDrop_no (H : Held w x room st N) (a b : Int) (hk : okH (a, b)) (hg : aget st.ob (a, b) = none) :
    Calls Try.prog 33 #[.pointer (some ⟨x, 0, none⟩), .agg #[.int .i64 a, .int .u64 b]] w fun e w' => e = .returned (.tuple #[.int .i64 0, .int .i64 130]) ∧ Held w' x room st N ∧ Upd [] w w' := by
  obtain ⟨B, l, O, rfl, h, hl, hO, hB⟩ := H
  rw [← hO, aget_mapv, Option.map_eq_none_iff] at hg
  exact (HDrop_no w B room st.used l st.L st.V O a b h hk hg).mono fun e w' ⟨he, u⟩ => ⟨he, ⟨B, l, O, rfl, h.keep u, hl, hO, hB⟩, u⟩
theorem hFree_no (H : Held w x room st N) (a b : Int) (hk : okH (a, b)) (hg : aget st.ob (a, b) = none) :
    Calls Try.prog 34 #[.pointer (some ⟨x, 0, none⟩), .agg #[.int .i64 a, .int .u64 b]] w fun e w' => e = .returned (.int .i64 130) ∧ Held w' x room st N ∧ Upd [] w w' := by
  obtain ⟨B, l, O, rfl, h, hl, hO, hB⟩ := H
  rw [← hO, aget_mapv, Option.map_eq_none_iff] at hg
  exact (Free_no w B room st.used l st.L st.V O a b h hk hg).mono fun e w' ⟨he, u⟩ => ⟨he, ⟨B, l, O, rfl, h.keep u, hl, hO, hB⟩, u⟩
theorem hRead_no (H : Held w x room st N) (a b : Int) (i n : Int) (hk : okH (a, b)) (hg : aget st.ob (a, b) = none) :
    Calls Try.prog 36 #[.pointer (some ⟨x, 0, none⟩), .agg #[.int .i64 a, .int .u64 b], .int .i64 i, .int .i64 n] w fun e w' => e = .returned (.tuple #[.string ByteArray.empty, .int .i64 130]) ∧ Held w' x room st N ∧ Upd [] w w' := by
  obtain ⟨B, l, O, rfl, h, hl, hO, hB⟩ := H
  rw [← hO, aget_mapv, Option.map_eq_none_iff] at hg
  exact (HRead_no w B room st.used l st.L st.V O a b i n h hk hg).mono fun e w' ⟨he, u⟩ => ⟨he, ⟨B, l, O, rfl, h.keep u, hl, hO, hB⟩, u⟩
theorem hWrite_no (H : Held w x room st N) (a b : Int) (i : Int) (t : ByteArray) (hk : okH (a, b)) (hg : aget st.ob (a, b) = none) :
    Calls Try.prog 37 #[.pointer (some ⟨x, 0, none⟩), .agg #[.int .i64 a, .int .u64 b], .int .i64 i, .string t] w fun e w' => e = .returned (.int .i64 130) ∧ Held w' x room st N ∧ Upd [] w w' := by
  obtain ⟨B, l, O, rfl, h, hl, hO, hB⟩ := H
  rw [← hO, aget_mapv, Option.map_eq_none_iff] at hg
  exact (HWrite_no w B room st.used l st.L st.V O a b i t h hk hg).mono fun e w' ⟨he, u⟩ => ⟨he, ⟨B, l, O, rfl, h.keep u, hl, hO, hB⟩, u⟩
theorem hKind_ok (H : Held w x room st N) (a b c k : Int) (hg : aget st.ob (a, b) = some (c, k)) :
    Calls Try.prog 35 #[.pointer (some ⟨x, 0, none⟩), .agg #[.int .i64 a, .int .u64 b]] w fun e w' => e = .returned (.tuple #[.int .i64 k, .bool true]) ∧ Held w' x room st N ∧ Upd [] w w' := by
  have hk := H.okH hg
  have hsl := H.slot hg
  obtain ⟨B, l, O, rfl, h, hl, hO, hB⟩ := H
  have hg' := hg
  rw [← hO, aget_mapv] at hg
  obtain ⟨⟨p, c', k'⟩, hq, he⟩ := Option.map_eq_some_iff.1 hg
  cases he
  exact (Kind_ok w B room st.used l st.L st.V O a b h hk p c k hq).mono fun e w' ⟨he, u⟩ => ⟨he, ⟨B, l, O, rfl, h.keep u, hl, hO, hB⟩, u⟩
theorem hCount_ok (H : Held w x room st N) (a b c k : Int) (hg : aget st.ob (a, b) = some (c, k)) :
    Calls Try.prog 41 #[.pointer (some ⟨x, 0, none⟩), .agg #[.int .i64 a, .int .u64 b]] w fun e w' => e = .returned (.tuple #[.int .i64 c, .bool true]) ∧ Held w' x room st N ∧ Upd [] w w' := by
  have hk := H.okH hg
  have hsl := H.slot hg
  obtain ⟨B, l, O, rfl, h, hl, hO, hB⟩ := H
  have hg' := hg
  rw [← hO, aget_mapv] at hg
  obtain ⟨⟨p, c', k'⟩, hq, he⟩ := Option.map_eq_some_iff.1 hg
  cases he
  exact (Count_ok w B room st.used l st.L st.V O a b h hk p c k hq).mono fun e w' ⟨he, u⟩ => ⟨he, ⟨B, l, O, rfl, h.keep u, hl, hO, hB⟩, u⟩
theorem hHold_ok (H : Held w x room st N) (a b c k : Int) (hc : -1000000 ≤ c ∧ c ≤ 1000000) (hg : aget st.ob (a, b) = some (c, k)) :
    Calls Try.prog 32 #[.pointer (some ⟨x, 0, none⟩), .agg #[.int .i64 a, .int .u64 b]] w fun e w' => e = .returned (.tuple #[.int .i64 (c + 1), .int .i64 0]) ∧ Held w' x room { st with ob := aput st.ob (a, b) (c + 1, k) } N ∧ Turn N w w' := by
  have hk := H.okH hg
  have hsl := H.slot hg
  obtain ⟨B, l, O, rfl, h, hl, hO, hB⟩ := H
  have hg' := hg
  rw [← hO, aget_mapv] at hg
  obtain ⟨⟨p, c', k'⟩, hq, he⟩ := Option.map_eq_some_iff.1 hg
  cases he
  refine (Hold_ok w B room st.used l st.L st.V O a b h hk p c k hq hc).mono fun e w' ⟨he, h', u⟩ => ⟨he, ⟨B, l, _, rfl, h', hl, ?_, fun y hy => hB y ?_⟩, [p], fun y hy => hB y ?_, u⟩
  · rw [aput_mapv, hO]
  · have e1 : (aput O (a, b) (p, (c + 1, k))).map (·.2.1) = O.map (·.2.1) := aput_map_eq hq (fun q => q.2.1) rfl
    unfold HB.all at hy ⊢
    rw [e1] at hy
    exact hy
  · obtain rfl := List.mem_singleton.1 hy
    exact List.mem_append_right _ (List.mem_append_right _ (List.mem_map.2 ⟨_, aget_mem hq, rfl⟩))
theorem hDrop_ok (H : Held w x room st N) (a b c k : Int) (hc : -1000000 ≤ c ∧ c ≤ 1000000) (h0 : c ≠ 0) (hg : aget st.ob (a, b) = some (c, k)) :
    Calls Try.prog 33 #[.pointer (some ⟨x, 0, none⟩), .agg #[.int .i64 a, .int .u64 b]] w fun e w' => e = .returned (.tuple #[.int .i64 (c - 1), .int .i64 0]) ∧ Held w' x room { st with ob := aput st.ob (a, b) (c - 1, k) } N ∧ Turn N w w' := by
  have hk := H.okH hg
  have hsl := H.slot hg
  obtain ⟨B, l, O, rfl, h, hl, hO, hB⟩ := H
  have hg' := hg
  rw [← hO, aget_mapv] at hg
  obtain ⟨⟨p, c', k'⟩, hq, he⟩ := Option.map_eq_some_iff.1 hg
  cases he
  refine (HDrop_ok w B room st.used l st.L st.V O a b h hk p c k hq hc h0).mono fun e w' ⟨he, h', u⟩ => ⟨he, ⟨B, l, _, rfl, h', hl, ?_, fun y hy => hB y ?_⟩, [p], fun y hy => hB y ?_, u⟩
  · rw [aput_mapv, hO]
  · have e1 : (aput O (a, b) (p, (c - 1, k))).map (·.2.1) = O.map (·.2.1) := aput_map_eq hq (fun q => q.2.1) rfl
    unfold HB.all at hy ⊢
    rw [e1] at hy
    exact hy
  · obtain rfl := List.mem_singleton.1 hy
    exact List.mem_append_right _ (List.mem_append_right _ (List.mem_map.2 ⟨_, aget_mem hq, rfl⟩))
theorem hDrop_zero (H : Held w x room st N) (a b k : Int) (hg : aget st.ob (a, b) = some (0, k)) :
    Calls Try.prog 33 #[.pointer (some ⟨x, 0, none⟩), .agg #[.int .i64 a, .int .u64 b]] w fun e w' => e = .returned (.tuple #[.int .i64 0, .int .i64 3]) ∧ Held w' x room st N ∧ Upd [] w w' := by
  have hk := H.okH hg
  have hsl := H.slot hg
  obtain ⟨B, l, O, rfl, h, hl, hO, hB⟩ := H
  have hg' := hg
  rw [← hO, aget_mapv] at hg
  obtain ⟨⟨p, c', k'⟩, hq, he⟩ := Option.map_eq_some_iff.1 hg
  cases he
  exact (HDrop_zero w B room st.used l st.L st.V O a b h hk p k hq).mono fun e w' ⟨he, u⟩ => ⟨he, ⟨B, l, O, rfl, h.keep u, hl, hO, hB⟩, u⟩
theorem hFree_held (H : Held w x room st N) (a b c k : Int) (hc : 0 < c) (hg : aget st.ob (a, b) = some (c, k)) :
    Calls Try.prog 34 #[.pointer (some ⟨x, 0, none⟩), .agg #[.int .i64 a, .int .u64 b]] w fun e w' => e = .returned (.int .i64 3) ∧ Held w' x room st N ∧ Upd [] w w' := by
  have hk := H.okH hg
  have hsl := H.slot hg
  obtain ⟨B, l, O, rfl, h, hl, hO, hB⟩ := H
  have hg' := hg
  rw [← hO, aget_mapv] at hg
  obtain ⟨⟨p, c', k'⟩, hq, he⟩ := Option.map_eq_some_iff.1 hg
  cases he
  exact (Free_held w B room st.used l st.L st.V O a b h hk p c k hq hc).mono fun e w' ⟨he, u⟩ => ⟨he, ⟨B, l, O, rfl, h.keep u, hl, hO, hB⟩, u⟩
theorem hFree_ok (H : Held w x room st N) (a b c k : Int) (hc : c ≤ 0) (bs : List UInt8) (hbs : aget st.sl a = some bs) (hbl : bs.length ≤ 1000) (h0 : 0 ≤ st.used) (h1 : st.used ≤ 65536) (hg : aget st.ob (a, b) = some (c, k)) :
    Calls Try.prog 34 #[.pointer (some ⟨x, 0, none⟩), .agg #[.int .i64 a, .int .u64 b]] w fun e w' => e = .returned (.int .i64 0) ∧ Held w' x room { used := st.used - cls bs.length, sl := adel st.sl a, L := st.L, V := adel st.V a, ob := adel st.ob (a, b) } N ∧ Turn N w w' := by
  have hk := H.okH hg
  have hsl := H.slot hg
  obtain ⟨B, l, O, rfl, h, hl, hO, hB⟩ := H
  have hg' := hg
  rw [← hO, aget_mapv] at hg
  obtain ⟨⟨p, c', k'⟩, hq, he⟩ := Option.map_eq_some_iff.1 hg
  cases he
  rw [← hl, aget_mapv] at hbs
  obtain ⟨⟨g, bs'⟩, hlq, he⟩ := Option.map_eq_some_iff.1 hbs
  obtain rfl : bs = bs' := he.symm
  refine (Free_ok w B room st.used l st.L st.V O a b h hk p c k hq hc g bs hlq hbl h0 h1).mono fun e w' ⟨he, h', u⟩ => ⟨he, ⟨B, _, _, rfl, h', ?_, ?_, fun y hy => hB y ?_⟩, [B.s, B.bm, B.bv, B.bo], fun y hy => hB y ?_, u⟩
  · rw [adel_mapv, hl]
  · rw [adel_mapv, hO]
  · unfold HB.all at hy ⊢
    rcases List.mem_append.1 hy with hy | hy
    · exact List.mem_append_left _ hy
    · refine List.mem_append_right _ ?_
      rcases List.mem_append.1 hy with hy | hy
      · obtain ⟨q, hq', rfl⟩ := List.mem_map.1 hy
        exact List.mem_append_left _ (List.mem_map.2 ⟨q, (mem_adel hq').1, rfl⟩)
      · obtain ⟨q, hq', rfl⟩ := List.mem_map.1 hy
        exact List.mem_append_right _ (List.mem_map.2 ⟨q, (mem_adel hq').1, rfl⟩)
  · unfold HB.all
    refine List.mem_append_left _ ?_
    simp only [List.mem_cons, List.not_mem_nil, or_false] at hy ⊢
    omega
theorem hRead_ok (H : Held w x room st N) (a b c k : Int) (i n : Nat) (bs : List UInt8) (hbs : aget st.sl a = some bs) (hbl : bs.length ≤ 1000) (hf : i + n ≤ bs.length) (hg : aget st.ob (a, b) = some (c, k)) :
    Calls Try.prog 36 #[.pointer (some ⟨x, 0, none⟩), .agg #[.int .i64 a, .int .u64 b], .int .i64 (i : Int), .int .i64 (n : Int)] w fun e w' => e = .returned (.tuple #[.string (bstr ((bs.drop i).take n)), .int .i64 0]) ∧ Held w' x room st N ∧ Upd [] w w' := by
  have hk := H.okH hg
  have hsl := H.slot hg
  obtain ⟨B, l, O, rfl, h, hl, hO, hB⟩ := H
  have hg' := hg
  rw [← hO, aget_mapv] at hg
  obtain ⟨⟨p, c', k'⟩, hq, he⟩ := Option.map_eq_some_iff.1 hg
  cases he
  rw [← hl, aget_mapv] at hbs
  obtain ⟨⟨g, bs'⟩, hlq, he⟩ := Option.map_eq_some_iff.1 hbs
  obtain rfl : bs = bs' := he.symm
  exact (HRead_ok w B room st.used l st.L st.V O a b i n h hk p c k hq g bs hlq hbl hf).mono fun e w' ⟨he, u⟩ => ⟨he, ⟨B, l, O, rfl, h.keep u, hl, hO, hB⟩, u⟩
theorem hRead_bad (H : Held w x room st N) (a b c k : Int) (i n : Int) (bs : List UInt8) (hbs : aget st.sl a = some bs) (hbl : ∀ q ∈ st.sl, q.2.length ≤ 1000) (hi : okI i) (hn : okI n) (hf : ¬ fits bs.length i n) (hg : aget st.ob (a, b) = some (c, k)) :
    Calls Try.prog 36 #[.pointer (some ⟨x, 0, none⟩), .agg #[.int .i64 a, .int .u64 b], .int .i64 i, .int .i64 n] w fun e w' => e = .returned (.tuple #[.string ByteArray.empty, .int .i64 120]) ∧ Held w' x room st N ∧ Upd [] w w' := by
  have hk := H.okH hg
  have hsl := H.slot hg
  obtain ⟨B, l, O, rfl, h, hl, hO, hB⟩ := H
  have hg' := hg
  rw [← hO, aget_mapv] at hg
  obtain ⟨⟨p, c', k'⟩, hq, he⟩ := Option.map_eq_some_iff.1 hg
  cases he
  rw [← hl, aget_mapv] at hbs
  obtain ⟨⟨g, bs'⟩, hlq, he⟩ := Option.map_eq_some_iff.1 hbs
  obtain rfl : bs = bs' := he.symm
  have hbl' : ∀ q ∈ l, q.2.2.length ≤ 1000 := fun q hq => hbl (q.1, q.2.2) (by rw [← hl]; exact List.mem_map.2 ⟨q, hq, rfl⟩)
  exact (HRead_bad w B room st.used l st.L st.V O a b i n h hk p c k hq g bs hlq hbl' hi hn hf).mono fun e w' ⟨he, u⟩ => ⟨he, ⟨B, l, O, rfl, h.keep u, hl, hO, hB⟩, u⟩
theorem hWrite_bad (H : Held w x room st N) (a b c k : Int) (i : Int) (t : ByteArray) (bs : List UInt8) (hbs : aget st.sl a = some bs) (hbl : ∀ q ∈ st.sl, q.2.length ≤ 1000) (hi : okI i) (ht : okI t.size) (hf : ¬ fits bs.length i t.size) (hg : aget st.ob (a, b) = some (c, k)) :
    Calls Try.prog 37 #[.pointer (some ⟨x, 0, none⟩), .agg #[.int .i64 a, .int .u64 b], .int .i64 i, .string t] w fun e w' => e = .returned (.int .i64 120) ∧ Held w' x room st N ∧ Upd [] w w' := by
  have hk := H.okH hg
  have hsl := H.slot hg
  obtain ⟨B, l, O, rfl, h, hl, hO, hB⟩ := H
  have hg' := hg
  rw [← hO, aget_mapv] at hg
  obtain ⟨⟨p, c', k'⟩, hq, he⟩ := Option.map_eq_some_iff.1 hg
  cases he
  rw [← hl, aget_mapv] at hbs
  obtain ⟨⟨g, bs'⟩, hlq, he⟩ := Option.map_eq_some_iff.1 hbs
  obtain rfl : bs = bs' := he.symm
  have hbl' : ∀ q ∈ l, q.2.2.length ≤ 1000 := fun q hq => hbl (q.1, q.2.2) (by rw [← hl]; exact List.mem_map.2 ⟨q, hq, rfl⟩)
  exact (HWrite_bad w B room st.used l st.L st.V O a b i t h hk p c k hq g bs hlq hbl' hi ht hf).mono fun e w' ⟨he, u⟩ => ⟨he, ⟨B, l, O, rfl, h.keep u, hl, hO, hB⟩, u⟩
theorem hWrite_ok (H : Held w x room st N) (a b c k : Int) (i : Nat) (t : ByteArray) (bs : List UInt8) (hbs : aget st.sl a = some bs) (hbl : bs.length ≤ 1000) (hf : i + t.size ≤ bs.length) (hg : aget st.ob (a, b) = some (c, k)) :
    Calls Try.prog 37 #[.pointer (some ⟨x, 0, none⟩), .agg #[.int .i64 a, .int .u64 b], .int .i64 (i : Int), .string t] w fun e w' => e = .returned (.int .i64 0) ∧ Held w' x room { st with sl := aput st.sl a (over bs i t.data.toList) } N ∧ Turn N w w' := by
  have hk := H.okH hg
  have hsl := H.slot hg
  obtain ⟨B, l, O, rfl, h, hl, hO, hB⟩ := H
  have hg' := hg
  rw [← hO, aget_mapv] at hg
  obtain ⟨⟨p, c', k'⟩, hq, he⟩ := Option.map_eq_some_iff.1 hg
  cases he
  rw [← hl, aget_mapv] at hbs
  obtain ⟨⟨g, bs'⟩, hlq, he⟩ := Option.map_eq_some_iff.1 hbs
  obtain rfl : bs = bs' := he.symm
  refine (HWrite_ok w B room st.used l st.L st.V O a b i t h hk p c k hq g bs hlq hbl hf).mono fun e w' ⟨he, h', u⟩ => ⟨he, ⟨B, _, O, rfl, h', ?_, hO, fun y hy => hB y ?_⟩, [g], fun y hy => hB y ?_, u⟩
  · rw [aput_mapv, hl]
  · have e1 : (aput l a (g, over bs i t.data.toList)).map (·.2.1) = l.map (·.2.1) := aput_map_eq hlq (fun q => q.2.1) rfl
    unfold HB.all at hy ⊢
    rw [e1] at hy
    exact hy
  · obtain rfl := List.mem_singleton.1 hy
    exact List.mem_append_right _ (List.mem_append_left _ (List.mem_map.2 ⟨_, aget_mem hlq, rfl⟩))
theorem hUsed (H : Held w x room st N) : Calls Try.prog 62 #[.pointer (some ⟨x, 0, none⟩)] w fun e w' => e = .returned (.int .i64 st.used) ∧ w = w' := by
  obtain ⟨B, l, O, rfl, h, hl, hO, hB⟩ := H
  exact HUsed_spec w B room st.used l st.L st.V O h
theorem hRoom (H : Held w x room st N) : Calls Try.prog 63 #[.pointer (some ⟨x, 0, none⟩)] w fun e w' => e = .returned (.int .i64 room) ∧ w = w' := by
  obtain ⟨B, l, O, rfl, h, hl, hO, hB⟩ := H
  exact HRoom_spec w B room st.used l st.L st.V O h
theorem hNew (w : World) (room : Int) (h0 : 0 ≤ room) (h1 : room ≤ 65536) : Calls Try.prog 29 #[.int .i64 room] w fun e w' => ∃ x, e = .returned (.tuple #[.pointer (some ⟨x, 0, none⟩), .int .i64 0]) ∧ Held w' x room HS.nil (fun b => w.heap.size ≤ b) ∧ Upd [] w w' :=
  (NewHeap_ok w room h0 h1).mono fun e w' ⟨B, he, h, u, hB⟩ => ⟨B.x, he, ⟨B, [], [], rfl, h, rfl, rfl, hB⟩, u⟩
/-- One more object, of slot k. -/
def HS.made (st : HS) (k n kind : Int) : HS :=
  { used := st.used + cls n, sl := aput st.sl k (List.replicate n.toNat 0), L := aput st.L k (genOf st.L k), V := aput st.V k (k, genOf st.L k), ob := aput st.ob (k, genOf st.L k) (1, kind) }
theorem hMake_ok (H : Held w x room st N) (kind n : Int) (hN : ∀ b, w.heap.size ≤ b → N b) (hn : okc n = true) (hr : st.used + cls n ≤ room) (h0 : 0 ≤ st.used) (h1 : room ≤ 65536) (hl' : st.sl.length ≤ 100000) :
    Calls Try.prog 30 #[.pointer (some ⟨x, 0, none⟩), .int .i64 kind, .int .i64 n] w fun e w' => ∃ k : Nat, e = .returned (.tuple #[.agg #[.int .i64 (k : Int), .int .u64 (genOf st.L k)], .int .i64 0]) ∧ (∀ j : Nat, j < k → (j : Int) ∈ st.sl.map (·.1)) ∧ (k : Int) ∉ st.sl.map (·.1) ∧
      Held w' x room (st.made k n kind) N ∧ Turn N w w' := by
  obtain ⟨B, l, O, rfl, h, hl, hO, hB⟩ := H
  have ek : st.sl.map (·.1) = l.map (·.1) := by rw [← hl, keys_mapv]
  rw [ek]
  refine (HMake_ok w B room st.used kind n l st.L st.V O h hn hr h0 h1 (by rw [← hl] at hl'; simpa [mapv] using hl')).mono fun e w' ⟨k, g, p, he, p1, p2, h', hg, hp, u⟩ => ⟨k, he, p1, p2, ⟨B, _, _, rfl, h', ?_, ?_, fun y hy => ?_⟩, [B.s, B.bm, B.bl, B.bv, B.bo], fun y hy => hB y ?_, u⟩
  · rw [aput_mapv, hl]; rfl
  · rw [aput_mapv, hO]; rfl
  · unfold HB.all at hy
    rcases List.mem_append.1 hy with hy | hy
    · exact hB y (List.mem_append_left _ hy)
    · rcases List.mem_append.1 hy with hy | hy
      · obtain ⟨q, hq', rfl⟩ := List.mem_map.1 hy
        rcases mem_aput hq' with rfl | hq'
        · exact hN _ hg
        · exact hB _ (List.mem_append_right _ (List.mem_append_left _ (List.mem_map.2 ⟨q, hq', rfl⟩)))
      · obtain ⟨q, hq', rfl⟩ := List.mem_map.1 hy
        rcases mem_aput hq' with rfl | hq'
        · exact hN _ hp
        · exact hB _ (List.mem_append_right _ (List.mem_append_right _ (List.mem_map.2 ⟨q, hq', rfl⟩)))
  · unfold HB.all
    refine List.mem_append_left _ ?_
    simp only [List.mem_cons, List.not_mem_nil, or_false] at hy ⊢
    omega
theorem hMake_arg (H : Held w x room st N) (kind n : Int) (hn : okc n = false) :
    Calls Try.prog 30 #[.pointer (some ⟨x, 0, none⟩), .int .i64 kind, .int .i64 n] w fun e w' => e = .returned (.tuple #[.agg #[.int .i64 0, .int .u64 0], .int .i64 2]) ∧ Held w' x room st N ∧ Upd [] w w' := by
  obtain ⟨B, l, O, rfl, h, hl, hO, hB⟩ := H
  exact (HMake_no w B room st.used kind n l st.L st.V O h 2 (by omega) (fun w' hs => Take_arg w' _ _ _ _ n l hs hn)).mono fun e w' ⟨he, u⟩ => ⟨he, ⟨B, l, O, rfl, h.keep u, hl, hO, hB⟩, u⟩
theorem hMake_full (H : Held w x room st N) (kind n : Int) (hn : okc n = true) (hr : room < st.used + cls n) (h0 : 0 ≤ st.used) (h1 : st.used ≤ 65536) :
    Calls Try.prog 30 #[.pointer (some ⟨x, 0, none⟩), .int .i64 kind, .int .i64 n] w fun e w' => e = .returned (.tuple #[.agg #[.int .i64 0, .int .u64 0], .int .i64 6]) ∧ Held w' x room st N ∧ Upd [] w w' := by
  obtain ⟨B, l, O, rfl, h, hl, hO, hB⟩ := H
  exact (HMake_no w B room st.used kind n l st.L st.V O h 6 (by omega) (fun w' hs => Take_full w' _ _ _ _ n l hs hn hr h0 h1)).mono fun e w' ⟨he, u⟩ => ⟨he, ⟨B, l, O, rfl, h.keep u, hl, hO, hB⟩, u⟩
end Go.Proofs.Ytgleceijdedlkaa
