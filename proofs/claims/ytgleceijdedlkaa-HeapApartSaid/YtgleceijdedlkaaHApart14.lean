/- HeapApart: the walk. -/
import Derived.Test.YtgleceijdedlkaaDoes14f
import Derived.Test.YtgleceijdedlkaaOpen14
import Derived.Deep.RegionHeld3
import Derived.IntWalk
namespace Go.Proofs.Ytgleceijdedlkaa
open Go.RowKit
set_option linter.unusedVariables false
set_option linter.unusedSimpArgs false
theorem okH0 : okH (0, 0) := ⟨by decide, by decide⟩
theorem fits32 {t : ByteArray} (h : t.size ≤ 32) : (List.replicate 32 (0 : UInt8)).length = 32 ∧ 0 + t.size ≤ (List.replicate 32 (0 : UInt8)).length := by simp; omega
def h01 : Obj := .cells #[.int .i64 0, .int .u64 1] 30 (0, 0)
theorem Inv.mono {room : Int} {n m : Nat} {st : HS} (h : Inv room n st) (hm : n ≤ m) : Inv room m st :=
  { h with bd := fun q c k hq => by have := h.bd q c k hq; omega, len := by have := h.len; omega }
theorem Ap.mono {n m : Nat} {stx sty : HS} {c : Int} {bs : List UInt8} (h : Ap n stx sty c bs) (hm : n ≤ m) : Ap m stx sty c bs := { h with inv := h.inv.mono hm }
theorem Ap.start {t : ByteArray} (ht : t.size ≤ 32) : Ap 2 { HS.nil.made 0 32 3 with sl := aput (HS.nil.made 0 32 3).sl 0 (over (List.replicate 32 0) 0 t.data.toList) } { HS.nil.made 0 32 3 with sl := aput (HS.nil.made 0 32 3).sl 0 (over (List.replicate 32 0) 0 t.data.toList) } 1 (over (List.replicate 32 0) 0 t.data.toList) := by
  have h1 : Inv 65536 1 (HS.nil.made 0 32 3) := (Inv.start 65536 (by omega)).made 0 32 3 (by simp [HS.nil]) rfl (by simp [HS.nil, cls])
  have e : ((32 : Int)).toNat = 32 := rfl
  refine ⟨h1.write 0 (List.replicate 32 0) _ rfl (over_length _ _ _ (fits32 ht).2), rfl, rfl, aget_aput_self _ _ _, aget_aput_self _ _ _, ?_⟩
  rw [over_length _ _ _ (fits32 ht).2]
  simp
theorem rowlast {w0 w : World} {K : List (Nat × Obj)} {R T U : Res} {bo oo n c : Nat} {al : List (Int × Int)} (h : SepK w0 w K (star R (star T (star (rowR 30 2 (.slice (some ⟨bo, oo, none⟩) n c) (al.map encH)) U)))) {m : Nat} {p : Int × Int} (hp : al[m]? = some p) :
    w.cell? ⟨bo, oo + m * 2, none⟩ = some (.int .i64 p.1) ∧ w.cell? ⟨bo, oo + m * 2 + 1, none⟩ = some (.int .u64 p.2) := by
  obtain ⟨A, c', e, hr⟩ := h.pull2.row
  cases e
  obtain ⟨b', o', e, hc⟩ := hr m (encH p) (by rw [List.getElem?_map, hp]; rfl)
  cases e
  exact ⟨hc 0 _ rfl, hc 1 _ rfl⟩
set_option maxRecDepth 100000 in
set_option maxHeartbeats 8000000 in
theorem apart_walk (A : Option Addr) (c : Nat) (l : List St14) (t : ByteArray) (w : World) (hl : RowsAt w A 8 (l.map encS)) (hs : ∀ s ∈ l, okS s) (ht : t.size ≤ reach) :
    Calls Try.prog 7 #[.slice A l.length c, .string t] w fun e w' => e = .returned (.bool true) ∧ Upd [] w w' := by
  cases hb : heavyB l
  · have hlen : l.length ≤ 250 := by
      have : decide ((250 : Int) < l.length) = false := (Bool.or_eq_false_iff.1 hb).1
      have := of_decide_eq_false this
      omega
    by_cases h32 : t.size ≤ 32
    · have z0 : decide ((32 : Int) < (t.size : Int)) = false := decide_eq_false (by omega)
      go_enter Try.func7, Try.ntmps7
      go_wp2_with fail
      refine (heavy_spec A c l w hl hs).mono ?_
      rintro e w1 ⟨rfl, u1⟩
      rw [hb]
      go_wp2_with fail
      refine (sNew ((SepK.start w).upd u1) 65536 (by omega) (by omega)).mono ?_
      rintro e w2 ⟨x, rfl, h2⟩
      go_wp2_with fail
      refine (sNew h2 65536 (by omega) (by omega)).mono ?_
      rintro e w3 ⟨y, rfl, h3⟩
      replace h3 := h3.swap
      go_wp2_with fail
      refine (sMake_ok h3 3 32 rfl (by simp [HS.nil, cls]) (by simp [HS.nil]) (by omega) (by simp [HS.nil])).mono ?_
      rintro e w4 ⟨k, ⟨rfl, p1, p2⟩, h4⟩
      obtain rfl : k = 0 := by
        rcases Nat.eq_zero_or_pos k with h | h
        · exact h
        · exact absurd (p1 0 h) (by simp [HS.nil])
      clear p1 p2
      have h4' := (h4.alloc h01).swap
      go_wp2_with fail
      refine (sMake_ok h4' 3 32 rfl (by simp [HS.nil, cls]) (by simp [HS.nil]) (by omega) (by simp [HS.nil])).mono ?_
      rintro e w5 ⟨k, ⟨rfl, p1, p2⟩, h5⟩
      obtain rfl : k = 0 := by
        rcases Nat.eq_zero_or_pos k with h | h
        · exact h
        · exact absurd (p1 0 h) (by simp [HS.nil])
      clear p1 p2
      have h5' := (h5.alloc h01).swap
      have f9 := h5.blk (b := w4.heap.size) (o := h01) (by simp)
      have l9 := lt_of_heap f9
      have q9 := cell_of f9 0
      have q9b := cell_of f9 1
      simp only [List.getElem?_toArray, List.getElem?_cons_zero, List.getElem?_cons_succ] at q9 q9b
      go_wp2_with fail
      refine (sWrite_ok h5' 0 1 1 3 0 t (List.replicate 32 0) rfl (by simp) (fits32 h32).2 rfl).mono ?_
      rintro e w6 ⟨rfl, h6⟩
      clear f9 q9 q9b
      replace h6 := h6.swap
      have f9 := h6.blk (b := w4.heap.size) (o := h01) (by simp)
      have f11 := h6.blk (b := w5.heap.size) (o := h01) (by simp)
      have q11 := cell_of f11 0
      have q11b := cell_of f11 1
      simp only [List.getElem?_toArray, List.getElem?_cons_zero, List.getElem?_cons_succ] at q11 q11b
      go_wp2_with fail
      refine (sWrite_ok h6 0 1 1 3 0 t (List.replicate 32 0) rfl (by simp) (fits32 h32).2 rfl).mono ?_
      rintro e w7 ⟨rfl, h7⟩
      clear q11 q11b
      have hA := Ap.start h32
      replace h7 := h7.swap
      generalize over (List.replicate 32 0) 0 t.data.toList = bs at h7 hA
      generalize hg9 : w4.heap.size = g9 at h7 f9 f11
      generalize hg11 : w5.heap.size = g11 at h7 f9 f11
      go_wp2_with fail
      replace h7 := (h7.row1 30 2 #[] rfl).push2
      clear f9 f11
      go_loopg [13, 14] l.length (fun kq v13 v14 w' => ∃ (i : Nat) (stx sty : HS) (c : Int) (al : List (Int × Int)), v14 = .int .i64 (i : Int) ∧ kq + i = l.length ∧ SepK w w' [(g9, h01), (g11, h01)] (star (heldR x 65536 stx) (star (heldR y 65536 sty) (star (rowR 30 2 v13 (al.map encH)) emp))) ∧ Ap (2 + 2 * i) stx sty c bs ∧ al.length ≤ i ∧ ∀ q ∈ al, okH q ∧ q ≠ (0, 1))
      case atStart => exact ⟨0, _, _, 1, [], rfl, rfl, h7.drop _ (by simp), hA, by simp, by simp⟩
      case round =>
        clear h7 hA
        obtain ⟨i, stx, sty, c, al, rfl, hk, hS, hA, hal, hok⟩ := hrel
        by_cases hi : i < l.length
        · have z1 : decide ((i : Int) < (l.length : Int)) = true := decide_eq_true (by omega)
          obtain ⟨s, hx⟩ : ∃ x, l[i]? = some x := ⟨l[i], List.getElem?_eq_getElem hi⟩
          obtain ⟨b, off, rfl, hc⟩ := (hl.keep hS.u) i (encS s) (by rw [List.getElem?_map, hx]; rfl)
          have k0 : wr.cell? ⟨b, off + i * 8, none⟩ = some (.int .i64 s.d) := hc 0 _ rfl
          have k1 : wr.cell? ⟨b, off + i * 8 + 1, none⟩ = some (.int .i64 s.who) := hc 1 _ rfl
          have k2 : wr.cell? ⟨b, off + i * 8 + 2, none⟩ = some (.int .i64 s.kind) := hc 2 _ rfl
          have k3 : wr.cell? ⟨b, off + i * 8 + 3, none⟩ = some (.int .i64 s.pos) := hc 3 _ rfl
          have k4 : wr.cell? ⟨b, off + i * 8 + 4, none⟩ = some (.int .i64 s.n) := hc 4 _ rfl
          have k5 : wr.cell? ⟨b, off + i * 8 + 5, none⟩ = some (.string s.s) := hc 5 _ rfl
          have k6 : wr.cell? ⟨b, off + i * 8 + 6, none⟩ = some (.int .i64 s.h.1) := hc 6 _ rfl
          have k7 : wr.cell? ⟨b, off + i * 8 + 7, none⟩ = some (.int .u64 s.h.2) := hc 7 _ rfl
          have hsk := hs _ (List.mem_of_getElem? hx)
          clear hc hx
          by_cases d0 : s.d = 0
          · have z2 : (s.d == 0) = true := by simpa using d0
            go_wp2_with fail
            have hS1 := hS.alloc (.cells #[.int .i64 0, .int .i64 s.who, .int .i64 s.kind, .int .i64 s.pos, .int .i64 s.n, .string s.s, .int .i64 s.h.1, .int .u64 s.h.2] 56)
            have hle := hA.inv.le
            have hlen' := hA.inv.len
            by_cases hru : stx.used + cls 16 ≤ 65536
            · refine (sMake_ok hS1 s.kind 16 rfl hru hA.inv.lo (by omega) (by omega)).mono ?_
              rintro e wa ⟨k, ⟨rfl, p1, p2⟩, h4⟩
              have hno : aget stx.ob ((k : Int), genOf stx.L k) = none := fresh_none hS1 p2
              have hA' := hA.made k s.kind p2 hru hno
              have hkq : okH ((k : Int), genOf stx.L k) := h4.okH (y := (1, s.kind)) (by simp [HS.made, aget_aput])
              have hne : ((k : Int), genOf stx.L k) ≠ (0, 1) := fun e => by rw [e, hA.ox] at hno; cases hno
              obtain ⟨g, hg⟩ : ∃ g, g = genOf stx.L k := ⟨_, rfl⟩
              rw [← hg] at hkq hne ⊢
              clear hno p1 p2 hg hle hlen'
              have h5 := h4.pull2.alloc (.cells #[.int .i64 (k : Int), .int .u64 g] 30)
              have h6 := h5.alloc (.cells #[.int .i64 (k : Int), .int .u64 g] 30)
              obtain ⟨i0, hi0, hz0, hz1, hz2⟩ := info_parts info30
              have hnew : ∀ (j : Nat) (u : Value), [Value.int .i64 (k : Int), Value.int .u64 g][j]? = some u → ((wa.alloc (.cells #[.int .i64 (k : Int), .int .u64 g] 30)).alloc (.cells #[.int .i64 (k : Int), .int .u64 g] 30)).cell? ((⟨wa.heap.size + 1, 0, none⟩ : Addr).add j) = some u := by
                have := cell_two_new (wa.alloc (.cells #[.int .i64 (k : Int), .int .u64 g] 30)) (.int .i64 (k : Int)) (.int .u64 g) 30
                rwa [alloc_size] at this
              clear hS hS1 k0 k1 k2 k3 k4 k5 k6 k7 h4 h5
              obtain ⟨al', hal'⟩ : ∃ al', al' = al ++ [((k : Int), g)] := ⟨_, rfl⟩
              have hll : al'.length ≤ al.length + 1 := by rw [hal']; simp
              have zl : decide ((0 : Int) < (al'.length : Int)) = true := decide_eq_true (by rw [hal']; simp)
              have zp : 0 < al'.length := by rw [hal']; simp
              have happ : al.map encH ++ [[.int .i64 (k : Int), .int .u64 g]] = al'.map encH := by rw [hal']; simp [encH]
              have hmem : ∀ q, q ∈ al' → q ∈ al ∨ q = ((k : Int), g) := fun q hq => by rw [hal'] at hq; simpa using hq
              clear hal'
              go_wp2_with ((at_builtin; refine wl_append rfl _ _ 54 rfl 30 i0 (.agg #[.int .i64 0, .int .u64 0]) 2 16 Try.underlying54 hi0 hz0 hz1 hz2 rfl (by decide) _ _ rfl h6 ⟨wa.heap.size + 1, 0, none⟩ 1 [.int .i64 (k : Int), .int .u64 g] rfl rfl hnew (fun x hx => by simp at hx; rcases hx with rfl | rfl <;> rfl) (by unfold maxLen; simp; omega) (by simp; omega) ?_; intro v' w5 h8; rw [happ] at h8; obtain ⟨A9, c9, rfl, hrow⟩ := h8.row; clear hrow; rw [List.length_map] at h8 ⊢; have fs := h8.blk (List.mem_cons_of_mem _ (List.mem_cons_of_mem _ List.mem_cons_self)); have qs := cell_of fs 0; simp only [List.getElem?_toArray, List.getElem?_cons_zero, List.getElem?_cons_succ] at qs))
              go_roundg (gk - 1)
              case measure => omega
              case rel =>
                refine ⟨i + 1, _, _, _, al', by go_num, by omega, h8.push2.drop [(g9, h01), (g11, h01)] (fun p hp => List.mem_cons_of_mem _ (List.mem_cons_of_mem _ (List.mem_cons_of_mem _ hp))), Ap.mono hA' (by omega), by omega, fun q hq => ?_⟩
                rcases hmem q hq with hq | hq
                · exact hok q hq
                · subst hq
                  exact ⟨hkq, hne⟩
            · refine (sMake_full hS1 s.kind 16 rfl (by omega) hA.inv.lo (by omega)).mono ?_
              rintro e wa ⟨rfl, h4⟩
              clear hle hlen'
              have h5 := h4.pull2.alloc (.cells #[.int .i64 0, .int .u64 0] 30)
              have h6 := h5.alloc (.cells #[.int .i64 0, .int .u64 0] 30)
              obtain ⟨i0, hi0, hz0, hz1, hz2⟩ := info_parts info30
              have hnew : ∀ (j : Nat) (u : Value), [Value.int .i64 0, Value.int .u64 0][j]? = some u → ((wa.alloc (.cells #[.int .i64 0, .int .u64 0] 30)).alloc (.cells #[.int .i64 0, .int .u64 0] 30)).cell? ((⟨wa.heap.size + 1, 0, none⟩ : Addr).add j) = some u := by
                have := cell_two_new (wa.alloc (.cells #[.int .i64 0, .int .u64 0] 30)) (.int .i64 0) (.int .u64 0) 30
                rwa [alloc_size] at this
              clear hS hS1 k0 k1 k2 k3 k4 k5 k6 k7 h4 h5
              obtain ⟨al', hal'⟩ : ∃ al', al' = al ++ [(0, 0)] := ⟨_, rfl⟩
              have hll : al'.length ≤ al.length + 1 := by rw [hal']; simp
              have zl : decide ((0 : Int) < (al'.length : Int)) = true := decide_eq_true (by rw [hal']; simp)
              have zp : 0 < al'.length := by rw [hal']; simp
              have happ : al.map encH ++ [[.int .i64 0, .int .u64 0]] = al'.map encH := by rw [hal']; simp [encH]
              have hmem : ∀ q, q ∈ al' → q ∈ al ∨ q = (0, 0) := fun q hq => by rw [hal'] at hq; simpa using hq
              clear hal'
              go_wp2_with ((at_builtin; refine wl_append rfl _ _ 54 rfl 30 i0 (.agg #[.int .i64 0, .int .u64 0]) 2 16 Try.underlying54 hi0 hz0 hz1 hz2 rfl (by decide) _ _ rfl h6 ⟨wa.heap.size + 1, 0, none⟩ 1 [.int .i64 0, .int .u64 0] rfl rfl hnew (fun x hx => by simp at hx; rcases hx with rfl | rfl <;> rfl) (by unfold maxLen; simp; omega) (by simp; omega) ?_; intro v' w5 h8; rw [happ] at h8; obtain ⟨A9, c9, rfl, hrow⟩ := h8.row; clear hrow; rw [List.length_map] at h8 ⊢; have fs := h8.blk (List.mem_cons_of_mem _ (List.mem_cons_of_mem _ List.mem_cons_self)); have qs := cell_of fs 0; simp only [List.getElem?_toArray, List.getElem?_cons_zero, List.getElem?_cons_succ] at qs))
              go_roundg (gk - 1)
              case measure => omega
              case rel =>
                refine ⟨i + 1, _, _, _, al', by go_num, by omega, h8.push2.drop [(g9, h01), (g11, h01)] (fun p hp => List.mem_cons_of_mem _ (List.mem_cons_of_mem _ (List.mem_cons_of_mem _ hp))), Ap.mono hA (by omega), by omega, fun q hq => ?_⟩
                rcases hmem q hq with hq | hq
                · exact hok q hq
                · subst hq
                  exact ⟨okH0, by decide⟩
          · have z2 : (s.d == 0) = false := by simpa using d0
            obtain ⟨A8, c8, rfl, hrow⟩ := hS.pull2.row
            rw [List.length_map] at hS ⊢
            have hbd := hA.inv.bd (0, 1) c 3 hA.ox
            by_cases d1 : s.d = 1
            · have z3 : (s.d == 1) = true := by simpa using d1
              have hsk1 : okS ⟨1, s.who, s.kind, s.pos, s.n, s.s, s.h⟩ := by have h := hsk; unfold okS at h ⊢; rw [d1] at h; exact h
              rcases Nat.lt_or_ge al.length 1 with hm | hm
              · have zl : decide ((0 : Int) < (al.length : Int)) = false := decide_eq_false (by omega)
                go_upto_region 21 with fail
                clear hrow
                have hh := hS.alloc (.cells #[.int .i64 1, .int .i64 s.who, .int .i64 s.kind, .int .i64 s.pos, .int .i64 s.n, .string s.s, .int .i64 s.h.1, .int .u64 s.h.2] 56)
                clear hS k0 k1 k2 k3 k4 k5 k6 k7
                generalize hw1 : wr.alloc (.cells #[.int .i64 1, .int .i64 s.who, .int .i64 s.kind, .int .i64 s.pos, .int .i64 s.n, .string s.s, .int .i64 s.h.1, .int .u64 s.h.2] 56) = w1 at hh ⊢
                generalize hsb : wr.heap.size = sb at hh ⊢
                clear hw1 hsb
                have f9 := hh.blk (b := g9) (o := h01) (by simp)
                have f11 := hh.blk (b := g11) (o := h01) (by simp)
                have fs := hh.blk (b := sb) (by simp; exact .inl rfl)
                have l9 := lt_of_heap f9
                have l11 := lt_of_heap f11
                have ls := lt_of_heap fs
                have q9 := cell_of f9 0
                have q9b := cell_of f9 1
                have q11 := cell_of f11 0
                have q11b := cell_of f11 1
                have qs := cell_of fs 0
                simp only [List.getElem?_toArray, List.getElem?_cons_zero, List.getElem?_cons_succ] at q9 q9b q11 q11b qs
                go_wp2_with fail
                refine (sHold_ok hh 0 1 c 3 ⟨by omega, by omega⟩ hA.ox).mono ?_
                rintro e wa ⟨rfl, ha⟩
                clear f9 f11 fs l9 l11 ls q9 q9b q11 q11b qs
                have hh := ha.swap
                clear ha
                have f9 := hh.blk (b := g9) (o := h01) (by simp)
                have f11 := hh.blk (b := g11) (o := h01) (by simp)
                have fs := hh.blk (b := sb) (by simp; exact .inl rfl)
                have l9 := lt_of_heap f9
                have l11 := lt_of_heap f11
                have ls := lt_of_heap fs
                have q9 := cell_of f9 0
                have q9b := cell_of f9 1
                have q11 := cell_of f11 0
                have q11b := cell_of f11 1
                have qs := cell_of fs 0
                simp only [List.getElem?_toArray, List.getElem?_cons_zero, List.getElem?_cons_succ] at q9 q9b q11 q11b qs
                go_wp2_with fail
                refine (sHold_ok hh 0 1 c 3 ⟨by omega, by omega⟩ hA.oy).mono ?_
                rintro e wb ⟨rfl, hb'⟩
                clear f9 f11 fs l9 l11 ls q9 q9b q11 q11b qs
                replace hb' := hb'.swap
                have f9 := hb'.blk (b := g9) (o := h01) (by simp)
                have f11 := hb'.blk (b := g11) (o := h01) (by simp)
                have fs := hb'.blk (b := sb) (by simp; exact .inl rfl)
                have l9 := lt_of_heap f9
                have l11 := lt_of_heap f11
                have ls := lt_of_heap fs
                have q9 := cell_of f9 0
                have q9b := cell_of f9 1
                have q11 := cell_of f11 0
                have q11b := cell_of f11 1
                have qs := cell_of fs 0
                simp only [List.getElem?_toArray, List.getElem?_cons_zero, List.getElem?_cons_succ] at q9 q9b q11 q11b qs
                go_wp2_with fail
                go_roundg (gk - 1)
                case measure => omega
                case rel => exact ⟨i + 1, _, _, _, al, by go_num, by omega, hb'.drop [(g9, h01), (g11, h01)] (by simp), (hA.set (by omega : (0 : Int) ≤ c + 1) (by omega)).mono (by omega), by omega, hok⟩
              · obtain ⟨m, hm1, hm2⟩ : ∃ m, m < al.length ∧ al.length ≤ m + 1 := ⟨al.length - 1, by omega, by omega⟩
                obtain ⟨p, hp⟩ : ∃ p, al[m]? = some p := ⟨al[m]'(by omega), List.getElem?_eq_getElem (by omega)⟩
                have hpk := hok p (List.mem_of_getElem? hp)
                have zl : decide ((0 : Int) < (al.length : Int)) = true := decide_eq_true (by omega)
                obtain ⟨bo, oo, rfl, -⟩ := hrow m _ (by rw [List.getElem?_map, hp]; rfl)
                clear hrow
                have zw : IntKind.i64.wrap ((al.length : Int) - 1) = (m : Int) := by rw [IntWalk.i64_in _ (by omega)]; omega
                have zb : (0 : Int) ≤ (m : Int) := by omega
                have zc : (m : Int) < (al.length : Int) := by omega
                go_upto_region 20 with fail
                have hh := hS.alloc (.cells #[.int .i64 1, .int .i64 s.who, .int .i64 s.kind, .int .i64 s.pos, .int .i64 s.n, .string s.s, .int .i64 s.h.1, .int .u64 s.h.2] 56)
                clear hS k0 k1 k2 k3 k4 k5 k6 k7
                generalize hw1 : wr.alloc (.cells #[.int .i64 1, .int .i64 s.who, .int .i64 s.kind, .int .i64 s.pos, .int .i64 s.n, .string s.s, .int .i64 s.h.1, .int .u64 s.h.2] 56) = w1 at hh ⊢
                generalize hsb : wr.heap.size = sb at hh ⊢
                clear hw1 hsb
                go_wp2_with fail
                replace hh := hh.upd (Upd.refl [] _).drew
                have fs := hh.blk (b := sb) (o := .cells #[.int .i64 1, .int .i64 s.who, .int .i64 s.kind, .int .i64 s.pos, .int .i64 s.n, .string s.s, .int .i64 s.h.1, .int .u64 s.h.2] 56) (by simp)
                have k0 := cell_of fs 0
                have k1 := cell_of fs 1
                have k2 := cell_of fs 2
                have k3 := cell_of fs 3
                have k4 := cell_of fs 4
                have k5 := cell_of fs 5
                have k6 := cell_of fs 6
                have k7 := cell_of fs 7
                simp only [List.getElem?_toArray, List.getElem?_cons_zero, List.getElem?_cons_succ] at k0 k1 k2 k3 k4 k5 k6 k7
                obtain ⟨m0, m1⟩ := rowlast hh hp
                go_region_held3 (fun w' => w'.cell? ⟨sb, 0, none⟩ = some (.int .i64 1) ∧ w'.cell? ⟨sb, 1, none⟩ = some (.int .i64 s.who) ∧ w'.cell? ⟨sb, 2, none⟩ = some (.int .i64 s.kind) ∧ w'.cell? ⟨sb, 3, none⟩ = some (.int .i64 s.pos) ∧ w'.cell? ⟨sb, 4, none⟩ = some (.int .i64 s.n) ∧ w'.cell? ⟨sb, 5, none⟩ = some (.string s.s) ∧ w'.cell? ⟨sb, 6, none⟩ = some (.int .i64 s.h.1) ∧ w'.cell? ⟨sb, 7, none⟩ = some (.int .u64 s.h.2) ∧ w'.cell? ⟨bo, oo + m * 2, none⟩ = some (.int .i64 p.1) ∧ w'.cell? ⟨bo, oo + m * 2 + 1, none⟩ = some (.int .u64 p.2)) (exact ⟨k0, k1, k2, k3, k4, k5, k6, k7, m0, m1⟩)
                  (first
                    | (go_at_call 40; refine (RNew_empty _).mono ?_; rintro e wn ⟨r, o1, o2, rfl, hr, hrs, un⟩; replace hh := hh.gain un hrs hr; clear fs k0 k1 k2 k3 k4 k5 k6 k7 m0 m1; have fs := hh.blk (b := sb) (o := .cells #[.int .i64 1, .int .i64 s.who, .int .i64 s.kind, .int .i64 s.pos, .int .i64 s.n, .string s.s, .int .i64 s.h.1, .int .u64 s.h.2] 56) (by simp); have k0 := cell_of fs 0; have k1 := cell_of fs 1; have k2 := cell_of fs 2; have k3 := cell_of fs 3; have k4 := cell_of fs 4; have k5 := cell_of fs 5; have k6 := cell_of fs 6; have k7 := cell_of fs 7; simp only [List.getElem?_toArray, List.getElem?_cons_zero, List.getElem?_cons_succ] at k0 k1 k2 k3 k4 k5 k6 k7; obtain ⟨m0, m1⟩ := rowlast hh hp)
                    | (go_at_call 39; refine (does_any hh List.mem_cons_self hA.inv (by omega) (by omega) p hpk.1 ⟨1, s.who, s.kind, s.pos, s.n, s.s, s.h⟩ hsk1).mono ?_; rintro e wd ⟨bb, stx', rfl, hd, hD⟩; replace hh := hd; replace hA := hA.did hpk.2 hD; clear fs k0 k1 k2 k3 k4 k5 k6 k7 m0 m1; have fs := hh.blk (b := sb) (o := .cells #[.int .i64 1, .int .i64 s.who, .int .i64 s.kind, .int .i64 s.pos, .int .i64 s.n, .string s.s, .int .i64 s.h.1, .int .u64 s.h.2] 56) (by simp); have k0 := cell_of fs 0; have k1 := cell_of fs 1; have k2 := cell_of fs 2; have k3 := cell_of fs 3; have k4 := cell_of fs 4; have k5 := cell_of fs 5; have k6 := cell_of fs 6; have k7 := cell_of fs 7; simp only [List.getElem?_toArray, List.getElem?_cons_zero, List.getElem?_cons_succ] at k0 k1 k2 k3 k4 k5 k6 k7; obtain ⟨m0, m1⟩ := rowlast hh hp))
                replace hh := hh.drop [(sb, .cells #[.int .i64 1, .int .i64 s.who, .int .i64 s.kind, .int .i64 s.pos, .int .i64 s.n, .string s.s, .int .i64 s.h.1, .int .u64 s.h.2] 56), (g9, h01), (g11, h01)] (by simp)
                clear fs k0 k1 k2 k3 k4 k5 k6 k7 m0 m1
                have f9 := hh.blk (b := g9) (o := h01) (by simp)
                have f11 := hh.blk (b := g11) (o := h01) (by simp)
                have fs := hh.blk (b := sb) (by simp; exact .inl rfl)
                have l9 := lt_of_heap f9
                have l11 := lt_of_heap f11
                have ls := lt_of_heap fs
                have q9 := cell_of f9 0
                have q9b := cell_of f9 1
                have q11 := cell_of f11 0
                have q11b := cell_of f11 1
                have qs := cell_of fs 0
                simp only [List.getElem?_toArray, List.getElem?_cons_zero, List.getElem?_cons_succ] at q9 q9b q11 q11b qs
                go_wp2_with fail
                refine (sHold_ok hh 0 1 c 3 ⟨by omega, by omega⟩ hA.ox).mono ?_
                rintro e wa ⟨rfl, ha⟩
                clear f9 f11 fs l9 l11 ls q9 q9b q11 q11b qs
                have hh := ha.swap
                clear ha
                have f9 := hh.blk (b := g9) (o := h01) (by simp)
                have f11 := hh.blk (b := g11) (o := h01) (by simp)
                have fs := hh.blk (b := sb) (by simp; exact .inl rfl)
                have l9 := lt_of_heap f9
                have l11 := lt_of_heap f11
                have ls := lt_of_heap fs
                have q9 := cell_of f9 0
                have q9b := cell_of f9 1
                have q11 := cell_of f11 0
                have q11b := cell_of f11 1
                have qs := cell_of fs 0
                simp only [List.getElem?_toArray, List.getElem?_cons_zero, List.getElem?_cons_succ] at q9 q9b q11 q11b qs
                go_wp2_with fail
                refine (sHold_ok hh 0 1 c 3 ⟨by omega, by omega⟩ hA.oy).mono ?_
                rintro e wb ⟨rfl, hb'⟩
                clear f9 f11 fs l9 l11 ls q9 q9b q11 q11b qs
                replace hb' := hb'.swap
                have f9 := hb'.blk (b := g9) (o := h01) (by simp)
                have f11 := hb'.blk (b := g11) (o := h01) (by simp)
                have fs := hb'.blk (b := sb) (by simp; exact .inl rfl)
                have l9 := lt_of_heap f9
                have l11 := lt_of_heap f11
                have ls := lt_of_heap fs
                have q9 := cell_of f9 0
                have q9b := cell_of f9 1
                have q11 := cell_of f11 0
                have q11b := cell_of f11 1
                have qs := cell_of fs 0
                simp only [List.getElem?_toArray, List.getElem?_cons_zero, List.getElem?_cons_succ] at q9 q9b q11 q11b qs
                go_wp2_with fail
                go_roundg (gk - 1)
                case measure => omega
                case rel => exact ⟨i + 1, _, _, _, al, by go_num, by omega, hb'.drop [(g9, h01), (g11, h01)] (by simp), (hA.set (by omega : (0 : Int) ≤ c + 1) (by omega)).mono (by omega), by omega, hok⟩
            · have z3 : (s.d == 1) = false := by simpa using d1
              by_cases d2 : s.d = 2
              · have z4 : (s.d == 2) = true := by simpa using d2
                have hsk1 : okS ⟨2, s.who, s.kind, s.pos, s.n, s.s, s.h⟩ := by have h := hsk; unfold okS at h ⊢; rw [d2] at h; exact h
                by_cases c0 : c = 0
                · subst c0
                  rcases Nat.lt_or_ge al.length 1 with hm | hm
                  · have zl : decide ((0 : Int) < (al.length : Int)) = false := decide_eq_false (by omega)
                    go_upto_region 21 with fail
                    clear hrow
                    have hh := hS.alloc (.cells #[.int .i64 2, .int .i64 s.who, .int .i64 s.kind, .int .i64 s.pos, .int .i64 s.n, .string s.s, .int .i64 s.h.1, .int .u64 s.h.2] 56)
                    clear hS k0 k1 k2 k3 k4 k5 k6 k7
                    generalize hw1 : wr.alloc (.cells #[.int .i64 2, .int .i64 s.who, .int .i64 s.kind, .int .i64 s.pos, .int .i64 s.n, .string s.s, .int .i64 s.h.1, .int .u64 s.h.2] 56) = w1 at hh ⊢
                    generalize hsb : wr.heap.size = sb at hh ⊢
                    clear hw1 hsb
                    have f9 := hh.blk (b := g9) (o := h01) (by simp)
                    have f11 := hh.blk (b := g11) (o := h01) (by simp)
                    have fs := hh.blk (b := sb) (by simp; exact .inl rfl)
                    have l9 := lt_of_heap f9
                    have l11 := lt_of_heap f11
                    have ls := lt_of_heap fs
                    have q9 := cell_of f9 0
                    have q9b := cell_of f9 1
                    have q11 := cell_of f11 0
                    have q11b := cell_of f11 1
                    have qs := cell_of fs 0
                    simp only [List.getElem?_toArray, List.getElem?_cons_zero, List.getElem?_cons_succ] at q9 q9b q11 q11b qs
                    go_wp2_with fail
                    refine (sDrop_zero hh 0 1 3 hA.ox).mono ?_
                    rintro e wa ⟨rfl, ha⟩
                    clear f9 f11 fs l9 l11 ls q9 q9b q11 q11b qs
                    have hh := ha.swap
                    clear ha
                    have f9 := hh.blk (b := g9) (o := h01) (by simp)
                    have f11 := hh.blk (b := g11) (o := h01) (by simp)
                    have fs := hh.blk (b := sb) (by simp; exact .inl rfl)
                    have l9 := lt_of_heap f9
                    have l11 := lt_of_heap f11
                    have ls := lt_of_heap fs
                    have q9 := cell_of f9 0
                    have q9b := cell_of f9 1
                    have q11 := cell_of f11 0
                    have q11b := cell_of f11 1
                    have qs := cell_of fs 0
                    simp only [List.getElem?_toArray, List.getElem?_cons_zero, List.getElem?_cons_succ] at q9 q9b q11 q11b qs
                    go_wp2_with fail
                    refine (sDrop_zero hh 0 1 3 hA.oy).mono ?_
                    rintro e wb ⟨rfl, hb'⟩
                    clear f9 f11 fs l9 l11 ls q9 q9b q11 q11b qs
                    replace hb' := hb'.swap
                    have f9 := hb'.blk (b := g9) (o := h01) (by simp)
                    have f11 := hb'.blk (b := g11) (o := h01) (by simp)
                    have fs := hb'.blk (b := sb) (by simp; exact .inl rfl)
                    have l9 := lt_of_heap f9
                    have l11 := lt_of_heap f11
                    have ls := lt_of_heap fs
                    have q9 := cell_of f9 0
                    have q9b := cell_of f9 1
                    have q11 := cell_of f11 0
                    have q11b := cell_of f11 1
                    have qs := cell_of fs 0
                    simp only [List.getElem?_toArray, List.getElem?_cons_zero, List.getElem?_cons_succ] at q9 q9b q11 q11b qs
                    go_wp2_with fail
                    go_roundg (gk - 1)
                    case measure => omega
                    case rel => exact ⟨i + 1, _, _, _, al, by go_num, by omega, hb'.drop [(g9, h01), (g11, h01)] (by simp), hA.mono (by omega), by omega, hok⟩
                  · obtain ⟨m, hm1, hm2⟩ : ∃ m, m < al.length ∧ al.length ≤ m + 1 := ⟨al.length - 1, by omega, by omega⟩
                    obtain ⟨p, hp⟩ : ∃ p, al[m]? = some p := ⟨al[m]'(by omega), List.getElem?_eq_getElem (by omega)⟩
                    have hpk := hok p (List.mem_of_getElem? hp)
                    have zl : decide ((0 : Int) < (al.length : Int)) = true := decide_eq_true (by omega)
                    obtain ⟨bo, oo, rfl, -⟩ := hrow m _ (by rw [List.getElem?_map, hp]; rfl)
                    clear hrow
                    have zw : IntKind.i64.wrap ((al.length : Int) - 1) = (m : Int) := by rw [IntWalk.i64_in _ (by omega)]; omega
                    have zb : (0 : Int) ≤ (m : Int) := by omega
                    have zc : (m : Int) < (al.length : Int) := by omega
                    go_upto_region 20 with fail
                    have hh := hS.alloc (.cells #[.int .i64 2, .int .i64 s.who, .int .i64 s.kind, .int .i64 s.pos, .int .i64 s.n, .string s.s, .int .i64 s.h.1, .int .u64 s.h.2] 56)
                    clear hS k0 k1 k2 k3 k4 k5 k6 k7
                    generalize hw1 : wr.alloc (.cells #[.int .i64 2, .int .i64 s.who, .int .i64 s.kind, .int .i64 s.pos, .int .i64 s.n, .string s.s, .int .i64 s.h.1, .int .u64 s.h.2] 56) = w1 at hh ⊢
                    generalize hsb : wr.heap.size = sb at hh ⊢
                    clear hw1 hsb
                    go_wp2_with fail
                    replace hh := hh.upd (Upd.refl [] _).drew
                    have fs := hh.blk (b := sb) (o := .cells #[.int .i64 2, .int .i64 s.who, .int .i64 s.kind, .int .i64 s.pos, .int .i64 s.n, .string s.s, .int .i64 s.h.1, .int .u64 s.h.2] 56) (by simp)
                    have k0 := cell_of fs 0
                    have k1 := cell_of fs 1
                    have k2 := cell_of fs 2
                    have k3 := cell_of fs 3
                    have k4 := cell_of fs 4
                    have k5 := cell_of fs 5
                    have k6 := cell_of fs 6
                    have k7 := cell_of fs 7
                    simp only [List.getElem?_toArray, List.getElem?_cons_zero, List.getElem?_cons_succ] at k0 k1 k2 k3 k4 k5 k6 k7
                    obtain ⟨m0, m1⟩ := rowlast hh hp
                    go_region_held3 (fun w' => w'.cell? ⟨sb, 0, none⟩ = some (.int .i64 2) ∧ w'.cell? ⟨sb, 1, none⟩ = some (.int .i64 s.who) ∧ w'.cell? ⟨sb, 2, none⟩ = some (.int .i64 s.kind) ∧ w'.cell? ⟨sb, 3, none⟩ = some (.int .i64 s.pos) ∧ w'.cell? ⟨sb, 4, none⟩ = some (.int .i64 s.n) ∧ w'.cell? ⟨sb, 5, none⟩ = some (.string s.s) ∧ w'.cell? ⟨sb, 6, none⟩ = some (.int .i64 s.h.1) ∧ w'.cell? ⟨sb, 7, none⟩ = some (.int .u64 s.h.2) ∧ w'.cell? ⟨bo, oo + m * 2, none⟩ = some (.int .i64 p.1) ∧ w'.cell? ⟨bo, oo + m * 2 + 1, none⟩ = some (.int .u64 p.2)) (exact ⟨k0, k1, k2, k3, k4, k5, k6, k7, m0, m1⟩)
                      (first
                        | (go_at_call 40; refine (RNew_empty _).mono ?_; rintro e wn ⟨r, o1, o2, rfl, hr, hrs, un⟩; replace hh := hh.gain un hrs hr; clear fs k0 k1 k2 k3 k4 k5 k6 k7 m0 m1; have fs := hh.blk (b := sb) (o := .cells #[.int .i64 2, .int .i64 s.who, .int .i64 s.kind, .int .i64 s.pos, .int .i64 s.n, .string s.s, .int .i64 s.h.1, .int .u64 s.h.2] 56) (by simp); have k0 := cell_of fs 0; have k1 := cell_of fs 1; have k2 := cell_of fs 2; have k3 := cell_of fs 3; have k4 := cell_of fs 4; have k5 := cell_of fs 5; have k6 := cell_of fs 6; have k7 := cell_of fs 7; simp only [List.getElem?_toArray, List.getElem?_cons_zero, List.getElem?_cons_succ] at k0 k1 k2 k3 k4 k5 k6 k7; obtain ⟨m0, m1⟩ := rowlast hh hp)
                        | (go_at_call 39; refine (does_any hh List.mem_cons_self hA.inv (by omega) (by omega) p hpk.1 ⟨2, s.who, s.kind, s.pos, s.n, s.s, s.h⟩ hsk1).mono ?_; rintro e wd ⟨bb, stx', rfl, hd, hD⟩; replace hh := hd; replace hA := hA.did hpk.2 hD; clear fs k0 k1 k2 k3 k4 k5 k6 k7 m0 m1; have fs := hh.blk (b := sb) (o := .cells #[.int .i64 2, .int .i64 s.who, .int .i64 s.kind, .int .i64 s.pos, .int .i64 s.n, .string s.s, .int .i64 s.h.1, .int .u64 s.h.2] 56) (by simp); have k0 := cell_of fs 0; have k1 := cell_of fs 1; have k2 := cell_of fs 2; have k3 := cell_of fs 3; have k4 := cell_of fs 4; have k5 := cell_of fs 5; have k6 := cell_of fs 6; have k7 := cell_of fs 7; simp only [List.getElem?_toArray, List.getElem?_cons_zero, List.getElem?_cons_succ] at k0 k1 k2 k3 k4 k5 k6 k7; obtain ⟨m0, m1⟩ := rowlast hh hp))
                    replace hh := hh.drop [(sb, .cells #[.int .i64 2, .int .i64 s.who, .int .i64 s.kind, .int .i64 s.pos, .int .i64 s.n, .string s.s, .int .i64 s.h.1, .int .u64 s.h.2] 56), (g9, h01), (g11, h01)] (by simp)
                    clear fs k0 k1 k2 k3 k4 k5 k6 k7 m0 m1
                    have f9 := hh.blk (b := g9) (o := h01) (by simp)
                    have f11 := hh.blk (b := g11) (o := h01) (by simp)
                    have fs := hh.blk (b := sb) (by simp; exact .inl rfl)
                    have l9 := lt_of_heap f9
                    have l11 := lt_of_heap f11
                    have ls := lt_of_heap fs
                    have q9 := cell_of f9 0
                    have q9b := cell_of f9 1
                    have q11 := cell_of f11 0
                    have q11b := cell_of f11 1
                    have qs := cell_of fs 0
                    simp only [List.getElem?_toArray, List.getElem?_cons_zero, List.getElem?_cons_succ] at q9 q9b q11 q11b qs
                    go_wp2_with fail
                    refine (sDrop_zero hh 0 1 3 hA.ox).mono ?_
                    rintro e wa ⟨rfl, ha⟩
                    clear f9 f11 fs l9 l11 ls q9 q9b q11 q11b qs
                    have hh := ha.swap
                    clear ha
                    have f9 := hh.blk (b := g9) (o := h01) (by simp)
                    have f11 := hh.blk (b := g11) (o := h01) (by simp)
                    have fs := hh.blk (b := sb) (by simp; exact .inl rfl)
                    have l9 := lt_of_heap f9
                    have l11 := lt_of_heap f11
                    have ls := lt_of_heap fs
                    have q9 := cell_of f9 0
                    have q9b := cell_of f9 1
                    have q11 := cell_of f11 0
                    have q11b := cell_of f11 1
                    have qs := cell_of fs 0
                    simp only [List.getElem?_toArray, List.getElem?_cons_zero, List.getElem?_cons_succ] at q9 q9b q11 q11b qs
                    go_wp2_with fail
                    refine (sDrop_zero hh 0 1 3 hA.oy).mono ?_
                    rintro e wb ⟨rfl, hb'⟩
                    clear f9 f11 fs l9 l11 ls q9 q9b q11 q11b qs
                    replace hb' := hb'.swap
                    have f9 := hb'.blk (b := g9) (o := h01) (by simp)
                    have f11 := hb'.blk (b := g11) (o := h01) (by simp)
                    have fs := hb'.blk (b := sb) (by simp; exact .inl rfl)
                    have l9 := lt_of_heap f9
                    have l11 := lt_of_heap f11
                    have ls := lt_of_heap fs
                    have q9 := cell_of f9 0
                    have q9b := cell_of f9 1
                    have q11 := cell_of f11 0
                    have q11b := cell_of f11 1
                    have qs := cell_of fs 0
                    simp only [List.getElem?_toArray, List.getElem?_cons_zero, List.getElem?_cons_succ] at q9 q9b q11 q11b qs
                    go_wp2_with fail
                    go_roundg (gk - 1)
                    case measure => omega
                    case rel => exact ⟨i + 1, _, _, _, al, by go_num, by omega, hb'.drop [(g9, h01), (g11, h01)] (by simp), hA.mono (by omega), by omega, hok⟩
                · skip
                  rcases Nat.lt_or_ge al.length 1 with hm | hm
                  · have zl : decide ((0 : Int) < (al.length : Int)) = false := decide_eq_false (by omega)
                    go_upto_region 21 with fail
                    clear hrow
                    have hh := hS.alloc (.cells #[.int .i64 2, .int .i64 s.who, .int .i64 s.kind, .int .i64 s.pos, .int .i64 s.n, .string s.s, .int .i64 s.h.1, .int .u64 s.h.2] 56)
                    clear hS k0 k1 k2 k3 k4 k5 k6 k7
                    generalize hw1 : wr.alloc (.cells #[.int .i64 2, .int .i64 s.who, .int .i64 s.kind, .int .i64 s.pos, .int .i64 s.n, .string s.s, .int .i64 s.h.1, .int .u64 s.h.2] 56) = w1 at hh ⊢
                    generalize hsb : wr.heap.size = sb at hh ⊢
                    clear hw1 hsb
                    have f9 := hh.blk (b := g9) (o := h01) (by simp)
                    have f11 := hh.blk (b := g11) (o := h01) (by simp)
                    have fs := hh.blk (b := sb) (by simp; exact .inl rfl)
                    have l9 := lt_of_heap f9
                    have l11 := lt_of_heap f11
                    have ls := lt_of_heap fs
                    have q9 := cell_of f9 0
                    have q9b := cell_of f9 1
                    have q11 := cell_of f11 0
                    have q11b := cell_of f11 1
                    have qs := cell_of fs 0
                    simp only [List.getElem?_toArray, List.getElem?_cons_zero, List.getElem?_cons_succ] at q9 q9b q11 q11b qs
                    go_wp2_with fail
                    refine (sDrop_ok hh 0 1 c 3 ⟨by omega, by omega⟩ c0 hA.ox).mono ?_
                    rintro e wa ⟨rfl, ha⟩
                    clear f9 f11 fs l9 l11 ls q9 q9b q11 q11b qs
                    have hh := ha.swap
                    clear ha
                    have f9 := hh.blk (b := g9) (o := h01) (by simp)
                    have f11 := hh.blk (b := g11) (o := h01) (by simp)
                    have fs := hh.blk (b := sb) (by simp; exact .inl rfl)
                    have l9 := lt_of_heap f9
                    have l11 := lt_of_heap f11
                    have ls := lt_of_heap fs
                    have q9 := cell_of f9 0
                    have q9b := cell_of f9 1
                    have q11 := cell_of f11 0
                    have q11b := cell_of f11 1
                    have qs := cell_of fs 0
                    simp only [List.getElem?_toArray, List.getElem?_cons_zero, List.getElem?_cons_succ] at q9 q9b q11 q11b qs
                    go_wp2_with fail
                    refine (sDrop_ok hh 0 1 c 3 ⟨by omega, by omega⟩ c0 hA.oy).mono ?_
                    rintro e wb ⟨rfl, hb'⟩
                    clear f9 f11 fs l9 l11 ls q9 q9b q11 q11b qs
                    replace hb' := hb'.swap
                    have f9 := hb'.blk (b := g9) (o := h01) (by simp)
                    have f11 := hb'.blk (b := g11) (o := h01) (by simp)
                    have fs := hb'.blk (b := sb) (by simp; exact .inl rfl)
                    have l9 := lt_of_heap f9
                    have l11 := lt_of_heap f11
                    have ls := lt_of_heap fs
                    have q9 := cell_of f9 0
                    have q9b := cell_of f9 1
                    have q11 := cell_of f11 0
                    have q11b := cell_of f11 1
                    have qs := cell_of fs 0
                    simp only [List.getElem?_toArray, List.getElem?_cons_zero, List.getElem?_cons_succ] at q9 q9b q11 q11b qs
                    go_wp2_with fail
                    go_roundg (gk - 1)
                    case measure => omega
                    case rel => exact ⟨i + 1, _, _, _, al, by go_num, by omega, hb'.drop [(g9, h01), (g11, h01)] (by simp), (hA.set (by omega : (0 : Int) ≤ c - 1) (by omega)).mono (by omega), by omega, hok⟩
                  · obtain ⟨m, hm1, hm2⟩ : ∃ m, m < al.length ∧ al.length ≤ m + 1 := ⟨al.length - 1, by omega, by omega⟩
                    obtain ⟨p, hp⟩ : ∃ p, al[m]? = some p := ⟨al[m]'(by omega), List.getElem?_eq_getElem (by omega)⟩
                    have hpk := hok p (List.mem_of_getElem? hp)
                    have zl : decide ((0 : Int) < (al.length : Int)) = true := decide_eq_true (by omega)
                    obtain ⟨bo, oo, rfl, -⟩ := hrow m _ (by rw [List.getElem?_map, hp]; rfl)
                    clear hrow
                    have zw : IntKind.i64.wrap ((al.length : Int) - 1) = (m : Int) := by rw [IntWalk.i64_in _ (by omega)]; omega
                    have zb : (0 : Int) ≤ (m : Int) := by omega
                    have zc : (m : Int) < (al.length : Int) := by omega
                    go_upto_region 20 with fail
                    have hh := hS.alloc (.cells #[.int .i64 2, .int .i64 s.who, .int .i64 s.kind, .int .i64 s.pos, .int .i64 s.n, .string s.s, .int .i64 s.h.1, .int .u64 s.h.2] 56)
                    clear hS k0 k1 k2 k3 k4 k5 k6 k7
                    generalize hw1 : wr.alloc (.cells #[.int .i64 2, .int .i64 s.who, .int .i64 s.kind, .int .i64 s.pos, .int .i64 s.n, .string s.s, .int .i64 s.h.1, .int .u64 s.h.2] 56) = w1 at hh ⊢
                    generalize hsb : wr.heap.size = sb at hh ⊢
                    clear hw1 hsb
                    go_wp2_with fail
                    replace hh := hh.upd (Upd.refl [] _).drew
                    have fs := hh.blk (b := sb) (o := .cells #[.int .i64 2, .int .i64 s.who, .int .i64 s.kind, .int .i64 s.pos, .int .i64 s.n, .string s.s, .int .i64 s.h.1, .int .u64 s.h.2] 56) (by simp)
                    have k0 := cell_of fs 0
                    have k1 := cell_of fs 1
                    have k2 := cell_of fs 2
                    have k3 := cell_of fs 3
                    have k4 := cell_of fs 4
                    have k5 := cell_of fs 5
                    have k6 := cell_of fs 6
                    have k7 := cell_of fs 7
                    simp only [List.getElem?_toArray, List.getElem?_cons_zero, List.getElem?_cons_succ] at k0 k1 k2 k3 k4 k5 k6 k7
                    obtain ⟨m0, m1⟩ := rowlast hh hp
                    go_region_held3 (fun w' => w'.cell? ⟨sb, 0, none⟩ = some (.int .i64 2) ∧ w'.cell? ⟨sb, 1, none⟩ = some (.int .i64 s.who) ∧ w'.cell? ⟨sb, 2, none⟩ = some (.int .i64 s.kind) ∧ w'.cell? ⟨sb, 3, none⟩ = some (.int .i64 s.pos) ∧ w'.cell? ⟨sb, 4, none⟩ = some (.int .i64 s.n) ∧ w'.cell? ⟨sb, 5, none⟩ = some (.string s.s) ∧ w'.cell? ⟨sb, 6, none⟩ = some (.int .i64 s.h.1) ∧ w'.cell? ⟨sb, 7, none⟩ = some (.int .u64 s.h.2) ∧ w'.cell? ⟨bo, oo + m * 2, none⟩ = some (.int .i64 p.1) ∧ w'.cell? ⟨bo, oo + m * 2 + 1, none⟩ = some (.int .u64 p.2)) (exact ⟨k0, k1, k2, k3, k4, k5, k6, k7, m0, m1⟩)
                      (first
                        | (go_at_call 40; refine (RNew_empty _).mono ?_; rintro e wn ⟨r, o1, o2, rfl, hr, hrs, un⟩; replace hh := hh.gain un hrs hr; clear fs k0 k1 k2 k3 k4 k5 k6 k7 m0 m1; have fs := hh.blk (b := sb) (o := .cells #[.int .i64 2, .int .i64 s.who, .int .i64 s.kind, .int .i64 s.pos, .int .i64 s.n, .string s.s, .int .i64 s.h.1, .int .u64 s.h.2] 56) (by simp); have k0 := cell_of fs 0; have k1 := cell_of fs 1; have k2 := cell_of fs 2; have k3 := cell_of fs 3; have k4 := cell_of fs 4; have k5 := cell_of fs 5; have k6 := cell_of fs 6; have k7 := cell_of fs 7; simp only [List.getElem?_toArray, List.getElem?_cons_zero, List.getElem?_cons_succ] at k0 k1 k2 k3 k4 k5 k6 k7; obtain ⟨m0, m1⟩ := rowlast hh hp)
                        | (go_at_call 39; refine (does_any hh List.mem_cons_self hA.inv (by omega) (by omega) p hpk.1 ⟨2, s.who, s.kind, s.pos, s.n, s.s, s.h⟩ hsk1).mono ?_; rintro e wd ⟨bb, stx', rfl, hd, hD⟩; replace hh := hd; replace hA := hA.did hpk.2 hD; clear fs k0 k1 k2 k3 k4 k5 k6 k7 m0 m1; have fs := hh.blk (b := sb) (o := .cells #[.int .i64 2, .int .i64 s.who, .int .i64 s.kind, .int .i64 s.pos, .int .i64 s.n, .string s.s, .int .i64 s.h.1, .int .u64 s.h.2] 56) (by simp); have k0 := cell_of fs 0; have k1 := cell_of fs 1; have k2 := cell_of fs 2; have k3 := cell_of fs 3; have k4 := cell_of fs 4; have k5 := cell_of fs 5; have k6 := cell_of fs 6; have k7 := cell_of fs 7; simp only [List.getElem?_toArray, List.getElem?_cons_zero, List.getElem?_cons_succ] at k0 k1 k2 k3 k4 k5 k6 k7; obtain ⟨m0, m1⟩ := rowlast hh hp))
                    replace hh := hh.drop [(sb, .cells #[.int .i64 2, .int .i64 s.who, .int .i64 s.kind, .int .i64 s.pos, .int .i64 s.n, .string s.s, .int .i64 s.h.1, .int .u64 s.h.2] 56), (g9, h01), (g11, h01)] (by simp)
                    clear fs k0 k1 k2 k3 k4 k5 k6 k7 m0 m1
                    have f9 := hh.blk (b := g9) (o := h01) (by simp)
                    have f11 := hh.blk (b := g11) (o := h01) (by simp)
                    have fs := hh.blk (b := sb) (by simp; exact .inl rfl)
                    have l9 := lt_of_heap f9
                    have l11 := lt_of_heap f11
                    have ls := lt_of_heap fs
                    have q9 := cell_of f9 0
                    have q9b := cell_of f9 1
                    have q11 := cell_of f11 0
                    have q11b := cell_of f11 1
                    have qs := cell_of fs 0
                    simp only [List.getElem?_toArray, List.getElem?_cons_zero, List.getElem?_cons_succ] at q9 q9b q11 q11b qs
                    go_wp2_with fail
                    refine (sDrop_ok hh 0 1 c 3 ⟨by omega, by omega⟩ c0 hA.ox).mono ?_
                    rintro e wa ⟨rfl, ha⟩
                    clear f9 f11 fs l9 l11 ls q9 q9b q11 q11b qs
                    have hh := ha.swap
                    clear ha
                    have f9 := hh.blk (b := g9) (o := h01) (by simp)
                    have f11 := hh.blk (b := g11) (o := h01) (by simp)
                    have fs := hh.blk (b := sb) (by simp; exact .inl rfl)
                    have l9 := lt_of_heap f9
                    have l11 := lt_of_heap f11
                    have ls := lt_of_heap fs
                    have q9 := cell_of f9 0
                    have q9b := cell_of f9 1
                    have q11 := cell_of f11 0
                    have q11b := cell_of f11 1
                    have qs := cell_of fs 0
                    simp only [List.getElem?_toArray, List.getElem?_cons_zero, List.getElem?_cons_succ] at q9 q9b q11 q11b qs
                    go_wp2_with fail
                    refine (sDrop_ok hh 0 1 c 3 ⟨by omega, by omega⟩ c0 hA.oy).mono ?_
                    rintro e wb ⟨rfl, hb'⟩
                    clear f9 f11 fs l9 l11 ls q9 q9b q11 q11b qs
                    replace hb' := hb'.swap
                    have f9 := hb'.blk (b := g9) (o := h01) (by simp)
                    have f11 := hb'.blk (b := g11) (o := h01) (by simp)
                    have fs := hb'.blk (b := sb) (by simp; exact .inl rfl)
                    have l9 := lt_of_heap f9
                    have l11 := lt_of_heap f11
                    have ls := lt_of_heap fs
                    have q9 := cell_of f9 0
                    have q9b := cell_of f9 1
                    have q11 := cell_of f11 0
                    have q11b := cell_of f11 1
                    have qs := cell_of fs 0
                    simp only [List.getElem?_toArray, List.getElem?_cons_zero, List.getElem?_cons_succ] at q9 q9b q11 q11b qs
                    go_wp2_with fail
                    go_roundg (gk - 1)
                    case measure => omega
                    case rel => exact ⟨i + 1, _, _, _, al, by go_num, by omega, hb'.drop [(g9, h01), (g11, h01)] (by simp), (hA.set (by omega : (0 : Int) ≤ c - 1) (by omega)).mono (by omega), by omega, hok⟩
              · have z4 : (s.d == 2) = false := by simpa using d2
                rcases Nat.lt_or_ge al.length 1 with hm | hm
                · have zl : decide ((0 : Int) < (al.length : Int)) = false := decide_eq_false (by omega)
                  go_upto_region 21 with fail
                  clear hrow
                  have hh := hS.alloc (.cells #[.int .i64 s.d, .int .i64 s.who, .int .i64 s.kind, .int .i64 s.pos, .int .i64 s.n, .string s.s, .int .i64 s.h.1, .int .u64 s.h.2] 56)
                  clear hS k0 k1 k2 k3 k4 k5 k6 k7
                  generalize hw1 : wr.alloc (.cells #[.int .i64 s.d, .int .i64 s.who, .int .i64 s.kind, .int .i64 s.pos, .int .i64 s.n, .string s.s, .int .i64 s.h.1, .int .u64 s.h.2] 56) = w1 at hh ⊢
                  generalize hsb : wr.heap.size = sb at hh ⊢
                  clear hw1 hsb
                  have f9 := hh.blk (b := g9) (o := h01) (by simp)
                  have f11 := hh.blk (b := g11) (o := h01) (by simp)
                  have fs := hh.blk (b := sb) (by simp; exact .inl rfl)
                  have l9 := lt_of_heap f9
                  have l11 := lt_of_heap f11
                  have ls := lt_of_heap fs
                  have q9 := cell_of f9 0
                  have q9b := cell_of f9 1
                  have q11 := cell_of f11 0
                  have q11b := cell_of f11 1
                  have qs := cell_of fs 0
                  simp only [List.getElem?_toArray, List.getElem?_cons_zero, List.getElem?_cons_succ] at q9 q9b q11 q11b qs
                  go_wp2_with fail
                  go_roundg (gk - 1)
                  case measure => omega
                  case rel => exact ⟨i + 1, _, _, _, al, by go_num, by omega, hh.drop [(g9, h01), (g11, h01)] (by simp), hA.mono (by omega), by omega, hok⟩
                · obtain ⟨m, hm1, hm2⟩ : ∃ m, m < al.length ∧ al.length ≤ m + 1 := ⟨al.length - 1, by omega, by omega⟩
                  obtain ⟨p, hp⟩ : ∃ p, al[m]? = some p := ⟨al[m]'(by omega), List.getElem?_eq_getElem (by omega)⟩
                  have hpk := hok p (List.mem_of_getElem? hp)
                  have zl : decide ((0 : Int) < (al.length : Int)) = true := decide_eq_true (by omega)
                  obtain ⟨bo, oo, rfl, -⟩ := hrow m _ (by rw [List.getElem?_map, hp]; rfl)
                  clear hrow
                  have zw : IntKind.i64.wrap ((al.length : Int) - 1) = (m : Int) := by rw [IntWalk.i64_in _ (by omega)]; omega
                  have zb : (0 : Int) ≤ (m : Int) := by omega
                  have zc : (m : Int) < (al.length : Int) := by omega
                  go_upto_region 20 with fail
                  have hh := hS.alloc (.cells #[.int .i64 s.d, .int .i64 s.who, .int .i64 s.kind, .int .i64 s.pos, .int .i64 s.n, .string s.s, .int .i64 s.h.1, .int .u64 s.h.2] 56)
                  clear hS k0 k1 k2 k3 k4 k5 k6 k7
                  generalize hw1 : wr.alloc (.cells #[.int .i64 s.d, .int .i64 s.who, .int .i64 s.kind, .int .i64 s.pos, .int .i64 s.n, .string s.s, .int .i64 s.h.1, .int .u64 s.h.2] 56) = w1 at hh ⊢
                  generalize hsb : wr.heap.size = sb at hh ⊢
                  clear hw1 hsb
                  go_wp2_with fail
                  replace hh := hh.upd (Upd.refl [] _).drew
                  have fs := hh.blk (b := sb) (o := .cells #[.int .i64 s.d, .int .i64 s.who, .int .i64 s.kind, .int .i64 s.pos, .int .i64 s.n, .string s.s, .int .i64 s.h.1, .int .u64 s.h.2] 56) (by simp)
                  have k0 := cell_of fs 0
                  have k1 := cell_of fs 1
                  have k2 := cell_of fs 2
                  have k3 := cell_of fs 3
                  have k4 := cell_of fs 4
                  have k5 := cell_of fs 5
                  have k6 := cell_of fs 6
                  have k7 := cell_of fs 7
                  simp only [List.getElem?_toArray, List.getElem?_cons_zero, List.getElem?_cons_succ] at k0 k1 k2 k3 k4 k5 k6 k7
                  obtain ⟨m0, m1⟩ := rowlast hh hp
                  go_region_held3 (fun w' => w'.cell? ⟨sb, 0, none⟩ = some (.int .i64 s.d) ∧ w'.cell? ⟨sb, 1, none⟩ = some (.int .i64 s.who) ∧ w'.cell? ⟨sb, 2, none⟩ = some (.int .i64 s.kind) ∧ w'.cell? ⟨sb, 3, none⟩ = some (.int .i64 s.pos) ∧ w'.cell? ⟨sb, 4, none⟩ = some (.int .i64 s.n) ∧ w'.cell? ⟨sb, 5, none⟩ = some (.string s.s) ∧ w'.cell? ⟨sb, 6, none⟩ = some (.int .i64 s.h.1) ∧ w'.cell? ⟨sb, 7, none⟩ = some (.int .u64 s.h.2) ∧ w'.cell? ⟨bo, oo + m * 2, none⟩ = some (.int .i64 p.1) ∧ w'.cell? ⟨bo, oo + m * 2 + 1, none⟩ = some (.int .u64 p.2)) (exact ⟨k0, k1, k2, k3, k4, k5, k6, k7, m0, m1⟩)
                    (first
                      | (go_at_call 40; refine (RNew_empty _).mono ?_; rintro e wn ⟨r, o1, o2, rfl, hr, hrs, un⟩; replace hh := hh.gain un hrs hr; clear fs k0 k1 k2 k3 k4 k5 k6 k7 m0 m1; have fs := hh.blk (b := sb) (o := .cells #[.int .i64 s.d, .int .i64 s.who, .int .i64 s.kind, .int .i64 s.pos, .int .i64 s.n, .string s.s, .int .i64 s.h.1, .int .u64 s.h.2] 56) (by simp); have k0 := cell_of fs 0; have k1 := cell_of fs 1; have k2 := cell_of fs 2; have k3 := cell_of fs 3; have k4 := cell_of fs 4; have k5 := cell_of fs 5; have k6 := cell_of fs 6; have k7 := cell_of fs 7; simp only [List.getElem?_toArray, List.getElem?_cons_zero, List.getElem?_cons_succ] at k0 k1 k2 k3 k4 k5 k6 k7; obtain ⟨m0, m1⟩ := rowlast hh hp)
                      | (go_at_call 39; refine (does_any hh List.mem_cons_self hA.inv (by omega) (by omega) p hpk.1 s hsk).mono ?_; rintro e wd ⟨bb, stx', rfl, hd, hD⟩; replace hh := hd; replace hA := hA.did hpk.2 hD; clear fs k0 k1 k2 k3 k4 k5 k6 k7 m0 m1; have fs := hh.blk (b := sb) (o := .cells #[.int .i64 s.d, .int .i64 s.who, .int .i64 s.kind, .int .i64 s.pos, .int .i64 s.n, .string s.s, .int .i64 s.h.1, .int .u64 s.h.2] 56) (by simp); have k0 := cell_of fs 0; have k1 := cell_of fs 1; have k2 := cell_of fs 2; have k3 := cell_of fs 3; have k4 := cell_of fs 4; have k5 := cell_of fs 5; have k6 := cell_of fs 6; have k7 := cell_of fs 7; simp only [List.getElem?_toArray, List.getElem?_cons_zero, List.getElem?_cons_succ] at k0 k1 k2 k3 k4 k5 k6 k7; obtain ⟨m0, m1⟩ := rowlast hh hp))
                  replace hh := hh.drop [(sb, .cells #[.int .i64 s.d, .int .i64 s.who, .int .i64 s.kind, .int .i64 s.pos, .int .i64 s.n, .string s.s, .int .i64 s.h.1, .int .u64 s.h.2] 56), (g9, h01), (g11, h01)] (by simp)
                  clear fs k0 k1 k2 k3 k4 k5 k6 k7 m0 m1
                  have f9 := hh.blk (b := g9) (o := h01) (by simp)
                  have f11 := hh.blk (b := g11) (o := h01) (by simp)
                  have fs := hh.blk (b := sb) (by simp; exact .inl rfl)
                  have l9 := lt_of_heap f9
                  have l11 := lt_of_heap f11
                  have ls := lt_of_heap fs
                  have q9 := cell_of f9 0
                  have q9b := cell_of f9 1
                  have q11 := cell_of f11 0
                  have q11b := cell_of f11 1
                  have qs := cell_of fs 0
                  simp only [List.getElem?_toArray, List.getElem?_cons_zero, List.getElem?_cons_succ] at q9 q9b q11 q11b qs
                  go_wp2_with fail
                  go_roundg (gk - 1)
                  case measure => omega
                  case rel => exact ⟨i + 1, _, _, _, al, by go_num, by omega, hh.drop [(g9, h01), (g11, h01)] (by simp), hA.mono (by omega), by omega, hok⟩
        · have z1 : decide ((i : Int) < (l.length : Int)) = false := decide_eq_false (by omega)
          clear hl
          have f9 := hS.blk (b := g9) (o := h01) (by simp)
          have f11 := hS.blk (b := g11) (o := h01) (by simp)
          have l9 := lt_of_heap f9
          have l11 := lt_of_heap f11
          have q9 := cell_of f9 0
          have q9b := cell_of f9 1
          have q11 := cell_of f11 0
          have q11b := cell_of f11 1
          simp only [List.getElem?_toArray, List.getElem?_cons_zero, List.getElem?_cons_succ] at q9 q9b q11 q11b
          go_wp2_with fail
          refine (sRead_ok hS 0 1 c 3 0 32 bs hA.sx (by rw [hA.len]; omega) (by rw [hA.len]; omega) hA.ox).mono ?_
          rintro e wa ⟨rfl, ha⟩
          clear f9 f11 l9 l11 q9 q9b q11 q11b
          replace ha := ha.swap
          have f9 := ha.blk (b := g9) (o := h01) (by simp)
          have f11 := ha.blk (b := g11) (o := h01) (by simp)
          have l9 := lt_of_heap f9
          have l11 := lt_of_heap f11
          have q9 := cell_of f9 0
          have q9b := cell_of f9 1
          have q11 := cell_of f11 0
          have q11b := cell_of f11 1
          simp only [List.getElem?_toArray, List.getElem?_cons_zero, List.getElem?_cons_succ] at q9 q9b q11 q11b
          go_wp2_with fail
          refine (sRead_ok ha 0 1 c 3 0 32 bs hA.sy (by rw [hA.len]; omega) (by rw [hA.len]; omega) hA.oy).mono ?_
          rintro e wb ⟨rfl, hb'⟩
          clear f9 f11 l9 l11 q9 q9b q11 q11b
          replace hb' := hb'.swap
          have f9 := hb'.blk (b := g9) (o := h01) (by simp)
          have f11 := hb'.blk (b := g11) (o := h01) (by simp)
          have l9 := lt_of_heap f9
          have l11 := lt_of_heap f11
          have q9 := cell_of f9 0
          have q9b := cell_of f9 1
          have q11 := cell_of f11 0
          have q11b := cell_of f11 1
          simp only [List.getElem?_toArray, List.getElem?_cons_zero, List.getElem?_cons_succ] at q9 q9b q11 q11b
          go_wp2_with fail
          refine (sCount_ok hb' 0 1 c 3 hA.ox).mono ?_
          rintro e wc ⟨rfl, hc⟩
          clear f9 f11 l9 l11 q9 q9b q11 q11b
          replace hc := hc.swap
          have f9 := hc.blk (b := g9) (o := h01) (by simp)
          have f11 := hc.blk (b := g11) (o := h01) (by simp)
          have l9 := lt_of_heap f9
          have l11 := lt_of_heap f11
          have q9 := cell_of f9 0
          have q9b := cell_of f9 1
          have q11 := cell_of f11 0
          have q11b := cell_of f11 1
          simp only [List.getElem?_toArray, List.getElem?_cons_zero, List.getElem?_cons_succ] at q9 q9b q11 q11b
          go_wp2_with fail
          refine (sCount_ok hc 0 1 c 3 hA.oy).mono ?_
          rintro e wd ⟨rfl, hd⟩
          clear f9 f11 l9 l11 q9 q9b q11 q11b
          go_wp2_with (go_at_call 28; (with_reducible refine (works14 _).mono ?_); rintro e wz ⟨rfl, uz⟩)
          go_ret
          exact ⟨rfl, hd.u.trans uz⟩
    · have z0 : decide ((32 : Int) < (t.size : Int)) = true := decide_eq_true (by omega)
      go_enter Try.func7, Try.ntmps7
      go_wp2_with fail
      refine (heavy_spec A c l w hl hs).mono ?_
      rintro e w1 ⟨rfl, u1⟩
      rw [hb]
      go_wp2_with (go_at_call 28; (with_reducible refine (works14 _).mono ?_); rintro e w2 ⟨rfl, u2⟩)
      go_ret
      exact ⟨rfl, u1.trans u2⟩
  · go_enter Try.func7, Try.ntmps7
    go_wp2_with fail
    refine (heavy_spec A c l w hl hs).mono ?_
    rintro e w1 ⟨rfl, u1⟩
    rw [hb]
    go_wp2_with (go_at_call 28; (with_reducible refine (works14 _).mono ?_); rintro e w2 ⟨rfl, u2⟩)
    go_ret
    exact ⟨rfl, u1.trans u2⟩
end Go.Proofs.Ytgleceijdedlkaa
