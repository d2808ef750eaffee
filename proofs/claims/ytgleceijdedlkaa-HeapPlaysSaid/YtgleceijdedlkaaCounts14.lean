/- HeapCounts: the walk. -/
import Derived.Test.YtgleceijdedlkaaSteps14
import Derived.Test.YtgleceijdedlkaaWorks14
import Derived.Deep.DeepCutAuto
import Derived.Deep.LoopGhost
import Derived.Deep.CutBlock
import Derived.Deep.RegionWith
namespace Go.Proofs.Ytgleceijdedlkaa
open Go.RowKit
set_option linter.unusedVariables false
set_option linter.unusedSimpArgs false
def usedOf (sl : List (Int × List UInt8)) : Int := (sl.map fun p => cls p.2.length).sum
theorem cls_pos (n : Int) : 0 ≤ cls n := by unfold cls; repeat' split
                                            all_goals omega
theorem usedOf_nonneg (sl : List (Int × List UInt8)) : 0 ≤ usedOf sl := by
  induction sl with
  | nil => simp [usedOf]
  | cons p l ih =>
    have := cls_pos p.2.length
    simp only [usedOf, List.map_cons, List.sum_cons] at ih ⊢
    omega
theorem usedOf_put (sl : List (Int × List UInt8)) (k : Int) (bs : List UInt8) (h : k ∉ sl.map (·.1)) : usedOf (aput sl k bs) = usedOf sl + cls bs.length := by
  induction sl with
  | nil => simp [usedOf, aput]
  | cons p l ih =>
    obtain ⟨a, b⟩ := p
    simp only [List.map_cons, List.mem_cons, not_or] at h
    have := ih h.2
    unfold aput
    rw [if_neg (by simpa using fun e => h.1 e.symm)]
    simp only [usedOf, List.map_cons, List.sum_cons] at this ⊢
    omega
theorem usedOf_del (sl : List (Int × List UInt8)) (k : Int) (bs : List UInt8) (hn : (sl.map (·.1)).Nodup) (h : aget sl k = some bs) : usedOf (adel sl k) = usedOf sl - cls bs.length := by
  induction sl with
  | nil => simp [aget] at h
  | cons p l ih =>
    obtain ⟨a, b⟩ := p
    simp only [List.map_cons, List.nodup_cons] at hn
    by_cases hk : a = k
    · subst hk
      simp only [aget, if_true] at h
      obtain rfl : b = bs := by simpa using h
      have e : adel l a = l := by
        unfold adel
        rw [List.filter_eq_self]
        intro q hq
        have : q.1 ≠ a := fun e => hn.1 (List.mem_map.2 ⟨q, hq, e⟩)
        simpa using this
      have e2 : adel ((a, b) :: l) a = l := by
        rw [← e]
        unfold adel
        simp
      rw [e2]
      simp only [usedOf, List.map_cons, List.sum_cons]
      omega
    · simp only [aget, if_neg hk] at h
      have := ih hn.2 h
      have e2 : adel ((a, b) :: l) k = (a, b) :: adel l k := by
        unfold adel
        simp [hk]
      rw [e2]
      simp only [usedOf, List.map_cons, List.sum_cons] at this ⊢
      omega
theorem length_aput {K V : Type} [DecidableEq K] (l : List (K × V)) (x : K) (v : V) : (aput l x v).length ≤ l.length + 1 := by
  induction l with
  | nil => simp [aput]
  | cons p l ih =>
    obtain ⟨a, b⟩ := p
    unfold aput
    split <;> simp <;> omega
theorem length_adel {K V : Type} [DecidableEq K] (l : List (K × V)) (x : K) : (adel l x).length ≤ l.length := List.length_filter_le _ _
theorem held_nodup {w : World} {x : Nat} {room : Int} {st : HS} {N : Nat → Prop} (h : Held w x room st N) : (st.sl.map (·.1)).Nodup := by
  obtain ⟨B, l, O, h1, h2, h3, h4, h5⟩ := h
  rw [← h3, keys_mapv]
  exact h2.slab.map.nodup ki
/-- What a script of n steps has made of a heap and of the counts. -/
structure Cnt (room : Int) (n : Nat) (st : HS) (cl : List ((Int × Int) × Int)) : Prop where
  cnt : ∀ q, (aget cl q).getD 0 = (match aget st.ob q with | some y => y.1 + 1 | none => 0)
  bd : ∀ q c k, aget st.ob q = some (c, k) → 0 ≤ c ∧ c ≤ n
  used : st.used = usedOf st.sl
  le : st.used ≤ room
  len : st.sl.length ≤ n
  each : ∀ p ∈ st.sl, p.2.length ≤ 128
theorem Cnt.start (room : Int) (h : 0 ≤ room) : Cnt room 0 HS.nil [] := ⟨fun q => rfl, fun q c k h => (by cases h), rfl, h, (by simp [HS.nil]), fun p hp => (by simp [HS.nil] at hp)⟩
theorem Cnt.more {room : Int} {n : Nat} {st : HS} {cl : List ((Int × Int) × Int)} (h : Cnt room n st cl) : Cnt room (n + 1) st cl :=
  { h with bd := fun q c k hq => by have := h.bd q c k hq; omega, len := by have := h.len; omega }
theorem Cnt.lo {room : Int} {n : Nat} {st : HS} {cl : List ((Int × Int) × Int)} (h : Cnt room n st cl) : 0 ≤ st.used := h.used ▸ usedOf_nonneg _
theorem Cnt.made {room : Int} {n : Nat} {st : HS} {cl : List ((Int × Int) × Int)} (h : Cnt room n st cl) (k m kind : Int) (hk : k ∉ st.sl.map (·.1)) (hm : okc m = true) (hr : st.used + cls m ≤ room) :
    Cnt room (n + 1) (st.made k m kind) (aput cl (k, genOf st.L k) 2) := by
  have hm' : 1 ≤ m ∧ m ≤ 128 := by simpa [okc] using hm
  have e : ((List.replicate m.toNat (0 : UInt8)).length : Int) = m := by simp; omega
  refine ⟨fun q => ?_, fun q c kk hq => ?_, ?_, hr, ?_, fun p hp => ?_⟩
  · simp only [HS.made, aget_aput]
    split
    · rfl
    · exact h.cnt q
  · simp only [HS.made, aget_aput] at hq
    split at hq
    · cases hq
      omega
    · have := h.bd q c kk hq
      omega
  · simp only [HS.made]
    rw [usedOf_put _ _ _ hk, e, h.used]
  · have := length_aput st.sl k (List.replicate m.toNat (0 : UInt8))
    have := h.len
    simp only [HS.made]
    omega
  · simp only [HS.made] at hp
    rcases mem_aput hp with rfl | hp
    · simp; omega
    · exact h.each p hp
theorem Cnt.set {room : Int} {n : Nat} {st : HS} {cl : List ((Int × Int) × Int)} (h : Cnt room n st cl) (q : Int × Int) (c k : Int) (h0 : 0 ≤ c) (h1 : c ≤ n + 1) : Cnt room (n + 1) { st with ob := aput st.ob q (c, k) } (aput cl q (c + 1)) := by
  refine ⟨fun p => ?_, fun p c' kk hq => ?_, h.used, h.le, by have := h.len; simp only; omega, h.each⟩
  · simp only [aget_aput]
    split
    · rfl
    · exact h.cnt p
  · simp only [aget_aput] at hq
    split at hq
    · cases hq
      omega
    · have := h.bd p c' kk hq
      omega
theorem Cnt.free {room : Int} {n : Nat} {st : HS} {cl : List ((Int × Int) × Int)} (h : Cnt room n st cl) (hn : (st.sl.map (·.1)).Nodup) (a b : Int) (bs : List UInt8) (hb : aget st.sl a = some bs) :
    Cnt room (n + 1) { used := st.used - cls bs.length, sl := adel st.sl a, L := st.L, V := adel st.V a, ob := adel st.ob (a, b) } (aput cl (a, b) 0) := by
  have hc := cls_pos bs.length
  refine ⟨fun p => ?_, fun p c' kk hq => ?_, ?_, by have := h.le; simp only; omega, ?_, fun p hp => h.each p (mem_adel hp).1⟩
  · simp only [aget_aput, aget_adel]
    split
    · rename_i e
      subst e
      simp
    · rename_i e
      rw [h.cnt p]
  · simp only [aget_adel] at hq
    split at hq
    · cases hq
    · have := h.bd p c' kk hq
      omega
  · simp only
    rw [usedOf_del _ _ _ hn hb, h.used]
  · have := length_adel st.sl a
    have := h.len
    simp only
    omega
theorem zero3 (w : World) : (zeroValue 3).run Try.prog w = .ok (.int .i64 0) w := by kernel_rfl
theorem look53 {w : World} {bc : Nat} {cl : List ((Int × Int) × Int)} (h : MapAt eh (Value.int .i64) okH w bc cl) (q : Int × Int) (hq : okH q) :
    (Instr.lookup 53 (.map (some bc)) (.agg #[.int .i64 q.1, .int .u64 q.2]) false).run Try.prog w = .ok (.int .i64 ((aget cl q).getD 0)) w := by
  have := h.lookup kh Try.underlying53 (zero3 w) hq false
  rw [show Value.agg #[.int .i64 q.1, .int .u64 q.2] = eh q from rfl, this]
  unfold lookV
  cases aget cl q <;> rfl
theorem info30 : (Try.prog.info? 30).map (fun i => (i.zero, i.size, i.bytes)) = some (some (.agg #[.int .i64 0, .int .u64 0]), 2, 16) := by kernel_rfl
theorem fresh_none {w0 w : World} {K : List (Nat × Obj)} {x : Nat} {room : Int} {st : HS} {T : Res} (h : SepK w0 w K (star (heldR x room st) T)) {k g : Int} (hk : k ∉ st.sl.map (·.1)) : aget st.ob (k, g) = none := by
  cases hq : aget st.ob (k, g) with
  | none => rfl
  | some y =>
    obtain ⟨bs, hb⟩ := h.slot hq
    exact absurd (List.mem_map.2 ⟨_, aget_mem hb, rfl⟩) hk
theorem pick_ok (al : List (Int × Int)) (s : St14) (h : ∀ q ∈ al, okH q) (hs : okS s) : okH (pickH al s) := by
  unfold pickH
  split
  · exact hs.2.2.2.2.2.2
  · rename_i hn
    rw [List.getD_eq_getElem?_getD]
    have : s.who.toNat % al.length < al.length := Nat.mod_lt _ (by omega)
    rw [List.getElem?_eq_getElem this]
    exact h _ (List.getElem_mem _)
def blkS (s : St14) : Obj := .cells (encS s).toArray 56 (0, 0)
def blkH (q : Int × Int) : Obj := .cells #[.int .i64 q.1, .int .u64 q.2] 30 (0, 0)
set_option maxRecDepth 100000 in
set_option maxHeartbeats 8000000 in
theorem counts_walk (A : Option Addr) (c : Nat) (l : List St14) (room : Int) (w : World) (hl : RowsAt w A 8 (l.map encS)) (hs : ∀ s ∈ l, okS s) (hr : 0 ≤ room ∧ room ≤ 65535) :
    Calls Try.prog 5 #[.int .u16 room, .slice A l.length c] w fun e w' => e = .returned (.bool true) ∧ Upd [] w w' := by
  cases hb : heavyB l
  · have hlen : l.length ≤ 250 := by
      have : decide ((250 : Int) < l.length) = false := (Bool.or_eq_false_iff.1 hb).1
      have := of_decide_eq_false this
      omega
    go_enter Try.func5, Try.ntmps5
    go_wp2_with fail
    refine (heavy_spec A c l w hl hs).mono ?_
    rintro e w1 ⟨rfl, u1⟩
    rw [hb]
    go_wp2_with fail
    refine (sNew ((SepK.start w).upd u1) room hr.1 (by omega)).mono ?_
    rintro e w2 ⟨x, rfl, h2⟩
    have h3 := ((h2.map0 eh (Value.int .i64) okH).swap.row0 30 2).push2
    clear h2
    have hmm := @run_makeMap Try.prog
    go_wp2_with fail
    generalize hbc : w2.heap.size = bc at h3
    clear hbc
    go_loopg [8, 9] l.length (fun kq v8 v9 w' => ∃ (i : Nat) (st : HS) (cl : List ((Int × Int) × Int)) (al : List (Int × Int)), v9 = .int .i64 (i : Int) ∧ kq + i = l.length ∧ SepK w w' [] (star (heldR x room st) (star (mapR eh (Value.int .i64) okH bc cl) (star (rowR 30 2 v8 (al.map encH)) emp))) ∧ Cnt room i st cl ∧ al.length ≤ i ∧ ∀ q ∈ al, okH q)
    case atStart => exact ⟨0, HS.nil, [], [], rfl, rfl, h3, Cnt.start room hr.1, by simp, by simp⟩
    case round =>
      clear h3
      obtain ⟨i, st, cl, al, rfl, hk, hS, hC, hal, hok⟩ := hrel
      by_cases hi : i < l.length
      · have z1 : decide ((i : Int) < (l.length : Int)) = true := decide_eq_true (by omega)
        obtain ⟨s, hx⟩ : ∃ x, l[i]? = some x := ⟨l[i], List.getElem?_eq_getElem hi⟩
        obtain ⟨b, off, rfl, hc⟩ := (hl.keep hS.u) i (encS s) (by rw [List.getElem?_map, hx]; rfl)
        have k0 : wr.cell? ⟨b, off + i * 8, none⟩ = some (.int .i64 s.d) := hc 0 _ rfl
        have k1 : wr.cell? ⟨b, off + i * 8 + 1, none⟩ = some (.int .i64 s.who) := hc 1 _ rfl
        have k2 : wr.cell? ⟨b, off + i * 8 + 2, none⟩ = some (.int .i64 s.kind) := hc 2 _ rfl
        have k3 : wr.cell? ⟨b, off + i * 8 + 3, none⟩ = some (.int .i64 s.pos) := hc 3 _ rfl
        have k4 : wr.cell? ⟨b, off + i * 8 + 4, none⟩ = some (.int .i64 s.n) := hc 4 _ rfl
        have k5 : wr.cell? ⟨b, off + i * 8 + 5, none⟩ = some (.string s.s) := hc 5 _ rfl
        have k6 : wr.cell? ⟨b, off + i * 8 + 6, none⟩ = some (.int .i64 s.h.1) := hc 6 _ rfl
        have k7 : wr.cell? ⟨b, off + i * 8 + 7, none⟩ = some (.int .u64 s.h.2) := hc 7 _ rfl
        have hsk := hs _ (List.mem_of_getElem? hx)
        clear hc hx
        by_cases d0 : s.d = 0
        · have z2 : (s.d == 0) = true := by simpa using d0
          go_wp2_with fail
          have hS1 := hS.alloc (.cells #[.int .i64 0, .int .i64 s.who, .int .i64 s.kind, .int .i64 s.pos, .int .i64 s.n, .string s.s, .int .i64 s.h.1, .int .u64 s.h.2] 56)
          cases hn : okc s.n
          · refine (sMake_arg hS1 s.kind s.n hn).mono ?_
            rintro e w3 ⟨rfl, h4⟩
            go_wp2_with fail
            go_roundg (gk - 1)
            case measure => omega
            case rel => exact ⟨i + 1, st, cl, al, by go_num, by omega, (h4.alloc _).drop [] (by simp), hC.more, by omega, hok⟩
          · by_cases hru : st.used + cls s.n ≤ room
            · refine (sMake_ok hS1 s.kind s.n hn hru hC.lo (by omega) (by have := hC.len; omega)).mono ?_
              rintro e w3 ⟨k, ⟨rfl, p1, p2⟩, h4⟩
              have hno : aget st.ob ((k : Int), genOf st.L k) = none := fresh_none hS1 p2
              have hcz : (aget cl ((k : Int), genOf st.L k)).getD 0 = 0 := by rw [hC.cnt, hno]
              have hkq : okH ((k : Int), genOf st.L k) := h4.okH (y := (1, s.kind)) (by simp [HS.made, aget_aput])
              have hC' := hC.made k s.n s.kind p2 hn hru
              generalize genOf st.L k = g at *
              have h5 := h4.alloc (.cells #[.int .i64 (k : Int), .int .u64 g] 30)
              have r1 := look53 h5.swap.map ((k : Int), g) hkq
              rw [hcz] at r1
              simp only at r1
              obtain ⟨i0, hi0, hz0, hz1, hz2⟩ := info_parts info30
              clear h4 hS1 hS k0 k1 k2 k3 k4 k5 k6 k7
              go_wp2_with (first
                | (at_mapUpdate; refine wl_put rfl (.tmp 67) (.tmp 68) _ rfl kh Try.underlying53 rfl h5.swap ((k : Int), g) 2 rfl rfl hkq ?_; intro w4 h6; have f0 := h6.blk (b := w3.heap.size) (by simp; exact .inl rfl); have q0 := cell_of f0 0; have q1 := cell_of f0 1; simp only [List.getElem?_toArray, List.getElem?_cons_zero, List.getElem?_cons_succ] at q0 q1; have h7 := (h6.swap.pull2).alloc (.cells #[.int .i64 (k : Int), .int .u64 g] 30))
                | (at_builtin; refine wl_append rfl _ _ 54 rfl 30 i0 (.agg #[.int .i64 0, .int .u64 0]) 2 16 Try.underlying54 hi0 hz0 hz1 hz2 rfl (by decide) _ _ rfl h7 ⟨w4.heap.size, 0, none⟩ 1 [.int .i64 (k : Int), .int .u64 g] rfl rfl (cell_two_new _ _ _ _) (fun x hx => by simp at hx; rcases hx with rfl | rfl <;> rfl) (by unfold maxLen; simp; omega) (by simp; omega) ?_; intro v' w5 h8))
              go_roundg (gk - 1)
              case measure => omega
              case rel =>
                refine ⟨i + 1, _, _, al ++ [((k : Int), g)], by go_num, by omega, ?_, hC', by simp; omega, fun q hq => ?_⟩
                · rw [List.map_append]
                  exact h8.push2.drop [] (by simp)
                · rcases List.mem_append.1 hq with hq | hq
                  · exact hok q hq
                  · obtain rfl := List.mem_singleton.1 hq
                    exact hkq
            · refine (sMake_full hS1 s.kind s.n hn (by omega) hC.lo (by have := hC.le; omega)).mono ?_
              rintro e w3 ⟨rfl, h4⟩
              go_wp2_with fail
              go_roundg (gk - 1)
              case measure => omega
              case rel => exact ⟨i + 1, st, cl, al, by go_num, by omega, (h4.alloc _).drop [] (by simp), hC.more, by omega, hok⟩
        · have z2 : (s.d == 0) = false := by simpa using d0
          go_wp2_with fail
          have hS1 := hS.alloc (.cells #[.int .i64 s.d, .int .i64 s.who, .int .i64 s.kind, .int .i64 s.pos, .int .i64 s.n, .string s.s, .int .i64 s.h.1, .int .u64 s.h.2] 56)
          obtain ⟨A8, c8, rfl, hrow⟩ := hS1.pull2.row
          rw [List.length_map] at hS1 ⊢
          refine (pick_spec A8 c8 al s _ hrow hsk (by omega)).mono ?_
          rintro e w3 ⟨rfl, u3⟩
          have h3 := (hS1.upd u3).alloc (.cells #[.int .i64 (pickH al s).1, .int .u64 (pickH al s).2] 30)
          have hq : okH (pickH al s) := pick_ok al s hok hsk
          obtain ⟨q, hqe⟩ : ∃ q, q = pickH al s := ⟨_, rfl⟩
          rw [← hqe] at hq h3 ⊢
          clear hqe hS1 hrow u3 hS k0 k1 k2 k3 k4 k5 k6 k7
          have r1 := look53 h3.swap.map q hq
          have f0 := h3.blk (List.mem_cons_of_mem _ List.mem_cons_self)
          have f1 := h3.blk List.mem_cons_self
          have q0 := cell_of f0 0
          have q1 := cell_of f1 0
          have q2 := cell_of f1 1
          simp only [List.getElem?_toArray, List.getElem?_cons_zero, List.getElem?_cons_succ] at q0 q1 q2
          have hcq := hC.cnt q
          generalize hwv : (aget cl q).getD 0 = wv at r1 hcq
          clear hwv
          have hcq' : Unit → wv = (match aget st.ob q with | some y => y.1 + 1 | none => 0) := fun _ => hcq
          clear hcq
          go_upto_block 2 with fail
          go_cut [14, 15, 16, 17, 18, 80] (fun _ _ _ _ _ _ w' => ∃ (st' : HS) (cl' : List ((Int × Int) × Int)), SepK w w' [(w3.heap.size, .cells #[.int .i64 q.1, .int .u64 q.2] 30)] (star (heldR x room st') (star (mapR eh (Value.int .i64) okH bc cl') (star (rowR 30 2 (.slice A8 al.length c8) (al.map encH)) emp))) ∧ Cnt room (i + 1) st' cl')
          case first =>
            by_cases d1 : s.d = 1
            · have z3 : (s.d == 1) = true := by simpa using d1
              have hcq := hcq' ()
              cases hob : aget st.ob q with
              | none =>
                rw [hob] at hcq
                simp only at hcq
                subst hcq
                go_wp2_with fail
                refine (sHold_no h3 q.1 q.2 hq hob).mono ?_
                rintro e w4 ⟨rfl, h4⟩
                clear q1 q2 f1
                have f1 := h4.blk List.mem_cons_self
                have q1 := cell_of f1 0
                have q2 := cell_of f1 1
                simp only [List.getElem?_toArray, List.getElem?_cons_zero, List.getElem?_cons_succ] at q1 q2
                go_wp2_with fail
                go_meet
                case rel => exact ⟨st, cl, h4.drop [(w3.heap.size, .cells #[.int .i64 q.1, .int .u64 q.2] 30)] (by simp), hC.more⟩
              | some y =>
                obtain ⟨cn, kd⟩ := y
                rw [hob] at hcq
                simp only at hcq
                subst hcq
                have hbd := hC.bd q cn kd hob
                have z6 : decide ((0 : Int) < cn + 1) = true := decide_eq_true (by omega)
                go_wp2_with fail
                refine (sHold_ok h3 q.1 q.2 cn kd ⟨by omega, by omega⟩ hob).mono ?_
                rintro e w4 ⟨rfl, h4⟩
                clear q1 q2 f1
                have f1 := h4.blk List.mem_cons_self
                have q1 := cell_of f1 0
                have q2 := cell_of f1 1
                simp only [List.getElem?_toArray, List.getElem?_cons_zero, List.getElem?_cons_succ] at q1 q2
                go_wp2_with (at_mapUpdate; refine wl_put rfl (.tmp 105) (.tmp 106) _ rfl kh Try.underlying53 rfl h4.swap q _ rfl rfl hq ?_; intro w5 h5)
                go_meet
                case rel => exact ⟨_, _, h5.swap.drop [(w3.heap.size, .cells #[.int .i64 q.1, .int .u64 q.2] 30)] (by simp), hC.set q (cn + 1) kd (by omega) (by omega)⟩
            · have z3 : (s.d == 1) = false := by simpa using d1
              by_cases d2 : s.d = 2
              · have z4 : (s.d == 2) = true := by simpa using d2
                have hcq := hcq' ()
                cases hob : aget st.ob q with
                | none =>
                  rw [hob] at hcq
                  simp only at hcq
                  subst hcq
                  go_wp2_with fail
                  refine (sDrop_no h3 q.1 q.2 hq hob).mono ?_
                  rintro e w4 ⟨rfl, h4⟩
                  clear q1 q2 f1
                  have f1 := h4.blk List.mem_cons_self
                  have q1 := cell_of f1 0
                  have q2 := cell_of f1 1
                  simp only [List.getElem?_toArray, List.getElem?_cons_zero, List.getElem?_cons_succ] at q1 q2
                  go_wp2_with fail
                  go_meet
                  case rel => exact ⟨st, cl, h4.drop [(w3.heap.size, .cells #[.int .i64 q.1, .int .u64 q.2] 30)] (by simp), hC.more⟩
                | some y =>
                  obtain ⟨cn, kd⟩ := y
                  rw [hob] at hcq
                  simp only at hcq
                  subst hcq
                  have hbd := hC.bd q cn kd hob
                  by_cases c0 : cn = 0
                  · subst c0
                    go_wp2_with fail
                    refine (sDrop_zero h3 q.1 q.2 kd hob).mono ?_
                    rintro e w4 ⟨rfl, h4⟩
                    clear q1 q2 f1
                    have f1 := h4.blk List.mem_cons_self
                    have q1 := cell_of f1 0
                    have q2 := cell_of f1 1
                    simp only [List.getElem?_toArray, List.getElem?_cons_zero, List.getElem?_cons_succ] at q1 q2
                    go_wp2_with fail
                    go_meet
                    case rel => exact ⟨st, cl, h4.drop [(w3.heap.size, .cells #[.int .i64 q.1, .int .u64 q.2] 30)] (by simp), hC.more⟩
                  · have z6 : decide ((1 : Int) < cn + 1) = true := decide_eq_true (by omega)
                    have z7 : cn + 1 - 2 = cn - 1 := by omega
                    go_wp2_with fail
                    refine (sDrop_ok h3 q.1 q.2 cn kd ⟨by omega, by omega⟩ c0 hob).mono ?_
                    rintro e w4 ⟨rfl, h4⟩
                    clear q1 q2 f1
                    have f1 := h4.blk List.mem_cons_self
                    have q1 := cell_of f1 0
                    have q2 := cell_of f1 1
                    simp only [List.getElem?_toArray, List.getElem?_cons_zero, List.getElem?_cons_succ] at q1 q2
                    go_wp2_with (at_mapUpdate; refine wl_put rfl (.tmp 134) (.tmp 135) _ rfl kh Try.underlying53 rfl h4.swap q _ rfl rfl hq ?_; intro w5 h5)
                    go_meet
                    case rel => exact ⟨_, _, h5.swap.drop [(w3.heap.size, .cells #[.int .i64 q.1, .int .u64 q.2] 30)] (by simp), by have h := hC.set q (cn - 1) kd (by omega) (by omega); rwa [show cn - 1 + 1 = cn by omega] at h⟩
              · have z4 : (s.d == 2) = false := by simpa using d2
                by_cases d3 : s.d = 3
                · have z5 : (s.d == 3) = true := by simpa using d3
                  have hcq := hcq' ()
                  cases hob : aget st.ob q with
                  | none =>
                    rw [hob] at hcq
                    simp only at hcq
                    subst hcq
                    go_wp2_with fail
                    refine (sFree_no h3 q.1 q.2 hq hob).mono ?_
                    rintro e w4 ⟨rfl, h4⟩
                    clear q1 q2 f1
                    have f1 := h4.blk List.mem_cons_self
                    have q1 := cell_of f1 0
                    have q2 := cell_of f1 1
                    simp only [List.getElem?_toArray, List.getElem?_cons_zero, List.getElem?_cons_succ] at q1 q2
                    go_wp2_with fail
                    go_meet
                    case rel => exact ⟨st, cl, h4.drop [(w3.heap.size, .cells #[.int .i64 q.1, .int .u64 q.2] 30)] (by simp), hC.more⟩
                  | some y =>
                    obtain ⟨cn, kd⟩ := y
                    rw [hob] at hcq
                    simp only at hcq
                    subst hcq
                    have hbd := hC.bd q cn kd hob
                    by_cases c0 : cn = 0
                    · subst c0
                      obtain ⟨bs, hbs⟩ := h3.slot hob
                      have hnd : (st.sl.map (·.1)).Nodup := by
                        obtain ⟨N, hN⟩ := h3.get
                        exact held_nodup hN
                      have hbl : bs.length ≤ 128 := hC.each _ (aget_mem hbs)
                      have hle := hC.le
                      go_wp2_with fail
                      refine (sFree_ok h3 q.1 q.2 0 kd (by omega) bs hbs (by omega) hC.lo (by omega) hob).mono ?_
                      rintro e w4 ⟨rfl, h4⟩
                      clear q1 q2 f1
                      have f1 := h4.blk List.mem_cons_self
                      have q1 := cell_of f1 0
                      have q2 := cell_of f1 1
                      simp only [List.getElem?_toArray, List.getElem?_cons_zero, List.getElem?_cons_succ] at q1 q2
                      go_wp2_with (at_mapUpdate; refine wl_put rfl (.tmp 149) (.tmp 150) _ rfl kh Try.underlying53 rfl h4.swap q _ rfl rfl hq ?_; intro w5 h5)
                      go_meet
                      case rel => exact ⟨_, _, h5.swap.drop [(w3.heap.size, .cells #[.int .i64 q.1, .int .u64 q.2] 30)] (by simp), hC.free hnd q.1 q.2 bs hbs⟩
                    · have z6 : (cn + 1 == 1) = false := beq_eq_false_iff_ne.2 (by omega)
                      go_wp2_with fail
                      refine (sFree_held h3 q.1 q.2 cn kd (by omega) hob).mono ?_
                      rintro e w4 ⟨rfl, h4⟩
                      clear q1 q2 f1
                      have f1 := h4.blk List.mem_cons_self
                      have q1 := cell_of f1 0
                      have q2 := cell_of f1 1
                      simp only [List.getElem?_toArray, List.getElem?_cons_zero, List.getElem?_cons_succ] at q1 q2
                      go_wp2_with fail
                      go_meet
                      case rel => exact ⟨st, cl, h4.drop [(w3.heap.size, .cells #[.int .i64 q.1, .int .u64 q.2] 30)] (by simp), hC.more⟩
                · have z5 : (s.d == 3) = false := by simpa using d3
                  go_wp2_with fail
                  go_meet
                  case rel => exact ⟨st, cl, h3.drop [(w3.heap.size, .cells #[.int .i64 q.1, .int .u64 q.2] 30)] (by simp), hC.more⟩
          case rest =>
            clear q0 q1 q2 f0 f1 h3 r1 hcq' hC
            obtain ⟨st', cl', hS, hC⟩ := hcut
            have f1 := hS.blk List.mem_cons_self
            have q1 := cell_of f1 0
            have q2 := cell_of f1 1
            simp only [List.getElem?_toArray, List.getElem?_cons_zero, List.getElem?_cons_succ] at q1 q2
            have hcq := hC.cnt q
            cases hob : aget st'.ob q with
            | none =>
              rw [hob] at hcq
              simp only at hcq
              go_wp2_with fail
              refine (sKind_no hS q.1 q.2 hq hob).mono ?_
              rintro e w4 ⟨rfl, h4⟩
              clear q1 q2 f1
              have f1 := h4.blk List.mem_cons_self
              have q1 := cell_of f1 0
              have q2 := cell_of f1 1
              simp only [List.getElem?_toArray, List.getElem?_cons_zero, List.getElem?_cons_succ] at q1 q2
              go_wp2_with fail
              refine (sRead_no h4 q.1 q.2 0 0 hq hob).mono ?_
              rintro e w5 ⟨rfl, h5⟩
              clear q1 q2 f1
              have f1 := h5.blk List.mem_cons_self
              have q1 := cell_of f1 0
              have q2 := cell_of f1 1
              simp only [List.getElem?_toArray, List.getElem?_cons_zero, List.getElem?_cons_succ] at q1 q2
              have r2 := look53 h5.swap.map q hq
              rw [hcq] at r2
              go_wp2_with fail
              go_roundg (gk - 1)
              case measure => omega
              case rel => exact ⟨i + 1, st', cl', al, by go_num, by omega, h5.drop [] (by simp), hC, by omega, hok⟩
            | some y =>
              obtain ⟨cn, kd⟩ := y
              rw [hob] at hcq
              simp only at hcq
              have hbd := hC.bd q cn kd hob
              have z6 : decide ((0 : Int) < cn + 1) = true := decide_eq_true (by omega)
              obtain ⟨bs, hbs⟩ := hS.slot hob
              have hbl : bs.length ≤ 128 := hC.each _ (aget_mem hbs)
              go_wp2_with fail
              refine (sKind_ok hS q.1 q.2 cn kd hob).mono ?_
              rintro e w4 ⟨rfl, h4⟩
              clear q1 q2 f1
              have f1 := h4.blk List.mem_cons_self
              have q1 := cell_of f1 0
              have q2 := cell_of f1 1
              simp only [List.getElem?_toArray, List.getElem?_cons_zero, List.getElem?_cons_succ] at q1 q2
              go_wp2_with fail
              refine (sRead_ok h4 q.1 q.2 cn kd 0 0 bs hbs (by omega) (by omega) hob).mono ?_
              rintro e w5 ⟨rfl, h5⟩
              clear q1 q2 f1
              have f1 := h5.blk List.mem_cons_self
              have q1 := cell_of f1 0
              have q2 := cell_of f1 1
              simp only [List.getElem?_toArray, List.getElem?_cons_zero, List.getElem?_cons_succ] at q1 q2
              have r2 := look53 h5.swap.map q hq
              rw [hcq] at r2
              go_wp2_with fail
              go_roundg (gk - 1)
              case measure => omega
              case rel => exact ⟨i + 1, st', cl', al, by go_num, by omega, h5.drop [] (by simp), hC, by omega, hok⟩
      · have z1 : decide ((i : Int) < (l.length : Int)) = false := decide_eq_false (by omega)
        have U := hS.u
        clear hS
        go_wp2_with (go_at_call 28; (with_reducible refine (works14 _).mono ?_); rintro e w3 ⟨rfl, u3⟩)
        go_ret
        exact ⟨rfl, U.trans u3⟩
  · go_enter Try.func5, Try.ntmps5
    go_wp2_with fail
    refine (heavy_spec A c l w hl hs).mono ?_
    rintro e w1 ⟨rfl, u1⟩
    rw [hb]
    go_wp2_with (go_at_call 28; (with_reducible refine (works14 _).mono ?_); rintro e w2 ⟨rfl, u2⟩)
    go_ret
    exact ⟨rfl, u1.trans u2⟩
end Go.Proofs.Ytgleceijdedlkaa
