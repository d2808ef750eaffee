/- SlabApart: the walk. -/
import Derived.Test.YtgleceijdedlkaaWorks12
import Derived.Test.YtgleceijdedlkaaLawLib
namespace Go.Proofs.Ytgleceijdedlkaa
open Go.RowKit
set_option linter.unusedVariables false
set_option linter.unusedSimpArgs false
/-- A slice of bytes that came in. -/
def BytesRd (w : World) (A : Option Addr) (l : List UInt8) : Prop := ∀ i b, l[i]? = some b → ∃ g off, A = some ⟨g, off, none⟩ ∧ w.cell? ⟨g, off + i, none⟩ = some (.int .u8 (b.toNat : Int))
theorem BytesRd.keep {w w' : World} {A : Option Addr} {l : List UInt8} (h : BytesRd w A l) (u : Upd [] w w') : BytesRd w' A l := fun i b hi => by
  obtain ⟨g, off, h1, h2⟩ := h i b hi
  exact ⟨g, off, h1, u.cell h2 (by simp)⟩
/-- A size out of a byte. -/
def szN (b : UInt8) : Nat := b.toNat % 128 + 1
theorem szN_int (b : UInt8) : (b.toNat : Int) % 128 + 1 = (szN b : Int) := by unfold szN; omega
theorem szN_bd (b : UInt8) : 1 ≤ szN b ∧ szN b ≤ 128 := by unfold szN; omega
theorem szN_ok (b : UInt8) : okc (szN b : Int) = true := by have := szN_bd b; simp [okc]; omega
/-- Slots 0 to i - 1, each filled with its number. -/
structure Filled (l : List UInt8) (i : Nat) (L : Slots) : Prop where
  len : L.length = i
  at_ : ∀ j b, j < i → l[j]? = some b → ∃ g, L[j]? = some ((j : Int), (g, List.replicate (szN b) (UInt8.ofNat j)))
theorem Filled.keys {l : List UInt8} {i : Nat} {L : Slots} (h : Filled l i L) (hi : i ≤ l.length) : L.map (·.1) = upto i := by
  apply List.ext_getElem?
  intro j
  rw [List.getElem?_map]
  by_cases hj : j < i
  · obtain ⟨g, hg⟩ := h.at_ j _ hj (List.getElem?_eq_getElem (by omega : j < l.length))
    rw [hg]
    simp [upto, hj]
  · rw [List.getElem?_eq_none (by rw [h.len]; omega), List.getElem?_eq_none (by simp [upto]; omega)]
    rfl
theorem Filled.get {l : List UInt8} {i : Nat} {L : Slots} (h : Filled l i L) (hn : (L.map (·.1)).Nodup) {j : Nat} {b : UInt8} (hj : j < i) (hb : l[j]? = some b) : ∃ g, aget L (j : Int) = some (g, List.replicate (szN b) (UInt8.ofNat j)) := by
  obtain ⟨g, hg⟩ := h.at_ j b hj hb
  exact ⟨g, aget_of_mem hn (List.mem_of_getElem? hg)⟩
theorem Filled.bd {l : List UInt8} {i : Nat} {L : Slots} (h : Filled l i L) (hi : i ≤ l.length) : ∀ p ∈ L, p.2.2.length ≤ 1000 := fun p hp => by
  obtain ⟨j, hj⟩ := List.mem_iff_getElem?.1 hp
  have hjl := (List.getElem?_eq_some_iff.1 hj).1
  rw [h.len] at hjl
  obtain ⟨g, hg⟩ := h.at_ j _ hjl (List.getElem?_eq_getElem (by omega : j < l.length))
  rw [hg] at hj
  cases hj
  have := szN_bd (l[j]'(by omega))
  simp; omega
theorem Filled.snoc {l : List UInt8} {i : Nat} {L : Slots} (h : Filled l i L) {b : UInt8} (hb : l[i]? = some b) (g : Nat) : Filled l (i + 1) (L ++ [((i : Int), (g, List.replicate (szN b) (UInt8.ofNat i)))]) := by
  refine ⟨by simp [h.len], fun j c hj hc => ?_⟩
  by_cases hji : j < i
  · obtain ⟨g', hg⟩ := h.at_ j c hji hc
    exact ⟨g', by rw [List.getElem?_append_left (by rw [h.len]; exact hji)]; exact hg⟩
  · obtain rfl : j = i := by omega
    rw [hb] at hc
    cases hc
    exact ⟨g, by rw [List.getElem?_append_right (by rw [h.len]; exact Nat.le_refl _), h.len]; simp⟩
theorem aput_last {K V : Type} [DecidableEq K] {l : List (K × V)} {x : K} (u v : V) (h : x ∉ l.map (·.1)) : aput (l ++ [(x, u)]) x v = l ++ [(x, v)] := by
  induction l with
  | nil => simp [aput]
  | cons p l ih =>
    obtain ⟨k, t⟩ := p
    simp only [List.map_cons, List.mem_cons, not_or] at h
    simp only [List.cons_append, aput, if_neg (Ne.symm h.1), ih h.2]
theorem aget_last {K V : Type} [DecidableEq K] {l : List (K × V)} {x : K} (u : V) (h : x ∉ l.map (·.1)) : aget (l ++ [(x, u)]) x = some u := by
  induction l with
  | nil => simp [aget]
  | cons p l ih =>
    obtain ⟨k, t⟩ := p
    simp only [List.map_cons, List.mem_cons, not_or] at h
    simp only [List.cons_append, aget, if_neg (Ne.symm h.1), ih h.2]
theorem over_all (n : Nat) (m : List UInt8) (h : m.length = n) (z : UInt8) : over (List.replicate n z) 0 m = m := by
  simp [over, h]
theorem byteBd (b : UInt8) : 0 ≤ (b.toNat : Int) ∧ (b.toNat : Int) ≤ 255 := by have := b.toNat_lt; omega
theorem byteOf (i : Nat) (h : i < 256) : ((UInt8.ofNat i).toNat : Int) = (i : Int) := by
  simp [UInt8.toNat_ofNat']; omega
/-- What each slot holds. -/
def Holds (l : List UInt8) (L : Slots) (C : Nat → List UInt8) : Prop := ∀ (j : Nat) (b : UInt8), l[j]? = some b → ∃ g, aget L (j : Int) = some (g, C j) ∧ (C j).length = szN b
theorem drop0_take {l : List UInt8} {n : Nat} (h : l.length = n) : (l.drop 0).take n = l := by
  rw [List.drop_zero, List.take_of_length_le (by omega)]
theorem hi5 : (Try.prog.info? 5).map (·.size) = some 1 := by kernel_rfl
set_option maxRecDepth 100000 in
set_option maxHeartbeats 4000000 in
theorem slabApart_walk (A : Option Addr) (c : Nat) (l : List UInt8) (which : UInt8) (a : Nat) (t : ByteArray) (w : World) (ha : a ≤ 255) (hl : BytesRd w A l) (hts : t.size ≤ maxLen) :
    Calls Try.prog 4 #[.slice A l.length c, .int .u8 (which.toNat : Int), .int .u8 (a : Int), .string t] w fun e w' => e = .returned (.bool true) ∧ Upd [] w w' := by
  unfold maxLen at hts
  by_cases c1 : l.length = 0
  · have z1 : ((l.length : Int) == 0) = true := by simp [c1]
    go_enter Try.func4, Try.ntmps4
    go_wp2_with (go_at_call 21; (with_reducible refine (works12 _).mono ?_); rintro e w1 ⟨rfl, u1⟩)
    go_ret
    exact ⟨rfl, u1⟩
  have z1 : ((l.length : Int) == 0) = false := beq_false_of_ne (by omega)
  by_cases c2 : (100 : Int) < l.length
  · have z2 : decide ((100 : Int) < l.length) = true := decide_eq_true c2
    go_enter Try.func4, Try.ntmps4
    go_wp2_with (go_at_call 21; (with_reducible refine (works12 _).mono ?_); rintro e w1 ⟨rfl, u1⟩)
    go_ret
    exact ⟨rfl, u1⟩
  have z2 : decide ((100 : Int) < l.length) = false := decide_eq_false c2
  by_cases c3 : (1024 : Int) < t.size
  · have z3 : decide ((1024 : Int) < t.size) = true := decide_eq_true c3
    go_enter Try.func4, Try.ntmps4
    go_wp2_with (go_at_call 21; (with_reducible refine (works12 _).mono ?_); rintro e w1 ⟨rfl, u1⟩)
    go_ret
    exact ⟨rfl, u1⟩
  have z3 : decide ((1024 : Int) < t.size) = false := decide_eq_false c3
  go_enter Try.func4, Try.ntmps4
  go_wp2_with fail
  refine (NewSlab_spec _ 65536 (by omega) (by omega)).mono ?_
  rintro e w1 ⟨s, bm, rfl, h1, u1, a1, a2⟩
  go_wp2_with fail
  go_loopg [11] l.length (fun kq v11 w' => ∃ (i : Nat) (L : Slots) (used : Int), v11 = .int .i64 (i : Int) ∧ kq + i = l.length ∧ SlabAt w' s bm 65536 used L ∧ Filled l i L ∧ 0 ≤ used ∧ used ≤ 128 * i ∧ (∀ p ∈ L, w.heap.size ≤ p.2.1) ∧ Upd [] w w')
  case atStart => exact ⟨0, [], 0, rfl, rfl, h1, ⟨rfl, fun j b hj => absurd hj (by omega)⟩, by omega, by omega, by simp, u1⟩
  case round =>
    clear h1 u1
    obtain ⟨i, L, used, rfl, hk, hS, hF, hu0, hu1, hLb, hU⟩ := hrel
    by_cases hi : i < l.length
    · have z4 : decide ((i : Int) < (l.length : Int)) = true := decide_eq_true (by omega)
      obtain ⟨x, hx⟩ : ∃ x, l[i]? = some x := ⟨l[i], List.getElem?_eq_getElem hi⟩
      obtain ⟨g, off, rfl, hc⟩ := (hl.keep hU) i x hx
      have hsz := szN_int x
      have hbd := szN_bd x
      obtain ⟨b0, b1⟩ := byteBd x
      go_wp2_with fail
      have hkeys := hF.keys (by omega)
      refine (Take_ok _ s bm 65536 used _ L hS (szN_ok x) (by have := (cls_bd (szN_ok x)).2.1; omega) hu0 (by omega) (by rw [hF.len]; omega)).mono ?_
      rintro e w2 ⟨k, b, rfl, p1, p2, h2, q1, u2⟩
      rw [hkeys] at p1 p2
      obtain rfl : k = i := next_is p1 p2
      have U2 := hU.step u2 (by simp; omega)
      have hcl := (cls_bd (szN_ok x)).2.1
      have hcl0 := (cls_bd (szN_ok x)).1
      have sz1 := hU.size
      have hnk : (k : Int) ∉ L.map (·.1) := by rw [hkeys]; exact p2
      rw [Int.toNat_natCast] at h2
      have hbk := byteOf k (by omega)
      have hfa : aget (L ++ [((k : Int), (b, List.replicate (szN x) (0 : UInt8)))]) (k : Int) = some (b, List.replicate (szN x) 0) := aget_last _ hnk
      clear u2 p1 p2 hS hU hkeys hc
      go_wp2_with fail
      have hfl := fill_spec w2 (szN x) (UInt8.ofNat k) (by omega)
      rw [hbk] at hfl
      refine hfl.mono ?_
      clear hfl hbk
      rintro e w3 ⟨bf, rfl, hbf, q3, u3⟩
      have h3 := h2.keep u3
      have U3 := U2.trans u3
      have hcv := hbf.conv (P := Try.prog) Try.underlying36 Try.underlying5 Try.underlying9 0 (szN x) (szN x) (by simp)
      rw [List.drop_zero, List.take_of_length_le (by simp)] at hcv
      clear h2 U2 u3 hbf q3
      go_wp2_with fail
      clear hcv
      refine (Write_ok _ s bm 65536 _ _ (k : Int) 0 _ h3 (WalkArith.wf_i64 (by omega)) b _ hfa (by simp; omega) (by rw [bstr_size]; simp)).mono ?_
      rintro e w4 ⟨rfl, h4, u4⟩
      have U4 := U3.step u4 (by simp; omega)
      rw [aput_last _ _ hnk] at h4
      have e1 : over (List.replicate (szN x) (0 : UInt8)) 0 (bstr (List.replicate (szN x) (UInt8.ofNat k))).data.toList = List.replicate (szN x) (UInt8.ofNat k) := over_all _ _ (by simp [bstr]) _
      rw [e1] at h4
      clear u4 h3 U3 e1 hfa
      go_wp2_with fail
      go_roundg (gk - 1)
      case measure => omega
      case rel => exact ⟨k + 1, _, _, by go_num, by omega, h4, hF.snoc hx b, by omega, by omega, fun p hp => by
        rcases List.mem_append.1 hp with hp | hp
        · exact hLb p hp
        · obtain rfl := List.mem_singleton.1 hp
          simp; omega, U4⟩
    · have z4 : decide ((i : Int) < (l.length : Int)) = false := decide_eq_false (by omega)
      obtain rfl : i = l.length := by omega
      have hll : l.length ≤ 100 := by omega
      have hlp : 0 < l.length := by omega
      obtain ⟨kk, hkk⟩ : ∃ kk, kk = which.toNat % l.length := ⟨_, rfl⟩
      have hkl : kk < l.length := by rw [hkk]; exact Nat.mod_lt _ hlp
      have hki : (which.toNat : Int) % (l.length : Int) = (kk : Int) := by rw [hkk]; omega
      obtain ⟨b0, b1⟩ := byteBd which
      have b2 : 0 ≤ (a : Int) ∧ (a : Int) ≤ 255 := by omega
      obtain ⟨b2, b3⟩ := b2
      obtain ⟨x, hx⟩ : ∃ x, l[kk]? = some x := ⟨l[kk], List.getElem?_eq_getElem hkl⟩
      obtain ⟨g, off, rfl, hc⟩ := (hl.keep hU) kk x hx
      have hsz := szN_int x
      have hbd := szN_bd x
      obtain ⟨b4, b5⟩ := byteBd x
      clear hkk
      have hnd := hS.map.nodup ki
      obtain ⟨gx, hgx⟩ := hF.get hnd hkl hx
      have hts' : okI (t.size : Int) := WalkArith.wf_i64 (by omega)
      have hat : okI (a : Int) := WalkArith.wf_i64 (by omega)
      have hkI : okI (kk : Int) := WalkArith.wf_i64 (by omega)
      by_cases hfit : a + t.size ≤ szN x
      · have z5 : decide ((a : Int) + (t.size : Int) ≤ (szN x : Int)) = true := decide_eq_true (by omega)
        have hgb := hLb _ (aget_mem hgx)
        go_wp2_with fail
        refine (Write_ok _ s bm 65536 used L (kk : Int) a t hS hkI gx _ hgx (by simp; omega) (by simp; omega)).mono ?_
        rintro e w2 ⟨rfl, hS2, u2⟩
        have U2 := hU.step u2 (by simpa using hgb) 
        obtain ⟨CC, hCC⟩ : ∃ CC : Nat → List UInt8, CC = fun j => if j = kk then over (List.replicate (szN x) (UInt8.ofNat kk)) a t.data.toList else ((l[j]?).map fun b => List.replicate (szN b) (UInt8.ofNat j)).getD [] := ⟨_, rfl⟩
        have hCk : CC kk = over (List.replicate (szN x) (UInt8.ofNat kk)) a t.data.toList := by rw [hCC]; simp
        have hCi : ∀ (j : Nat) (b : UInt8), j ≠ kk → l[j]? = some b → CC j = List.replicate (szN b) (UInt8.ofNat j) := fun j b hne hj => by rw [hCC]; simp [hj, hne]
        have htl : t.data.toList.length = t.size := rfl
        have hlo : (over (List.replicate (szN x) (UInt8.ofNat kk)) a t.data.toList).length = szN x := by rw [over_length _ _ _ (by rw [htl]; simp; omega)]; simp
        have hH : Holds l (aput L (kk : Int) (gx, over (List.replicate (szN x) (UInt8.ofNat kk)) a t.data.toList)) CC := fun j b hj => by
          by_cases hjk : j = kk
          · subst hjk
            rw [hx] at hj
            cases hj
            exact ⟨gx, by rw [aget_aput_self, hCk], by rw [hCk]; exact hlo⟩
          · obtain ⟨g, hg⟩ := hF.get hnd (List.getElem?_eq_some_iff.1 hj).1 hj
            refine ⟨g, ?_, ?_⟩
            · rw [aget_aput_ne _ _ (by omega), hg, hCi j b hjk hj]
            · rw [hCi j b hjk hj]; simp
        generalize aput L (kk : Int) (gx, over (List.replicate (szN x) (UInt8.ofNat kk)) a t.data.toList) = LL at *
        clear hS hU hgx hF hnd hc hCC u2 hLb hgb
        go_wp2_with fail
        go_loopg [19] l.length (fun kq v19 w' => ∃ (i : Nat), v19 = .int .i64 (i : Int) ∧ kq + i = l.length ∧ SlabAt w' s bm 65536 used LL ∧ Upd [] w w')
        case atStart => exact ⟨0, rfl, rfl, hS2, U2⟩
        case round =>
          clear hS2 U2
          obtain ⟨i, rfl, hk, hS, hU⟩ := hrel
          by_cases hi : i < l.length
          · have z6 : decide ((i : Int) < (l.length : Int)) = true := decide_eq_true (by omega)
            obtain ⟨y, hy⟩ : ∃ y, l[i]? = some y := ⟨l[i], List.getElem?_eq_getElem hi⟩
            obtain ⟨g', off', hA', hcy⟩ := (hl.keep hU) i y hy
            cases hA'
            have hszy := szN_int y
            have hbdy := szN_bd y
            obtain ⟨d0, d1⟩ := byteBd y
            obtain ⟨gi, hgi, hgl⟩ := hH i y hy
            have hbk := byteOf i (by omega)
            have hfl := fun w => fill_spec w (szN y) (UInt8.ofNat i) (by omega)
            rw [hbk] at hfl
            clear hbk
            go_wp2_with fail
            refine (hfl _).mono ?_
            clear hfl
            rintro e w3 ⟨bf, rfl, hbf, q3, u3⟩
            have hS3 := hS.keep u3
            have U3 := hU.trans u3
            have sz2 := hU.size
            obtain ⟨o1, o2, hSb⟩ := hS.lts
            clear hS u3 hcy
            by_cases hik : i = kk
            · subst hik
              obtain rfl : x = y := by rw [hx] at hy; cases hy; rfl
              have z7 : ((i : Int) == (i : Int)) = true := by simp
              by_cases he : a = szN x
              · subst he
                have h0 : t.size = 0 := by omega
                have e1 : t.data.toList = [] := List.eq_nil_of_length_eq_zero h0
                obtain ⟨w4, hcp, hb4, u4, s4⟩ := hbf.copy (P := Try.prog) (sT := 9) Try.underlying36 hi5 3 0 0 0 t (by omega) (by simp)
                have hb4 : BytesAt 5 w4 bf (CC i) := by
                  rw [hCk, e1]
                  rw [e1] at hb4
                  simpa [over] using hb4
                clear hCk e1 h0
                have hcv := hb4.conv (P := Try.prog) Try.underlying36 Try.underlying5 Try.underlying9 0 (szN x) (szN x) (by rw [hgl]; omega)
                rw [drop0_take hgl] at hcv
                have hS4 := hS3.kept u4 (by simp; omega) (by simp; omega) (fun p hp => by have := hSb p hp; simp; omega)
                have U4 := U3.step u4 (by simp; omega)
                clear hb4 u4 s4 hS3 U3 hbf
                go_wp2_with fail
                refine (Read_ok _ s bm _ _ _ (i : Int) 0 (szN x) hS4 (WalkArith.wf_i64 (by omega)) gi (CC i) hgi (by rw [hgl]; omega) (by rw [hgl]; omega)).mono ?_
                rintro e w5 ⟨rfl, rfl⟩
                rw [drop0_take hgl]
                go_wp2_with fail
                go_roundg (gk - 1)
                case measure => omega
                case rel => exact ⟨i + 1, by go_num, by omega, hS4, U4⟩
              · have z8 : ¬ szN x = a := by omega
                obtain ⟨w4, hcp, hb4, u4, s4⟩ := hbf.copy (P := Try.prog) (sT := 9) Try.underlying36 hi5 3 a (szN x - a) (szN x - a) t (by omega) (by simp; omega)
                rw [← hCk] at hb4
                clear hCk
                have hcv := hb4.conv (P := Try.prog) Try.underlying36 Try.underlying5 Try.underlying9 0 (szN x) (szN x) (by rw [hgl]; omega)
                rw [drop0_take hgl] at hcv
                have hS4 := hS3.kept u4 (by simp; omega) (by simp; omega) (fun p hp => by have := hSb p hp; simp; omega)
                have U4 := U3.step u4 (by simp; omega)
                clear hb4 u4 s4 hS3 U3 hbf
                go_wp2_with fail
                refine (Read_ok _ s bm _ _ _ (i : Int) 0 (szN x) hS4 (WalkArith.wf_i64 (by omega)) gi (CC i) hgi (by rw [hgl]; omega) (by rw [hgl]; omega)).mono ?_
                rintro e w5 ⟨rfl, rfl⟩
                rw [drop0_take hgl]
                go_wp2_with fail
                go_roundg (gk - 1)
                case measure => omega
                case rel => exact ⟨i + 1, by go_num, by omega, hS4, U4⟩
            · have z7 : ((i : Int) == (kk : Int)) = false := beq_false_of_ne (by omega)
              rw [← hCi i y hik hy] at hbf
              have hcv := hbf.conv (P := Try.prog) Try.underlying36 Try.underlying5 Try.underlying9 0 (szN y) (szN y) (by rw [hgl]; omega)
              rw [drop0_take hgl] at hcv
              clear hCk
              go_wp2_with fail
              refine (Read_ok _ s bm _ _ _ (i : Int) 0 (szN y) hS3 (WalkArith.wf_i64 (by omega)) gi (CC i) hgi (by rw [hgl]; omega) (by rw [hgl]; omega)).mono ?_
              rintro e w5 ⟨rfl, rfl⟩
              rw [drop0_take hgl]
              go_wp2_with fail
              go_roundg (gk - 1)
              case measure => omega
              case rel => exact ⟨i + 1, by go_num, by omega, hS3, U3⟩
          · have z6 : decide ((i : Int) < (l.length : Int)) = false := decide_eq_false (by omega)
            go_wp2_with (go_at_call 21; (with_reducible refine (works12 _).mono ?_); rintro e w3 ⟨rfl, u3⟩)
            go_ret
            exact ⟨rfl, hU.trans u3⟩
      have z5 : decide ((a : Int) + (t.size : Int) ≤ (szN x : Int)) = false := decide_eq_false (by omega)
      go_wp2_with fail
      refine (Write_no _ s bm 65536 used L (kk : Int) (a : Int) 120 t hS hkI hat hts' (hF.bd (Nat.le_refl _)) (.inr ⟨gx, _, hgx, by unfold fits; simp; omega, rfl⟩)).mono ?_
      rintro e w2 ⟨rfl, rfl⟩
      have hS2 := hS
      have U2 := hU
      obtain ⟨CC, hCC⟩ : ∃ CC : Nat → List UInt8, CC = fun j => ((l[j]?).map fun b => List.replicate (szN b) (UInt8.ofNat j)).getD [] := ⟨_, rfl⟩
      have hH : Holds l L CC := fun j b hj => by
        obtain ⟨g, hg⟩ := hF.get hnd (List.getElem?_eq_some_iff.1 hj).1 hj
        refine ⟨g, ?_, ?_⟩
        · rw [hg, hCC]; simp only [hj]; rfl
        · rw [hCC]; simp [hj]
      have hCi : ∀ (j : Nat) (b : UInt8), l[j]? = some b → CC j = List.replicate (szN b) (UInt8.ofNat j) := fun j b hj => by rw [hCC]; simp only [hj]; rfl
      generalize L = LL at *
      clear hS hU hgx hF hnd hc hCC
      go_wp2_with fail
      go_loopg [19] l.length (fun kq v19 w' => ∃ (i : Nat), v19 = .int .i64 (i : Int) ∧ kq + i = l.length ∧ SlabAt w' s bm 65536 used LL ∧ Upd [] w w')
      case atStart => exact ⟨0, rfl, rfl, hS2, U2⟩
      case round =>
        clear hS2 U2
        obtain ⟨i, rfl, hk, hS, hU⟩ := hrel
        by_cases hi : i < l.length
        · have z6 : decide ((i : Int) < (l.length : Int)) = true := decide_eq_true (by omega)
          obtain ⟨y, hy⟩ : ∃ y, l[i]? = some y := ⟨l[i], List.getElem?_eq_getElem hi⟩
          obtain ⟨g', off', hA', hcy⟩ := (hl.keep hU) i y hy
          cases hA'
          have hszy := szN_int y
          have hbdy := szN_bd y
          obtain ⟨d0, d1⟩ := byteBd y
          obtain ⟨gi, hgi, hgl⟩ := hH i y hy
          have hbk := byteOf i (by omega)
          have hfl := fun w => fill_spec w (szN y) (UInt8.ofNat i) (by omega)
          rw [hbk] at hfl
          clear hbk
          go_wp2_with fail
          refine (hfl _).mono ?_
          clear hfl
          rintro e w3 ⟨bf, rfl, hbf, q3, u3⟩
          have hS3 := hS.keep u3
          have U3 := hU.trans u3
          have sz2 := hU.size
          clear hS u3 hcy
          rw [← hCi i y hy] at hbf
          have hcv := hbf.conv (P := Try.prog) Try.underlying36 Try.underlying5 Try.underlying9 0 (szN y) (szN y) (by rw [hgl]; omega)
          rw [drop0_take hgl] at hcv
          rcases Bool.eq_false_or_eq_true ((i : Int) == (kk : Int)) with z7 | z7
          all_goals
            go_wp2_with fail
            refine (Read_ok _ s bm _ _ _ (i : Int) 0 (szN y) hS3 (WalkArith.wf_i64 (by omega)) gi (CC i) hgi (by rw [hgl]; omega) (by rw [hgl]; omega)).mono ?_
            rintro e w5 ⟨rfl, rfl⟩
            rw [drop0_take hgl]
            go_wp2_with fail
            go_roundg (gk - 1)
            case measure => omega
            case rel => exact ⟨i + 1, by go_num, by omega, hS3, U3⟩
        · have z6 : decide ((i : Int) < (l.length : Int)) = false := decide_eq_false (by omega)
          go_wp2_with (go_at_call 21; (with_reducible refine (works12 _).mono ?_); rintro e w3 ⟨rfl, u3⟩)
          go_ret
          exact ⟨rfl, hU.trans u3⟩
end Go.Proofs.Ytgleceijdedlkaa
