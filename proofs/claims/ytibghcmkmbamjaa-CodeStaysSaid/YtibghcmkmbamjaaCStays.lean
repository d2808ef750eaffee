/- code: CodeStays' walk. -/
import Derived.Test.YtibghcmkmbamjaaCWhole
import Derived.Test.YtibghcmkmbamjaaCRKind
import Derived.Test.YtibghcmkmbamjaaCPl4
namespace Go.Proofs.Ytibghcmkmbamjaa
open Go.RowKit Go.Shelf
set_option linter.unusedVariables false
set_option linter.unusedSimpArgs false
set_option linter.unusedSectionVars false
section
variable {A B : Option Addr} {l : List Ins} {ch : List UInt8} {w : World}
set_option maxRecDepth 100000 in
set_option maxHeartbeats 16000000 in
theorem stays9 (c cc : Nat) (f : Int) (hf : 0 ≤ f ∧ f ≤ 255) (hA : RowsAt w A 5 (l.map encN)) (hok : ∀ x ∈ l, OkI x) (hll : l.length ≤ maxLen) (hC : ∀ (i : Nat) (b : UInt8), ch[i]? = some b → ∃ g off, B = some ⟨g, off, none⟩ ∧ w.cell? ⟨g, off + i, none⟩ = some (.int .u8 (b.toNat : Int))) (hcl : ch.length ≤ maxLen) :
    Calls Try.prog 9 #[.slice A l.length c, .int .u8 f, .slice B ch.length cc] w fun e w' => e = .returned (.bool true) ∧ Upd [] w w' := by
  have hal := fun W => alive32 W
  unfold maxLen at hll hcl
  by_cases g1 : 200 < l.length
  · have z1 : decide ((200 : Int) < (l.length : Int)) = true := decide_eq_true (by omega)
    clear hA hC g1
    go_enter Try.func9, Try.ntmps9
    go_wp2_with fail
    refine (hal _).mono ?_
    rintro e w1 ⟨rfl, u1⟩
    go_wp2_with fail
    go_ret
    exact ⟨rfl, u1⟩
  have z1 : decide ((200 : Int) < (l.length : Int)) = false := decide_eq_false (by omega)
  by_cases g2 : 300 < ch.length
  · have z2 : decide ((300 : Int) < (ch.length : Int)) = true := decide_eq_true (by omega)
    clear hA hC g2
    go_enter Try.func9, Try.ntmps9
    go_wp2_with fail
    refine (hal _).mono ?_
    rintro e w1 ⟨rfl, u1⟩
    go_wp2_with fail
    go_ret
    exact ⟨rfl, u1⟩
  have z2 : decide ((300 : Int) < (ch.length : Int)) = false := decide_eq_false (by omega)
  have hck := check33 (w := w) c hA hok
  by_cases g3 : (checkP l).2.2 = 0
  · have hF := check_fine g3
    rw [hF.check] at hck
    clear g3
    have hpos : 0 < (subsP l).length := by rw [subs_len]; have := (starts_mem (l := l) 0).2 (.inl rfl); exact List.length_pos_of_mem this
    have hfew := hF.few
    go_enter Try.func9, Try.ntmps9
    go_wp2_with fail
    refine hck.mono ?_
    rintro e w1 ⟨va, rfl, H1⟩
    obtain ⟨Aa, ca, rfl, ra⟩ := H1.row
    rw [List.length_map]
    have U1 := H1.u
    have hwh := whole36 (w := w1) ca l.length ra (fun s hs => by
      obtain ⟨q, hq⟩ := List.getElem?_of_mem hs
      have := hF.rows.sub hq
      exact ⟨by omega, by omega, by omega⟩) hpos (by omega)
    clear hck H1
    go_wp2_with fail
    refine hwh.mono ?_
    rintro e w2 ⟨rfl, u2⟩
    have ra := ra.keep u2
    have U2 := U1.trans u2
    clear hwh U1 u2
    obtain ⟨k0, hk0, hk1⟩ : ∃ k0 : Nat, f % ((subsP l).length : Int) = (k0 : Int) ∧ k0 < (subsP l).length := by
      have h1 := Int.emod_nonneg f (b := ((subsP l).length : Int)) (by omega)
      have h2 := Int.emod_lt_of_pos f (b := ((subsP l).length : Int)) (by omega)
      exact ⟨(f % ((subsP l).length : Int)).toNat, by omega, by omega⟩
    have zl : (((subsP l).length : Int) == 0) = false := by
      have : ¬ ((subsP l).length : Int) = 0 := by omega
      simpa using this
    have htm : Int.tmod f ((subsP l).length : Int) = (k0 : Int) := by rw [Int.tmod_eq_emod_of_nonneg hf.1]; exact hk0
    have zk : (0 : Int) ≤ (k0 : Int) := by omega
    have zk2 : (k0 : Int) < ((subsP l).length : Int) := by omega
    have hf0 := hf.1
    obtain ⟨s0, hs0⟩ : ∃ s0, (subsP l)[k0]? = some s0 := ⟨_, List.getElem?_eq_getElem hk1⟩
    have hat0 := at_begin hF hs0
    obtain ⟨ba, oa, rfl, m0, m1⟩ := cellS ra hs0
    go_wp2_with fail
    have HB := (SepK.start w2).alloc (.cells #[.int .i64 s0.1, .int .i64 s0.2] 53)
    obtain ⟨b10, hb10⟩ : ∃ b10, w2.heap.size = b10 := ⟨_, rfl⟩
    rw [hb10] at HB ⊢
    clear m0 m1 hk0 hk1 zl htm zk zk2 hf0 hs0
    go_loopg [13, 11, 12, 14, 15, 16, 17, 18] ch.length (fun kq v13 v11 v12 v14 v15 v16 v17 v18 w' => ∃ (i d k : Nat) (s : Int × Int) (a : Nat), v13 = .int .i64 (i : Int) ∧ v11 = .int .i64 (a : Int) ∧ v12 = .int .i64 (d : Int) ∧ kq + i = ch.length ∧ At l d k s (a : Int) ∧ SepK w2 w' [(b10, .cells #[.int .i64 s.1, .int .i64 s.2] 53)] emp)
    case atStart =>
      have hb := allP_bd hat0.mem
      exact ⟨0, 0, k0, s0, s0.1.toNat, rfl, by rw [show (s0.1.toNat : Int) = s0.1 by omega], rfl, rfl, by rw [show (s0.1.toNat : Int) = s0.1 by omega]; exact hat0, HB⟩
    case round =>
      clear HB hat0
      obtain ⟨i, d, k, s, a, rfl, rfl, rfl, hkq, hat, H⟩ := hrel
      by_cases hi : i < ch.length
      · have y1 : decide ((i : Int) < (ch.length : Int)) = true := decide_eq_true (by omega)
        have y3 : (0 : Int) ≤ (i : Int) := by omega
        have y4 : (i : Int) < (ch.length : Int) := by omega
        have y5 : IntKind.i64.wrap ((i : Int) + 1) = (i : Int) + 1 := IntWalk.i64_in _ (by omega)
        have hb := allP_bd hat.mem
        have hin := hat.inn
        have hdl := depth_le hat.dep
        have hk0' := hat.kind hF
        obtain ⟨x, hx⟩ : ∃ x, l[a]? = some x := ⟨_, List.getElem?_eq_getElem (by omega)⟩
        have hkx : kindP l (a : Int) = x.kind := kindP_at hx
        have a1 : (0 : Int) ≤ (a : Int) := by omega
        have a2 : (a : Int) < (l.length : Int) := by omega
        have q1 : decide ((a : Int) < s.1) = false := decide_eq_false (by omega)
        have q2 : decide (s.2 ≤ (a : Int)) = false := decide_eq_false (by omega)
        have q3 : (x.kind == 0) = false := by rw [← hkx]; simpa using hk0'
        have q4 : decide (((subsP l).length : Int) < (d : Int)) = false := decide_eq_false (by omega)
        have q4n : decide ((subsP l).length < d) = false := decide_eq_false (by omega)
        have q4m : d ≤ (subsP l).length := hdl
        have hU := U2.trans H.u
        have hbx := H.blk (b := b10) (o := .cells #[.int .i64 s.1, .int .i64 s.2] 53) (by simp)
        have c0 := cell_of hbx 0
        have c1 := cell_of hbx 1
        have l0 := lt_of_heap hbx
        simp only [List.getElem?_toArray, List.getElem?_cons_zero, List.getElem?_cons_succ] at c0 c1
        have hrk := fun W => rkind20 (hok x (List.mem_of_getElem? hx)) W
        have hcc := fun W u => callee37 (l := l) c (hA.keep (w' := W) u) hok (a : Int) (by omega)
        obtain ⟨y, hy⟩ : ∃ y, ch[i]? = some y := ⟨_, List.getElem?_eq_getElem hi⟩
        obtain ⟨gb, ob, rfl, ky⟩ := hC i y hy
        have ky := hU.cell ky (by simp)
        have ry := hA.keep hU
        obtain ⟨bl, ol, rfl, n0, n1, n2, n3, n4⟩ := cellN ry hx
        have hR : RowsAt w (some ⟨bl, ol, none⟩) 5 (l.map encN) := hA
        obtain ⟨g1, hg1⟩ : ∃ g, g = gk := ⟨_, rfl⟩
        have hyb : 0 ≤ (y.toNat : Int) ∧ (y.toNat : Int) ≤ 255 := by have := y.toNat_lt; omega
        generalize (y.toNat : Int) = yy at ky hyb
        generalize x.kind = kk at *
        clear hy hbx hb hin hdl hk0' ry
        go_wp2_with fail
        refine (hrk wr).mono ?_
        rintro e w3 ⟨rfl, u3⟩
        have U3 := hU.trans u3
        have hc3 := hcc _ U3
        have ky := u3.cell ky (by simp)
        have n0 := u3.cell n0 (by simp)
        have n1 := u3.cell n1 (by simp)
        have n2 := u3.cell n2 (by simp)
        have n3 := u3.cell n3 (by simp)
        have n4 := u3.cell n4 (by simp)
        have H3 := H.upd u3
        clear c0 c1 H
        go_wp2_with fail
        refine hc3.mono ?_
        rintro e w4 ⟨rfl, u4⟩
        have UC := U3.trans u4
        have HC := H3.upd u4
        have ky := u4.cell ky (by simp)
        have n0 := u4.cell n0 (by simp)
        have n1 := u4.cell n1 (by simp)
        have n2 := u4.cell n2 (by simp)
        have n3 := u4.cell n3 (by simp)
        have n4 := u4.cell n4 (by simp)
        have N1 := fun W (u : Upd [] w W) => next38 (K := []) (T := emp) c (SepK.start W) (hR.keep u) hok (a : Int) (by omega)
        have hnx : True := trivial
        have hy0 := hyb.1
        have hq : calleeP l (a : Int) = none ∨ (∃ t, calleeP l (a : Int) = some t ∧ (kk == 7) = false) ∨ (∃ t, calleeP l (a : Int) = some t ∧ (kk == 7) = true ∧ (yy % 2 == 1) = false) ∨ (∃ t, calleeP l (a : Int) = some t ∧ (kk == 7) = true ∧ (yy % 2 == 1) = true) := by
          cases calleeP l (a : Int) with
          | none => exact .inl rfl
          | some t => cases kk == 7 <;> cases yy % 2 == 1 <;> simp
        clear hc3 H3 hcc
        rcases hq with ho | ⟨t, ho, z7⟩ | ⟨t, ho, z7, zo⟩ | ⟨t, ho, z7, zo⟩
        · rw [ho]
          simp only [ansC, Option.getD_none, Option.isSome_none]
          clear ho
          go_wp2_with fail
          refine (N1 _ UC).mono ?_
          rintro e w6 ⟨v18, rfl, H6⟩
          have HS := HC.upd H6.u
          obtain ⟨A18, c18, rfl, r18⟩ := H6.row
          rw [List.length_map]
          have U6 := UC.trans H6.u
          have n0 := H6.u.cell n0 (by simp)
          have n1 := H6.u.cell n1 (by simp)
          have n2 := H6.u.cell n2 (by simp)
          have n3 := H6.u.cell n3 (by simp)
          have n4 := H6.u.cell n4 (by simp)
          have ky := H6.u.cell ky (by simp)
          clear H6 N1
          by_cases hnil : nextP l (a : Int) = []
          · have z8 : (kk == 8) = true := by
              have := next_nil hnil (by rw [hkx]; simpa using q3)
              rw [hkx] at this
              simp [this]
            rw [hnil, List.length_nil]
            clear hnil hat hnx r18
            go_wp2_with fail
            refine (hrk _).mono ?_
            rintro e w7 ⟨rfl, u7⟩
            go_wp2_with fail
            refine (hal _).mono ?_
            rintro e w8 ⟨rfl, u8⟩
            go_wp2_with fail
            go_ret
            exact ⟨rfl, (U6.trans u7).trans u8⟩
          · obtain ⟨X, hX⟩ : ∃ X, X = nextP l (a : Int) := ⟨_, rfl⟩
            rw [← hX] at r18 hnil ⊢
            have hXl : 0 < X.length := List.length_pos_iff.2 hnil
            have hX2 : X.length ≤ 100000 := by rw [hX]; have := nextP_len (l := l) (a : Int); omega
            obtain ⟨r, hr0, hr1⟩ : ∃ r : Nat, yy % (X.length : Int) = (r : Int) ∧ r < X.length := by
              have h1 := Int.emod_nonneg yy (b := (X.length : Int)) (by omega)
              have h2 := Int.emod_lt_of_pos yy (b := (X.length : Int)) (by omega)
              exact ⟨(yy % (X.length : Int)).toNat, by omega, by omega⟩
            have x1 : ((X.length : Int) == 0) = false := by
              have : ¬ (X.length : Int) = 0 := by omega
              simpa using this
            have x2 : Int.tmod yy (X.length : Int) = (r : Int) := by rw [Int.tmod_eq_emod_of_nonneg hyb.1]; exact hr0
            have x3 : (0 : Int) ≤ (r : Int) := by omega
            have x4 : (r : Int) < (X.length : Int) := by omega
            obtain ⟨tt, htt⟩ : ∃ tt, X[r]? = some tt := ⟨_, List.getElem?_eq_getElem hr1⟩
            have hat2 := hat.next hF (t := tt) (by rw [← hX]; exact List.mem_of_getElem? htt)
            have htb := allP_bd hat2.mem
            obtain ⟨tn, rfl⟩ : ∃ tn : Nat, tt = (tn : Int) := ⟨tt.toNat, by omega⟩
            obtain ⟨b18, o18, rfl, k18⟩ := cellZ r18 htt
            have hy0 := hyb.1
            clear hnil hat hnx htt r18 hr1 htb hX
            go_wp2_with fail
            go_roundg (g1 - 1)
            case measure => omega
            case rel => exact ⟨i + 1, d, k, s, tn, by go_num, rfl, rfl, by omega, hat2, HS⟩
        · rw [ho]
          simp only [ansC, Option.getD_some, Option.isSome_some]
          clear ho
          go_wp2_with fail
          refine (hrk _).mono ?_
          rintro e wk ⟨rfl, uk⟩
          have UC := UC.trans uk
          have HC := HC.upd uk
          have ky := uk.cell ky (by simp)
          have n0 := uk.cell n0 (by simp)
          have n1 := uk.cell n1 (by simp)
          have n2 := uk.cell n2 (by simp)
          have n3 := uk.cell n3 (by simp)
          have n4 := uk.cell n4 (by simp)
          go_wp2_with fail
          refine (N1 _ UC).mono ?_
          rintro e w6 ⟨v18, rfl, H6⟩
          have HS := HC.upd H6.u
          obtain ⟨A18, c18, rfl, r18⟩ := H6.row
          rw [List.length_map]
          have U6 := UC.trans H6.u
          have n0 := H6.u.cell n0 (by simp)
          have n1 := H6.u.cell n1 (by simp)
          have n2 := H6.u.cell n2 (by simp)
          have n3 := H6.u.cell n3 (by simp)
          have n4 := H6.u.cell n4 (by simp)
          have ky := H6.u.cell ky (by simp)
          clear H6 N1
          by_cases hnil : nextP l (a : Int) = []
          · have z8 : (kk == 8) = true := by
              have := next_nil hnil (by rw [hkx]; simpa using q3)
              rw [hkx] at this
              simp [this]
            rw [hnil, List.length_nil]
            clear hnil hat hnx r18
            go_wp2_with fail
            refine (hrk _).mono ?_
            rintro e w7 ⟨rfl, u7⟩
            go_wp2_with fail
            refine (hal _).mono ?_
            rintro e w8 ⟨rfl, u8⟩
            go_wp2_with fail
            go_ret
            exact ⟨rfl, (U6.trans u7).trans u8⟩
          · obtain ⟨X, hX⟩ : ∃ X, X = nextP l (a : Int) := ⟨_, rfl⟩
            rw [← hX] at r18 hnil ⊢
            have hXl : 0 < X.length := List.length_pos_iff.2 hnil
            have hX2 : X.length ≤ 100000 := by rw [hX]; have := nextP_len (l := l) (a : Int); omega
            obtain ⟨r, hr0, hr1⟩ : ∃ r : Nat, yy % (X.length : Int) = (r : Int) ∧ r < X.length := by
              have h1 := Int.emod_nonneg yy (b := (X.length : Int)) (by omega)
              have h2 := Int.emod_lt_of_pos yy (b := (X.length : Int)) (by omega)
              exact ⟨(yy % (X.length : Int)).toNat, by omega, by omega⟩
            have x1 : ((X.length : Int) == 0) = false := by
              have : ¬ (X.length : Int) = 0 := by omega
              simpa using this
            have x2 : Int.tmod yy (X.length : Int) = (r : Int) := by rw [Int.tmod_eq_emod_of_nonneg hyb.1]; exact hr0
            have x3 : (0 : Int) ≤ (r : Int) := by omega
            have x4 : (r : Int) < (X.length : Int) := by omega
            obtain ⟨tt, htt⟩ : ∃ tt, X[r]? = some tt := ⟨_, List.getElem?_eq_getElem hr1⟩
            have hat2 := hat.next hF (t := tt) (by rw [← hX]; exact List.mem_of_getElem? htt)
            have htb := allP_bd hat2.mem
            obtain ⟨tn, rfl⟩ : ∃ tn : Nat, tt = (tn : Int) := ⟨tt.toNat, by omega⟩
            obtain ⟨b18, o18, rfl, k18⟩ := cellZ r18 htt
            have hy0 := hyb.1
            clear hnil hat hnx htt r18 hr1 htb hX
            go_wp2_with fail
            go_roundg (g1 - 1)
            case measure => omega
            case rel => exact ⟨i + 1, d, k, s, tn, by go_num, rfl, rfl, by omega, hat2, HS⟩
        · rw [ho]
          simp only [ansC, Option.getD_some, Option.isSome_some]
          clear ho
          go_wp2_with fail
          refine (hrk _).mono ?_
          rintro e wk ⟨rfl, uk⟩
          have UC := UC.trans uk
          have HC := HC.upd uk
          have ky := uk.cell ky (by simp)
          have n0 := uk.cell n0 (by simp)
          have n1 := uk.cell n1 (by simp)
          have n2 := uk.cell n2 (by simp)
          have n3 := uk.cell n3 (by simp)
          have n4 := uk.cell n4 (by simp)
          go_wp2_with fail
          refine (N1 _ UC).mono ?_
          rintro e w6 ⟨v18, rfl, H6⟩
          have HS := HC.upd H6.u
          obtain ⟨A18, c18, rfl, r18⟩ := H6.row
          rw [List.length_map]
          have U6 := UC.trans H6.u
          have n0 := H6.u.cell n0 (by simp)
          have n1 := H6.u.cell n1 (by simp)
          have n2 := H6.u.cell n2 (by simp)
          have n3 := H6.u.cell n3 (by simp)
          have n4 := H6.u.cell n4 (by simp)
          have ky := H6.u.cell ky (by simp)
          clear H6 N1
          by_cases hnil : nextP l (a : Int) = []
          · have z8 : (kk == 8) = true := by
              have := next_nil hnil (by rw [hkx]; simpa using q3)
              rw [hkx] at this
              simp [this]
            rw [hnil, List.length_nil]
            clear hnil hat hnx r18
            go_wp2_with fail
            refine (hrk _).mono ?_
            rintro e w7 ⟨rfl, u7⟩
            go_wp2_with fail
            refine (hal _).mono ?_
            rintro e w8 ⟨rfl, u8⟩
            go_wp2_with fail
            go_ret
            exact ⟨rfl, (U6.trans u7).trans u8⟩
          · obtain ⟨X, hX⟩ : ∃ X, X = nextP l (a : Int) := ⟨_, rfl⟩
            rw [← hX] at r18 hnil ⊢
            have hXl : 0 < X.length := List.length_pos_iff.2 hnil
            have hX2 : X.length ≤ 100000 := by rw [hX]; have := nextP_len (l := l) (a : Int); omega
            obtain ⟨r, hr0, hr1⟩ : ∃ r : Nat, yy % (X.length : Int) = (r : Int) ∧ r < X.length := by
              have h1 := Int.emod_nonneg yy (b := (X.length : Int)) (by omega)
              have h2 := Int.emod_lt_of_pos yy (b := (X.length : Int)) (by omega)
              exact ⟨(yy % (X.length : Int)).toNat, by omega, by omega⟩
            have x1 : ((X.length : Int) == 0) = false := by
              have : ¬ (X.length : Int) = 0 := by omega
              simpa using this
            have x2 : Int.tmod yy (X.length : Int) = (r : Int) := by rw [Int.tmod_eq_emod_of_nonneg hyb.1]; exact hr0
            have x3 : (0 : Int) ≤ (r : Int) := by omega
            have x4 : (r : Int) < (X.length : Int) := by omega
            obtain ⟨tt, htt⟩ : ∃ tt, X[r]? = some tt := ⟨_, List.getElem?_eq_getElem hr1⟩
            have hat2 := hat.next hF (t := tt) (by rw [← hX]; exact List.mem_of_getElem? htt)
            have htb := allP_bd hat2.mem
            obtain ⟨tn, rfl⟩ : ∃ tn : Nat, tt = (tn : Int) := ⟨tt.toNat, by omega⟩
            obtain ⟨b18, o18, rfl, k18⟩ := cellZ r18 htt
            have hy0 := hyb.1
            clear hnil hat hnx htt r18 hr1 htb hX
            go_wp2_with fail
            go_roundg (g1 - 1)
            case measure => omega
            case rel => exact ⟨i + 1, d, k, s, tn, by go_num, rfl, rfl, by omega, hat2, HS⟩
        · obtain ⟨j, s', hj, hs', hat2⟩ := hat.call hF (by rw [hkx]; simpa using z7) ho
          have htb := allP_bd hat2.mem
          obtain ⟨tn, rfl⟩ : ∃ tn : Nat, t = (tn : Int) := ⟨t.toNat, by omega⟩
          have hdl := depth_le hat2.dep
          have y7 : IntKind.i64.wrap ((d : Int) + 1) = (d : Int) + 1 := IntWalk.i64_in _ (by omega)
          have hjl := (List.getElem?_eq_some_iff.1 hj).1
          have hone : ∀ (q : Nat) (sq : Int × Int), (subsP l)[q]? = some sq → sq.1 = (tn : Int) → q = j := fun q sq hq he => by
            have b1 := hF.rows.sub hq
            have b2 := hF.rows.sub hj
            exact hF.rows.one hq hj (a := (tn : Int)) (by omega) (by omega)
          rw [ho]
          simp only [ansC, Option.getD_some, Option.isSome_some]
          clear ho hat htb hdl N1 hR hnx hok
          go_wp2_with fail
          refine (hrk _).mono ?_
          rintro e wk ⟨rfl, uk⟩
          have UC := UC.trans uk
          have HC := HC.upd uk
          have ky := uk.cell ky (by simp)
          clear n0 n1 n2 n3 n4 hrk
          go_wp2_with fail
          clear ky
          generalize subsP l = ss at *
          go_loopg [17, 16] ss.length (fun kq v17 v16 w' => ∃ (q : Nat) (fb : Bool) (sx : Int × Int), v17 = .int .i64 (q : Int) ∧ v16 = .bool fb ∧ kq + q = ss.length ∧ SepK w2 w' [(b10, .cells #[.int .i64 sx.1, .int .i64 sx.2] 53)] emp ∧ ((fb = false ∧ q ≤ j ∧ sx = s) ∨ (fb = true ∧ sx = s')))
          case atStart => exact ⟨0, false, s, rfl, rfl, rfl, HC, .inl ⟨rfl, by omega, rfl⟩⟩
          case round =>
            clear HC UC
            obtain ⟨q, fb, sx, rfl, rfl, hkq2, HX, hor⟩ := hrel
            rcases hor with ⟨rfl, hqj, rfl⟩ | ⟨rfl, rfl⟩
            · have x1 : decide ((q : Int) < (ss.length : Int)) = true := decide_eq_true (by omega)
              have x2 : (0 : Int) ≤ (q : Int) := by omega
              have x3 : (q : Int) < (ss.length : Int) := by omega
              have x5 : IntKind.i64.wrap ((q : Int) + 1) = (q : Int) + 1 := IntWalk.i64_in _ (by omega)
              obtain ⟨sq, hsq⟩ : ∃ sq, ss[q]? = some sq := ⟨_, List.getElem?_eq_getElem (by omega)⟩
              obtain ⟨bs, os, ebs, k0', k1'⟩ := cellS (ra.keep HX.u) hsq
              cases ebs
              by_cases e : sq.1 = (tn : Int)
              · have eq1 := hone q sq hsq e
                subst eq1
                have : sq = s' := Option.some.inj (hsq.symm.trans hj)
                subst this
                have z9 : (sq.1 == (tn : Int)) = true := by simp [e]
                have hbx := HX.blk (b := b10) (o := .cells #[.int .i64 sx.1, .int .i64 sx.2] 53) (by simp)
                have lbx := lt_of_heap hbx
                have f0 := frozen_of hbx 0
                have f1 := frozen_of hbx 1
                have d0 := cell_of hbx 0
                have d1 := cell_of hbx 1
                simp only [List.getElem?_toArray, List.getElem?_cons_zero, List.getElem?_cons_succ] at d0 d1
                have HN := HX.set (o' := .cells #[.int .i64 sq.1, .int .i64 sq.2] 53 (0, 0)) (((Upd.refl [b10] _).setCell ⟨b10, 0, none⟩ (.int .i64 sq.1) (.inl (by simp))).setCell ⟨b10, 1, none⟩ (.int .i64 sq.2) (.inl (by simp))) (by simpa using heap_setCell_same (heap_setCell_same hbx 0 (.int .i64 sq.1)) 1 (.int .i64 sq.2)) (by intro p hp; simp at hp)
                clear HX e hsq hbx hs'
                go_wp2_with fail
                go_roundg (gk - 1)
                case measure => omega
                case rel => exact ⟨q + 1, true, sq, by go_num, rfl, by omega, HN, .inr ⟨rfl, rfl⟩⟩
              · have z9 : (sq.1 == (tn : Int)) = false := by simpa using e
                have hne : q ≠ j := fun e2 => by
                  subst e2
                  have : sq = s' := Option.some.inj (hsq.symm.trans hj)
                  subst this
                  exact e hs'
                clear e hsq
                go_wp2_with fail
                go_roundg (gk - 1)
                case measure => omega
                case rel => exact ⟨q + 1, false, sx, by go_num, rfl, by omega, HX, .inl ⟨rfl, by omega, rfl⟩⟩
            · by_cases hql : q < ss.length
              · have x1 : decide ((q : Int) < (ss.length : Int)) = true := decide_eq_true (by omega)
                go_wp2_with fail
                go_roundg (g1 - 1)
                case measure => omega
                case rel => exact ⟨i + 1, d + 1, j, sx, tn, by go_num, rfl, by go_num, by omega, hat2, HX⟩
              · have x1 : decide ((q : Int) < (ss.length : Int)) = false := decide_eq_false (by omega)
                go_wp2_with fail
                go_roundg (g1 - 1)
                case measure => omega
                case rel => exact ⟨i + 1, d + 1, j, sx, tn, by go_num, rfl, by go_num, by omega, hat2, HX⟩
      · have y1 : decide ((i : Int) < (ch.length : Int)) = false := decide_eq_false (by omega)
        have hU := U2.trans H.u
        clear hat H
        go_wp2_with fail
        refine (hal _).mono ?_
        rintro e w4 ⟨rfl, u4⟩
        go_wp2_with fail
        go_ret
        exact ⟨rfl, hU.trans u4⟩
  · have z3 : ((checkP l).2.2 != 0) = true := by simpa using g3
    have hnil := check_err g3
    rw [hnil] at hck
    clear g3
    generalize (checkP l).2.2 = ee at hck z3
    go_enter Try.func9, Try.ntmps9
    go_wp2_with fail
    refine hck.mono ?_
    rintro e w1 ⟨va, rfl, H1⟩
    have U1 := H1.u
    obtain ⟨Aa, ca, rfl, -⟩ := H1.row
    rw [List.map_nil, List.length_nil]
    clear hck H1
    go_wp2_with fail
    refine (hal _).mono ?_
    rintro e w2 ⟨rfl, u2⟩
    go_wp2_with fail
    go_ret
    exact ⟨rfl, U1.trans u2⟩
end
end Go.Proofs.Ytibghcmkmbamjaa
