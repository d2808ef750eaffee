/- InsnBack: plain. -/
import Derived.Test.YtibghcmkmbamjaaPu2
import Derived.Test.YtibghcmkmbamjaaOpenInsn
import Derived.Test.YtibghcmkmbamjaaPIx20
namespace Go.Proofs.Ytibghcmkmbamjaa.PI
open Go.RowKit Go.Proofs.YtibghcmkmbamjaaW.PrintWords Go.Proofs.YtibghcmkmbamjaaW.PrintLast Go.Proofs.YtibghcmkmbamjaaW.PrintMore Go.Proofs.Ytibghcmkmbamjaa
set_option linter.unusedVariables false
set_option linter.unusedSimpArgs false
theorem encL_bytes (op D S O M : Int) (h0 : 0 ≤ op) (h1 : op ≤ 255) : ∀ x ∈ encL op D S O M, 0 ≤ x ∧ x ≤ 255 := by
  intro x hx
  simp only [encL, List.mem_cons, List.not_mem_nil, or_false] at hx
  rcases hx with rfl | rfl | rfl | rfl | rfl | rfl | rfl | rfl <;> omega
theorem dec_enc (op D S O M : Int) (h : InsnOk op D S O M) (hD : D < 16) (hS : S < 16) : decF (strOfNums (encL op D S O M)) = (op, D, S, O, M, 0) := by
  have hb := encL_bytes op D S O M h.op0 h.op1
  obtain ⟨q1, q2, q3, q4, q5, q6, q7, q8, q9, q10⟩ := h
  have hsz : ((strOfNums (encL op D S O M)).size : Int) = 8 := by rw [strOfNums_size]; rfl
  have g : ∀ (i : Nat) (x : Int), (encL op D S O M)[i]? = some x → bt (strOfNums (encL op D S O M)) (i : Int) = x := fun i x hx => bt_strs _ i x hx (hb x (List.mem_of_getElem? hx)).1 (hb x (List.mem_of_getElem? hx)).2
  have g0 : bt (strOfNums (encL op D S O M)) 0 = op := g 0 _ rfl
  have g1 : bt (strOfNums (encL op D S O M)) 1 = D % 16 + S % 16 * 16 := g 1 _ rfl
  have g2 : bt (strOfNums (encL op D S O M)) 2 = O % 256 := g 2 _ rfl
  have g3 : bt (strOfNums (encL op D S O M)) 3 = O / 256 % 256 := g 3 _ rfl
  have g4 : bt (strOfNums (encL op D S O M)) 4 = M % 256 := g 4 _ rfl
  have g5 : bt (strOfNums (encL op D S O M)) 5 = M / 256 % 256 := g 5 _ rfl
  have g6 : bt (strOfNums (encL op D S O M)) 6 = M / 65536 % 256 := g 6 _ rfl
  have g7 : bt (strOfNums (encL op D S O M)) 7 = M / 16777216 % 256 := g 7 _ rfl
  unfold decF
  rw [if_neg (by omega), if_neg (by omega)]
  unfold le2 le4 wrap32
  rw [g0, g1, g2, g3, g4, g5, g6, g7, wrap_i16]
  refine Prod.ext rfl (Prod.ext ?_ (Prod.ext ?_ (Prod.ext ?_ (Prod.ext ?_ rfl)))) <;> simp only <;> omega
theorem enc_dec (s : ByteArray) (hs : (s.size : Int) = 8) : strOfNums (encL (decF s).1 (decF s).2.1 (decF s).2.2.1 (decF s).2.2.2.1 (decF s).2.2.2.2.1) = s := by
  have ht := text8 s (by omega)
  obtain ⟨a0, a1⟩ := bt_range s 0
  obtain ⟨b0, b1⟩ := bt_range s 1
  obtain ⟨c0, c1⟩ := bt_range s 2
  obtain ⟨d0, d1⟩ := bt_range s 3
  obtain ⟨e0, e1⟩ := bt_range s 4
  obtain ⟨f0, f1⟩ := bt_range s 5
  obtain ⟨g0, g1⟩ := bt_range s 6
  obtain ⟨i0, i1⟩ := bt_range s 7
  conv => rhs; rw [ht]
  congr 1
  unfold decF
  rw [if_neg (by omega), if_neg (by omega)]
  unfold le2 le4 wrap32
  rw [wrap_i16]
  unfold encL
  simp only [List.cons.injEq, and_true, true_and]
  refine ⟨?_, ?_, ?_, ?_, ?_, ?_, ?_⟩ <;> omega
theorem encL_inj (op D S O M op' D' S' O' M' : Int) (h : InsnOk op D S O M) (h' : InsnOk op' D' S' O' M') (hD : D < 16) (hS : S < 16) (hD' : D' < 16) (hS' : S' < 16) (e : encL op D S O M = encL op' D' S' O' M') : op = op' ∧ D = D' ∧ S = S' ∧ O = O' ∧ M = M' := by
  have h1 := dec_enc op D S O M h hD hS
  have h2 := dec_enc op' D' S' O' M' h' hD' hS'
  rw [e, h2] at h1
  simp only [Prod.mk.injEq] at h1
  omega
theorem toList_beq (a b : ByteArray) : (a.toList == b.toList) = decide (a = b) := by
  have key : a.toList = b.toList ↔ a = b := by
    constructor
    · intro h
      rw [Go.ByteArray.toList_eq, Go.ByteArray.toList_eq] at h
      exact ByteArray.ext (Array.toList_inj.1 h)
    · intro h; rw [h]
  rw [Bool.eq_iff_iff]
  simp [key]
theorem Back_pure (op D S O M op' D' S' O' M' : Int) (h : InsnOk op D S O M) (h' : InsnOk op' D' S' O' M') (s : ByteArray) : wardenlaw07_InsnBack.f 20 op D S O M op' D' S' O' M' s = some true := by
  have ha : wardenlaw07_alive.f 20 = some true := rfl
  obtain ⟨q1, q2, q3, q4, q5, q6, q7, q8, q9, q10⟩ := h
  obtain ⟨p1, p2, p3, p4, p5, p6, p7, p8, p9, p10⟩ := h'
  unfold wardenlaw07_InsnBack.f
  rw [Int.tmod_eq_emod_of_nonneg q3, Int.tmod_eq_emod_of_nonneg q5, Int.tmod_eq_emod_of_nonneg p3, Int.tmod_eq_emod_of_nonneg p5]
  have k : InsnOk op (D % 16) (S % 16) O M := ⟨q1, q2, by omega, by omega, by omega, by omega, q7, q8, q9, q10⟩
  have k' : InsnOk op' (D' % 16) (S' % 16) O' M' := ⟨p1, p2, by omega, by omega, by omega, by omega, p7, p8, p9, p10⟩
  have lD : D % 16 < 16 := by omega
  have lS : S % 16 < 16 := by omega
  have lD' : D' % 16 < 16 := by omega
  have lS' : S' % 16 < 16 := by omega
  generalize D % 16 = d at *
  generalize S % 16 = t at *
  generalize D' % 16 = d' at *
  generalize S' % 16 = t' at *
  split
  · rw [ha, bsome]
  · rw [Encode_eq 20 op d t O M k.d0 k.d1 k.s0 k.s1, bsome, Decode_eq 14, bsome, Decode_eq 14, bsome, dec_enc op d t O M k lD lS, if_pos (by simp), if_pos rfl, bsome, if_pos (by rw [strOfNums_size]; rfl), bsome, Encode_eq 20 op' d' t' O' M' k'.d0 k'.d1 k'.s0 k'.s1, bsome]
    have hc : ((strOfNums (encL op d t O M)).toList == (strOfNums (encL op' d' t' O' M')).toList) = (op == op' && (d == d' && (t == t' && (O == O' && (M == M'))))) := by
      rw [toList_beq, Bool.eq_iff_iff]
      simp only [decide_eq_true_eq, Bool.and_eq_true, beq_iff_eq]
      constructor
      · intro e
        exact encL_inj _ _ _ _ _ _ _ _ _ _ k k' lD lS lD' lS' (strs_inj (encL_bytes _ _ _ _ _ q1 q2) (encL_bytes _ _ _ _ _ p1 p2) e)
      · rintro ⟨e1, e2, e3, e4, e5⟩
        rw [e1, e2, e3, e4, e5]
    rw [hc, if_pos (by simp)]
    by_cases h8 : (s.size : Int) = 8
    · obtain ⟨b0, b1⟩ := bt_range s 1
      have e0 : (decF s).2.2.2.2.2 = 0 := by unfold decF; rw [if_neg (by omega), if_neg (by omega)]
      have e1 : (decF s).2.1 = bt s 1 % 16 := by unfold decF; rw [if_neg (by omega), if_neg (by omega)]
      have e2 : (decF s).2.2.1 = bt s 1 / 16 := by unfold decF; rw [if_neg (by omega), if_neg (by omega)]
      rw [if_pos e0, Encode_eq 20 _ _ _ _ _ (by rw [e1]; omega) (by rw [e1]; omega) (by rw [e2]; omega) (by rw [e2]; omega), bsome, enc_dec s h8, if_pos rfl, e0, if_pos (by simp [h8]), ha, bsome]
    · have e0 : (decF s).2.2.2.2.2 ≠ 0 := by
        unfold decF
        split
        · decide
        · rw [if_pos (by omega)]; decide
      have z1 : ((decF s).2.2.2.2.2 == 0) = false := beq_eq_false_iff_ne.2 e0
      have z2 : ((s.size : Int) == 8) = false := beq_eq_false_iff_ne.2 h8
      rw [if_neg e0, z1, z2, if_pos (by rfl), ha, bsome]
theorem back_walk (op D S O M op' D' S' O' M' : Int) (h : InsnOk op D S O M) (h' : InsnOk op' D' S' O' M') (s : ByteArray) (w : World) : Calls Try.prog 5 #[.agg #[.int .u8 op, .int .u8 D, .int .u8 S, .int .i16 O, .int .i32 M], .agg #[.int .u8 op', .int .u8 D', .int .u8 S', .int .i16 O', .int .i32 M'], .string s] w fun e w' => e = .returned (.bool true) ∧ Upd [] w w' :=
  (wardenlaw07_InsnBack.calls 20 op D S O M op' D' S' O' M' s true w ⟨rfl⟩ (Back_pure op D S O M op' D' S' O' M' h h' s)).mono fun e w' ⟨h1, h2⟩ => ⟨h1, Upd.of_below h2 []⟩
end Go.Proofs.Ytibghcmkmbamjaa.PI
