/- HashOrder: the walk. -/
import Derived.Test.YtagjcnhgappcjaaHMap
import Derived.Test.YtagjcnhgappcjaaHOrd0
import Derived.Test.YtagjcnhgappcjaaHSame
import Derived.Deep.RegionLaw
namespace Go.Proofs.Ytagjcnhgappcjaa
open Go.RowKit
set_option linter.unusedVariables false
set_option linter.unusedSimpArgs false
set_option linter.unusedSectionVars false
theorem star_l {R T U : Res} {w : World} {N : Nat → Prop} (h : star R (star T U) w N) : star (star R T) U w N := by
  obtain ⟨A, B, h1, ⟨C, D, k1, k2, k3, k4, k5⟩, h3, h4, h5⟩ := h
  exact ⟨fun b => A b ∨ C b, D, ⟨A, C, h1, k1, fun b h => .inl h, fun b h => .inr h, fun b a c => h5 b a (k3 b c)⟩, k2, fun b hb => hb.elim (h3 b) (fun h => h4 b (k3 b h)), fun b hb => h4 b (k4 b hb), fun b hb hd => hb.elim (fun h => h5 b h (k4 b hd)) (fun h => k5 b h hd)⟩
theorem star_r {R T U : Res} {w : World} {N : Nat → Prop} (h : star (star R T) U w N) : star R (star T U) w N := by
  obtain ⟨A, B, ⟨C, D, k1, k2, k3, k4, k5⟩, h2, h3, h4, h5⟩ := h
  exact ⟨C, fun b => D b ∨ B b, k1, ⟨D, B, k2, h2, fun b h => .inl h, fun b h => .inr h, fun b d c => h5 b (k4 b d) c⟩, fun b hb => h3 b (k3 b hb), fun b hb => hb.elim (fun h => h3 b (k4 b h)) (h4 b), fun b hc hd => hd.elim (k5 b hc) (fun h => h5 b (k3 b hc) h)⟩
section
variable {size n size' n' : Int} {bs bv bs' bv' : Nat} {vs vs' : Vs} {T : Res} {w0 w : World} {K : List (Nat × Obj)}
theorem hash_star {N : Nat → Prop} (h : hashR size n bs bv vs T w N) : star (hashR size n bs bv vs emp) T w N := by
  obtain ⟨hb, l, e, h1⟩ := h
  have h2 := star_l (star_imp h1 fun _ g => star_l g)
  obtain ⟨A, B, h3, h4⟩ := h2
  refine ⟨A, B, ⟨hb, l, e, ?_⟩, h4⟩
  exact star_imp h3 fun _ g => star_imp g fun M g => ⟨M, fun _ => False, g, trivial, fun b hb => hb, fun b hb => hb.elim, fun b _ hb => hb⟩
theorem star_hash {N : Nat → Prop} (h : star (hashR size n bs bv vs emp) T w N) : hashR size n bs bv vs T w N := by
  obtain ⟨A, B, ⟨hb, l, e, h1⟩, h4⟩ := h
  refine ⟨hb, l, e, ?_⟩
  have h2 : star (star (mapR Value.string (Value.int .i64) okS8 bs (swp (vsOf l))) (star (mapR (Value.int .i64) eo okI bv l) (allR l))) T w N := ⟨A, B, star_imp h1 fun _ g => star_imp g fun M g => by
    obtain ⟨C, D, k1, k2, k3, k4, k5⟩ := g
    exact Good.mono k1 (fun b _ hb => k3 b hb), h4⟩
  exact star_imp (star_r h2) fun _ g => star_r g
theorem SepK.hswap (H : SepK w0 w K (hashR size n bs bv vs (hashR size' n' bs' bv' vs' T))) : SepK w0 w K (hashR size' n' bs' bv' vs' (hashR size n bs bv vs T)) :=
  H.imp fun _ g => star_hash (star_imp (star_swap (star_imp (hash_star g) fun _ => hash_star)) fun _ => star_hash)
end
theorem h_in {R T : Res} {size n : Int} {bs bv : Nat} {vs : Vs} {w : World} {N : Nat → Prop} (g : star R (hashR size n bs bv vs T) w N) : hashR size n bs bv vs (star R T) w N := by
  obtain ⟨A, B, h1, ⟨hb, l, e, h2⟩, h3⟩ := g
  exact ⟨hb, l, e, star_imp (star_swap (R := R) ⟨A, B, h1, h2, h3⟩) fun _ g => star_imp (star_swap g) fun _ => star_swap⟩
theorem h_out {R T : Res} {size n : Int} {bs bv : Nat} {vs : Vs} {w : World} {N : Nat → Prop} (g : hashR size n bs bv vs (star R T) w N) : star R (hashR size n bs bv vs T) w N := by
  obtain ⟨hb, l, e, g⟩ := g
  exact star_imp (star_swap (star_imp g fun _ g => star_swap (star_imp g fun _ => star_swap))) fun _ g => ⟨hb, l, e, g⟩
theorem SepK.in2 {R T : Res} {size n size' n' : Int} {bs bv bs' bv' : Nat} {vs vs' : Vs} {w0 w : World} {K : List (Nat × Obj)} (H : SepK w0 w K (star R (hashR size n bs bv vs (hashR size' n' bs' bv' vs' T)))) : SepK w0 w K (hashR size n bs bv vs (hashR size' n' bs' bv' vs' (star R T))) :=
  SepK.impT (SepK.inn H) fun _ g => h_in g
theorem SepK.out2 {R T : Res} {size n size' n' : Int} {bs bv bs' bv' : Nat} {vs vs' : Vs} {w0 w : World} {K : List (Nat × Obj)} (H : SepK w0 w K (hashR size n bs bv vs (hashR size' n' bs' bv' vs' (star R T)))) : SepK w0 w K (star R (hashR size n bs bv vs (hashR size' n' bs' bv' vs' T))) :=
  SepK.outt (SepK.impT H fun _ g => h_out g)
theorem star_tail {R T : Res} [Good T] {w : World} {N : Nat → Prop} (h : star R T w N) : T w N := by
  obtain ⟨A, B, h1, h2, h3, h4, h5⟩ := h
  exact Good.mono h2 fun b _ hb => h4 b hb
theorem step_append_run {P : Program} {ops : Array Oper} {o : Oper} {a : Act} {w : World} {K : Act → World → Prop} {Q : Exit → Act → World → Prop} {E : Prop}
    (hg : o.guard = none) (s x : Operand) (t : TypeId) (hop : o.op = Op.call { callee := Callee.builtin Builtin.append, args := #[s, x], argTypes := #[t, t] })
    (v y : Value) (hs : a.eval s = v) (hx : a.eval x = y) (v' : Value) (w' : World) (hrun : (Builtin.append_ #[t, t] o.type #[v, y]).run P w = .ok v' w') (hK : K (a.put o.dst v') w') :
    if Region.wanted o (yielded ops a.tmps) = true then Oper.wp P o a w K Q else E := by
  have hw : Region.wanted o (yielded ops a.tmps) = true := by simp [Region.wanted, hg]
  rw [if_pos hw]
  unfold Oper.wp execOp
  simp only [hop, resolve, invoke, builtin, Sem.run_bind, Sem.run_pure, Result.andThen_ok, List.map_toArray, List.map_cons, List.map_nil, hs, hx, hrun]
  exact hK
theorem step_bd {vs : Vs} (h : HB 8 256 vs) (k : ByteArray) : 0 ≤ stepS vs k ∧ stepS vs k < 256 := by
  by_cases h8 : k.size = 8
  · exact stepV_slot h h8
  · unfold stepS
    rw [put_bad h8]
    simp
def encS (s : ByteArray) : List Value := [.string s]
theorem keysV_eq (vs : Vs) : keysV vs = ((tells vs).map bstr).map encS := by
  unfold keysV tells
  rw [List.map_map]
  rfl
theorem lists_keys {w : World} {A B : Option Addr} {ca cb : Nat} {vs : Vs} (hA : RowsAt w A 1 (keysV vs)) (hB : RowsAt w B 1 (keysV vs)) (hl : vs.length ≤ 100000) :
    Calls Try.prog 23 #[.slice A vs.length ca, .slice B vs.length cb] w fun e w' => e = .returned (.bool true) ∧ Upd [] w w' := by
  have e : ((tells vs).map bstr).length = vs.length := by rw [List.length_map, tells_len]
  rw [keysV_eq] at hA hB
  have := lists_same A B ca cb ((tells vs).map bstr) w hA hB (by omega)
  rwa [e] at this
theorem numbers_slots {w : World} {A B : Option Addr} {ca cb : Nat} {vs : Vs} (hA : RowsAt w A 1 (slotsV vs)) (hB : RowsAt w B 1 (slotsV vs)) (hl : vs.length ≤ 100000) :
    Calls Try.prog 19 #[.slice A vs.length ca, .slice B vs.length cb] w fun e w' => e = .returned (.bool true) ∧ Upd [] w w' := by
  have e : (keysOf vs).length = vs.length := by unfold keysOf; simp
  have := numbers_same A B ca cb (keysOf vs) w hA hB (by omega)
  rwa [e] at this
theorem info9 : (Try.prog.info? 9).map (fun i => (i.zero, i.size, i.bytes)) = some (some (.string ⟨#[]⟩), 1, 16) := by kernel_rfl
structure OrdB (keys : List ByteArray) (i : Nat) (va vb : Vs) (done rest : List ByteArray) : Prop where
  a : OrdI va (keys.take i)
  hb : HB 8 256 vb
  b : (∀ k ∈ keys, k.size = 8) → OrdI vb done
  pm : (done ++ rest).Perm keys
  dl : done.length = i
theorem OrdB.start (keys : List ByteArray) : OrdB keys 0 [] [] [] keys := ⟨by simpa using OrdI.start, .start (by omega) (by omega) (by omega) (by omega), fun _ => OrdI.start, by simp, rfl⟩
theorem OrdB.len {keys : List ByteArray} {i : Nat} {va vb : Vs} {done rest : List ByteArray} (h : OrdB keys i va vb done rest) : i + rest.length = keys.length := by
  have := h.pm.length_eq
  have := h.dl
  simp at *
  omega
theorem OrdB.step {keys : List ByteArray} {i kk : Nat} {va vb : Vs} {done rest : List ByteArray} {x y : ByteArray} (h : OrdB keys i va vb done rest) (hl : keys.length ≤ 100) (hx : keys[i]? = some x) (h8 : x.size = 8) (hy : rest[kk]? = some y) : OrdB keys (i + 1) (stepV va x) (stepV vb y) (done ++ [y]) (rest.take kk ++ rest.drop (kk + 1)) := by
  have hil := (List.getElem?_eq_some_iff.1 hx).1
  have hdl := h.dl
  refine ⟨?_, (h.hb.put y).write _ _ _, fun hall => ?_, rest_perm h.pm hy, by simp [h.dl]⟩
  · have := h.a.step h8 (by simp; omega)
    rwa [List.take_add_one, hx]
  · refine (h.b hall).step (hall y ?_) (by omega)
    exact h.pm.mem_iff.1 (List.mem_append_right _ (List.mem_of_getElem? hy))
theorem OrdB.fin {keys : List ByteArray} {i : Nat} {va vb : Vs} {done rest : List ByteArray} (h : OrdB keys i va vb done rest) (hi : ¬ i < keys.length) (h8 : ∀ s ∈ keys.take i, s.size = 8) : OrdI va keys ∧ OrdI vb done ∧ keys.Perm done := by
  have hl := h.len
  have e : keys.take i = keys := List.take_of_length_le (by omega)
  have e2 : rest = [] := List.eq_nil_of_length_eq_zero (by omega)
  have hp := h.pm
  rw [e2, List.append_nil] at hp
  have ha := h.a
  rw [e] at ha h8
  exact ⟨ha, h.b h8, hp.symm⟩
theorem rowsS (l : List ByteArray) : (∀ r ∈ l.map encS, r.length = 1) ∧ ∀ r ∈ l.map encS, ∀ u ∈ r, u.oneCell' = true :=
  ⟨fun r hr => by obtain ⟨s, _, rfl⟩ := List.mem_map.1 hr; rfl, fun r hr u hu => by obtain ⟨s, _, rfl⟩ := List.mem_map.1 hr; simp [encS] at hu; subst hu; rfl⟩
set_option maxRecDepth 100000 in
set_option maxHeartbeats 8000000 in
theorem order_walk (A B : Option Addr) (ca cb : Nat) (keys : List ByteArray) (ord : List UInt8) (w : World) (hA : PartAt w (.slice A keys.length ca) 1 (keys.map encS)) (hB : ∀ i b, ord[i]? = some b → ∃ g off, B = some ⟨g, off, none⟩ ∧ w.cell? ⟨g, off + i, none⟩ = some (.int .u8 (b.toNat : Int))) (hsz : ∀ k ∈ keys, k.size ≤ reach) :
    Calls Try.prog 7 #[.slice A keys.length ca, .slice B ord.length cb] w fun e w' => e = .returned (.bool true) ∧ Upd [] w w' := by
  by_cases c1 : 100 < keys.length
  · have z1 : decide ((100 : Int) < (keys.length : Int)) = true := decide_eq_true (by omega)
    go_enter Try.func7, Try.ntmps7
    go_wp2_with (go_at_call 9; (with_reducible refine (works _).mono ?_); rintro e w2 ⟨rfl, u1⟩)
    go_ret
    exact ⟨rfl, u1⟩
  have z1 : decide ((100 : Int) < (keys.length : Int)) = false := decide_eq_false (by omega)
  by_cases c2 : 100 < ord.length
  · have z2 : decide ((100 : Int) < (ord.length : Int)) = true := decide_eq_true (by omega)
    go_enter Try.func7, Try.ntmps7
    go_wp2_with (go_at_call 9; (with_reducible refine (works _).mono ?_); rintro e w2 ⟨rfl, u1⟩)
    go_ret
    exact ⟨rfl, u1⟩
  have z2 : decide ((100 : Int) < (ord.length : Int)) = false := decide_eq_false (by omega)
  have hkl : keys.length ≤ 100 := by omega
  have hol : ord.length ≤ 100 := by omega
  clear c1 c2
  go_enter Try.func7, Try.ntmps7
  go_wp2_with fail
  refine (cNew (SepK.start w) 8 256 (by omega) (by omega) (by omega) (by omega)).mono ?_
  rintro e w1 ⟨ha, ba, va0, rfl, H0⟩
  go_wp2_with fail
  refine (cNew H0 8 256 (by omega) (by omega) (by omega) (by omega)).mono ?_
  rintro e w2 ⟨hb, bb, vb0, rfl, H1⟩
  have H2 := H1.row1 9 1 #[] rfl
  have hP := (hA.keep H2.u)
  obtain ⟨i0, hi0, hz0, hz1, hz2⟩ := info_parts info9
  have hlm : (keys.map encS).length = keys.length := by simp
  go_wp2_with (at_builtin; refine wl_part rfl _ _ 53 rfl 9 i0 (.string ⟨#[]⟩) 1 16 Try.underlying53 hi0 hz0 hz1 hz2 rfl (by decide) _ _ rfl H2 _ (keys.map encS) rfl hP (fun r hr => by obtain ⟨s, _, rfl⟩ := List.mem_map.1 hr; rfl) (fun r hr u hu => by obtain ⟨s, _, rfl⟩ := List.mem_map.1 hr; simp [encS] at hu; subst hu; rfl) (by rw [hlm]; unfold maxLen; simp; omega) (by rw [hlm]; simp; omega) ?_; intro v' w5 H3)
  rw [List.nil_append] at H3
  clear H0 H1 H2 hP
  go_loopg [9, 10] keys.length (fun kq v9 v10 w' => ∃ (i : Nat) (va vb : Vs) (done rest : List ByteArray), v10 = .int .i64 (i : Int) ∧ kq + i = keys.length ∧ SepK w w' [(hb, hblk 8 256 bb vb0), (ha, hblk 8 256 ba va0)] (star (rowR 9 1 v9 (rest.map encS)) (hashR 8 256 bb vb0 vb (hashR 8 256 ba va0 va emp))) ∧ OrdB keys i va vb done rest ∧ ∀ s ∈ keys.take i, s.size = 8)
  case atStart => exact ⟨0, [], [], [], keys, rfl, rfl, H3, OrdB.start keys, by simp⟩
  case round =>
    clear H3
    obtain ⟨i, va, vb, done, rest, rfl, hkk, H, hO, hS8⟩ := hrel
    have HS : Unit → ∀ s ∈ keys.take i, s.size = 8 := fun _ => hS8
    clear hS8
    by_cases hi : i < keys.length
    · have y1 : decide ((i : Int) < (keys.length : Int)) = true := decide_eq_true (by omega)
      obtain ⟨x, hx⟩ : ∃ x, keys[i]? = some x := ⟨keys[i], List.getElem?_eq_getElem hi⟩
      obtain ⟨A1, cA, eA, hrA, -⟩ := hA.keep H.u
      rw [List.length_map] at eA
      cases eA
      obtain ⟨b, off, rfl, k0⟩ := one_cell hrA (i := i) (v := .string x) (by rw [List.getElem?_map, hx]; rfl)
      have hxs := hsz x (List.mem_of_getElem? hx)
      have hms : reach ≤ 140737488355328 := by unfold reach; omega
      have y3 : (0 : Int) ≤ (i : Int) := by omega
      have y4 : (i : Int) < (keys.length : Int) := by omega
      clear hrA
      by_cases h8 : x.size = 8
      · have z3 : ((x.size : Int) != 8) = false := by simp [h8]
        have hst := hO.len
        go_wp2_with fail
        have H1 := H.in2.hswap
        refine (cPut H1 (List.mem_cons_of_mem _ (List.mem_cons_self ..)) x).mono ?_
        rintro e w6 ⟨rfl, H2⟩
        unfold putV
        obtain ⟨A1, cA, eA, hrA, -⟩ := hA.keep H2.u
        rw [List.length_map] at eA
        cases eA
        obtain ⟨b', off', e', k0⟩ := one_cell hrA (i := i) (v := .string x) (by rw [List.getElem?_map, hx]; rfl)
        cases e'
        clear hrA H1 H
        go_wp2_with fail
        refine (cWrite H2 (List.mem_cons_of_mem _ (List.mem_cons_self ..)) (stepS va x) 0 (okI_of (step_bd hO.a.hb x) (by omega)) x).mono ?_
        rintro e w7 ⟨rfl, H3⟩
        go_upto_region 15 with fail
        have H4 : SepK w w7 [(hb, hblk 8 256 bb vb0), (ha, hblk 8 256 ba va0)] (hashR 8 256 ba va0 (stepV va x) (hashR 8 256 bb vb0 vb (star (rowR 9 1 u9 (rest.map encS)) emp))) := H3
        clear H3 H2
        obtain ⟨A9, c9, rfl, hr9, hlc, hcm, hcA⟩ := H4.out2.parts
        rw [List.length_map] at hlc H4 ⊢
        have hrp : 0 < rest.length := by omega
        have hrl : rest.length ≤ 100 := by omega
        have hkk : ∃ kk : Nat, kk < rest.length ∧ (i < ord.length → ∀ b, ord[i]? = some b → (b.toNat : Int) % (rest.length : Int) = (kk : Int)) ∧ (¬ i < ord.length → kk = 0) := by
          by_cases ho : i < ord.length
          · refine ⟨(ord[i]).toNat % rest.length, Nat.mod_lt _ hrp, fun _ b hb => ?_, fun h => absurd ho h⟩
            rw [List.getElem?_eq_getElem ho] at hb
            cases hb
            simp
          · exact ⟨0, hrp, fun h => absurd h ho, fun _ => rfl⟩
        obtain ⟨kk, hk1, hk2, hk3⟩ := hkk
        obtain ⟨y, hy⟩ : ∃ y, rest[kk]? = some y := ⟨rest[kk], List.getElem?_eq_getElem hk1⟩
        obtain ⟨b9, o9, rfl, k9⟩ := one_cell hr9 (i := kk) (v := .string y) (by rw [List.getElem?_map, hy]; rfl)
        have hO2 := hO.step hkl hx h8 hy
        have HS2 : Unit → ∀ s ∈ keys.take (i + 1), s.size = 8 := fun _ s hs => by
          rw [List.take_add_one, hx] at hs
          rcases List.mem_append.1 hs with h | h
          · exact HS () s h
          · simp at h; subst h; exact h8
        have hB9 := fun (h : i < ord.length) => hB i (ord[i]) (List.getElem?_eq_getElem h)
        by_cases ho : i < ord.length
        · have z4 : decide ((i : Int) < (ord.length : Int)) = true := decide_eq_true (by omega)
          obtain ⟨gB, oB, rfl, kB⟩ := hB9 ho
          replace kB := H4.u.cell kB (by simp)
          have hk4 := hk2 ho _ (List.getElem?_eq_getElem ho)
          have y5 : (i : Int) < (ord.length : Int) := by omega
          have hb0 : (0 : Int) ≤ ((ord[i]).toNat : Int) := by omega
          have hb1 : ((ord[i]).toNat : Int) ≤ 255 := by have := (ord[i]).toNat_lt; omega
          have hr0 : (0 : Int) < (rest.length : Int) := by omega
          have hr1 : (1 : Int) ≤ (rest.length : Int) := by omega
          generalize ((ord[i]).toNat : Int) = bI at kB hk4 hb0 hb1
          clear hk2 hk3 hB9 ho
          have H5 := (H4.out2.row1 9 1 #[] rfl).upd (Upd.refl [] _).drew
          obtain ⟨A8, c8, e8, hr8, -⟩ := H5.swap.parts
          rw [List.length_map] at e8
          cases e8
          have pt := part_take (m := kk) hr8 (by simp <;> omega) hcA
          obtain ⟨i0, hi0, hz0, hz1, hz2⟩ := info_parts info9
          have hrt := rowsS (rest.take kk)
          rw [List.map_take] at hrt
          have hrd := rowsS (rest.drop (kk + 1))
          rw [List.map_drop] at hrd
          obtain ⟨v1, w8, hrun1, H6⟩ := run_append_part (P := Try.prog) 53 53 9 i0 (.string ⟨#[]⟩) 1 16 Try.underlying53 hi0 hz0 hz1 hz2 rfl (by decide) _ _ H5 _ _ pt hrt.1 hrt.2 (by unfold maxLen; simp <;> omega) (by simp <;> omega)
          obtain ⟨A7, c7, e7, hr7, -⟩ := H6.swap.parts
          rw [List.length_map] at e7
          cases e7
          have pd := part_drop (m := kk + 1) hr7 (by simp <;> omega) (by simp <;> omega) hcA
          rw [List.length_map] at pd
          obtain ⟨Ad, hAd⟩ : ∃ Ad, Ad = (if c9 = kk + 1 then some (⟨b9, o9, none⟩ : Addr) else (some (⟨b9, o9, none⟩ : Addr)).map fun a => a.add ((kk + 1) * 1)) := ⟨_, rfl⟩
          rw [← hAd] at pd
          obtain ⟨v2, w9, hrun2, H7⟩ := run_append_part (P := Try.prog) 53 53 9 i0 (.string ⟨#[]⟩) 1 16 Try.underlying53 hi0 hz0 hz1 hz2 rfl (by decide) _ _ H6 _ _ pd hrd.1 hrd.2 (by unfold maxLen; simp <;> omega) (by simp <;> omega)
          have e1 : (0 : Int) ≤ (kk : Int) := by omega
          have e2 : (kk : Int) ≤ (c9 : Int) := by omega
          have e3 : (kk : Int) ≤ (rest.length : Int) := by omega
          have e4 : (rest.length : Int) ≤ (c9 : Int) := by omega
          have e5 : (kk : Int) + 1 ≤ (rest.length : Int) := by omega
          have hsl : ∀ w', (Instr.slice 53 (.slice (some ⟨b9, o9, none⟩) rest.length c9) (some (.int .i64 ((kk : Int) + 1))) none none).run Try.prog w' = .ok (.slice Ad (rest.length - (kk + 1)) (c9 - (kk + 1))) w' := fun w' => by
            rw [hAd]
            have e6 : ((kk : Int) + 1 : Int) = ((kk + 1 : Nat) : Int) := by omega
            rw [e6]
            have e7 : ((kk + 1 : Nat) : Int) ≤ (rest.length : Int) := by omega
            have e8 : (0 : Int) ≤ ((kk + 1 : Nat) : Int) := by omega
            generalize kk + 1 = m at e7 e8 ⊢
            by_cases hck : c9 = m
            · subst hck
              go_simp
            · have : ¬ m = c9 := fun e => hck e.symm
              go_simp
          have H8 := H7.imp fun _ g => star_imp g fun _ => star_tail
          rw [List.nil_append, ← List.map_take, ← List.map_drop, ← List.map_append] at H8
          clear hAd hr9 hr8 hr7 pt pd hrt hrd H5 H6 H7 H4 hi0 hz0 hz1 hz2 hx hy
          have hwr : IntKind.i64.wrap ((kk : Int) + 1) = (kk : Int) + 1 := IntWalk.i64_in _ (by omega)
          go_wp2_with fail
          go_region_law (first | (refine step_append_run rfl (.tmp 109) (.tmp 112) 53 rfl _ _ rfl rfl _ _ hrun1 ?_) | (refine step_append_run rfl (.tmp 113) (.tmp 117) 53 rfl _ _ rfl rfl _ _ hrun2 ?_))
          clear hrun1 hrun2 hsl hwr e1 e2 e3 e4 e5
          go_wp2_with fail
          refine (cPut H8.in2.hswap (List.mem_cons_self ..) y).mono ?_
          rintro e wa ⟨rfl, H9⟩
          unfold putV
          go_wp2_with fail
          refine (cWrite H9 (List.mem_cons_self ..) (stepS vb y) 0 (okI_of (step_bd hO.hb y) (by omega)) y).mono ?_
          rintro e wb ⟨rfl, H10⟩
          have H11 : SepK w wb [(hb, hblk 8 256 bb vb0), (ha, hblk 8 256 ba va0)] (hashR 8 256 bb vb0 (stepV vb y) (hashR 8 256 ba va0 (stepV va x) (star (rowR 9 1 v2 ((rest.take kk ++ rest.drop (kk + 1)).map encS)) emp))) := H10
          clear H8 H9 H10
          go_wp2_with fail
          go_roundg (gk - 1)
          case measure => omega
          case rel => exact ⟨i + 1, _, _, _, _, by go_num, by omega, H11.out2, hO2, HS2 ()⟩
        · have z4 : decide ((i : Int) < (ord.length : Int)) = false := decide_eq_false (by omega)
          obtain rfl := hk3 ho
          simp only [Nat.add_zero] at k9
          clear hk2 hk3 hB9
          have H5 := (H4.out2.row1 9 1 #[] rfl).upd (Upd.refl [] _).drew
          obtain ⟨A8, c8, e8, hr8, -⟩ := H5.swap.parts
          rw [List.length_map] at e8
          cases e8
          have pt := part_take (m := 0) hr8 (by simp <;> omega) hcA
          obtain ⟨i0, hi0, hz0, hz1, hz2⟩ := info_parts info9
          have hrt := rowsS (rest.take 0)
          rw [List.map_take] at hrt
          have hrd := rowsS (rest.drop (0 + 1))
          rw [List.map_drop] at hrd
          obtain ⟨v1, w8, hrun1, H6⟩ := run_append_part (P := Try.prog) 53 53 9 i0 (.string ⟨#[]⟩) 1 16 Try.underlying53 hi0 hz0 hz1 hz2 rfl (by decide) _ _ H5 _ _ pt hrt.1 hrt.2 (by unfold maxLen; simp <;> omega) (by simp <;> omega)
          obtain ⟨A7, c7, e7, hr7, -⟩ := H6.swap.parts
          rw [List.length_map] at e7
          cases e7
          have pd := part_drop (m := 0 + 1) hr7 (by simp <;> omega) (by simp <;> omega) hcA
          rw [List.length_map] at pd
          obtain ⟨Ad, hAd⟩ : ∃ Ad, Ad = (if c9 = 0 + 1 then some (⟨b9, o9, none⟩ : Addr) else (some (⟨b9, o9, none⟩ : Addr)).map fun a => a.add ((0 + 1) * 1)) := ⟨_, rfl⟩
          rw [← hAd] at pd
          obtain ⟨v2, w9, hrun2, H7⟩ := run_append_part (P := Try.prog) 53 53 9 i0 (.string ⟨#[]⟩) 1 16 Try.underlying53 hi0 hz0 hz1 hz2 rfl (by decide) _ _ H6 _ _ pd hrd.1 hrd.2 (by unfold maxLen; simp <;> omega) (by simp <;> omega)
          have e1 : (0 : Int) ≤ (0 : Int) := by omega
          have e2 : (0 : Int) ≤ (c9 : Int) := by omega
          have e3 : (0 : Int) ≤ (rest.length : Int) := by omega
          have e4 : (rest.length : Int) ≤ (c9 : Int) := by omega
          have e5 : (1 : Int) ≤ (rest.length : Int) := by omega
          have hsl : ∀ w', (Instr.slice 53 (.slice (some ⟨b9, o9, none⟩) rest.length c9) (some (.int .i64 ((1 : Int)))) none none).run Try.prog w' = .ok (.slice Ad (rest.length - (0 + 1)) (c9 - (0 + 1))) w' := fun w' => by
            rw [hAd]
            have e6 : ((1 : Int) : Int) = ((0 + 1 : Nat) : Int) := by omega
            rw [e6]
            have e7 : ((0 + 1 : Nat) : Int) ≤ (rest.length : Int) := by omega
            have e8 : (0 : Int) ≤ ((0 + 1 : Nat) : Int) := by omega
            generalize 0 + 1 = m at e7 e8 ⊢
            by_cases hck : c9 = m
            · subst hck
              go_simp
            · have : ¬ m = c9 := fun e => hck e.symm
              go_simp
          have H8 := H7.imp fun _ g => star_imp g fun _ => star_tail
          rw [List.nil_append, ← List.map_take, ← List.map_drop, ← List.map_append] at H8
          clear hAd hr9 hr8 hr7 pt pd hrt hrd H5 H6 H7 H4 hi0 hz0 hz1 hz2 hx hy
          have hwr : IntKind.i64.wrap (1) = 1 := IntWalk.i64_in _ (by omega)
          go_wp2_with fail
          go_region_law (first | (refine step_append_run rfl (.tmp 109) (.tmp 112) 53 rfl _ _ rfl rfl _ _ hrun1 ?_) | (refine step_append_run rfl (.tmp 113) (.tmp 117) 53 rfl _ _ rfl rfl _ _ hrun2 ?_))
          clear hrun1 hrun2 hsl hwr e1 e2 e3 e4 e5
          go_wp2_with fail
          refine (cPut H8.in2.hswap (List.mem_cons_self ..) y).mono ?_
          rintro e wa ⟨rfl, H9⟩
          unfold putV
          go_wp2_with fail
          refine (cWrite H9 (List.mem_cons_self ..) (stepS vb y) 0 (okI_of (step_bd hO.hb y) (by omega)) y).mono ?_
          rintro e wb ⟨rfl, H10⟩
          have H11 : SepK w wb [(hb, hblk 8 256 bb vb0), (ha, hblk 8 256 ba va0)] (hashR 8 256 bb vb0 (stepV vb y) (hashR 8 256 ba va0 (stepV va x) (star (rowR 9 1 v2 ((rest.take 0 ++ rest.drop (0 + 1)).map encS)) emp))) := H10
          clear H8 H9 H10
          go_wp2_with fail
          go_roundg (gk - 1)
          case measure => omega
          case rel => exact ⟨i + 1, _, _, _, _, by go_num, by omega, H11.out2, hO2, HS2 ()⟩
      · have z3 : ((x.size : Int) != 8) = true := by simp; omega
        go_wp2_with (go_at_call 9; (with_reducible refine (works _).mono ?_); rintro e w6 ⟨rfl, u1⟩)
        go_ret
        exact ⟨rfl, H.u.trans u1⟩
    · have y1 : decide ((i : Int) < (keys.length : Int)) = false := decide_eq_false (by omega)
      obtain ⟨oa, ob, hp⟩ := hO.fin hi (HS ())
      have ht := tells_eq oa ob hp
      have hsl := slots_eq oa ob hp
      have hla : (tells va).length = va.length := tells_len va
      have hva : va.length ≤ 100 := by have := oa.len; omega
      have hks : (keysOf va).length = va.length := by unfold keysOf; simp
      have e1 : (keysV va).length = va.length := by rw [keysV_eq, List.length_map, List.length_map, hla]
      have e2 : keysV vb = keysV va := by rw [keysV_eq, keysV_eq, ht]
      have e3 : slotsV vb = slotsV va := by unfold slotsV; rw [hsl]
      have e4 : (slotsV va).length = va.length := by unfold slotsV; rw [List.length_map, hks]
      have ek : ((tells va).map bstr).length = va.length := by rw [List.length_map, hla]
      have ez : (stepS va ⟨#[]⟩) = (stepS va ⟨#[]⟩) := rfl
      clear ez hA hB
      have H1 := H.in2.hswap
      go_wp2_with fail
      refine (cKeys H1 (List.mem_cons_of_mem _ (List.mem_cons_self ..))).mono ?_
      rintro e w6 ⟨v, rfl, H2⟩
      obtain ⟨A1, c1, rfl, hr1⟩ := H2.row
      rw [e1] at H2 ⊢
      go_wp2_with fail
      refine (cKeys H2.in2.hswap (List.mem_cons_self ..)).mono ?_
      rintro e w7 ⟨v, rfl, H3⟩
      rw [e2] at H3
      obtain ⟨A2, c2, rfl, hr2⟩ := H3.row
      rw [e1] at H3 ⊢
      obtain ⟨A1', c1', e1', hr1'⟩ := H3.tl.out2.row
      rw [e1] at e1'
      cases e1'
      clear hr1 H1 H
      go_wp2_with fail
      refine (lists_keys hr1' hr2 (by omega)).mono ?_
      rintro e w8 ⟨rfl, u8⟩
      have H4 := (H3.upd u8).tl.hswap
      clear H3 H2 hr1' hr2 u8
      go_wp2_with fail
      refine (cSlots H4 (List.mem_cons_of_mem _ (List.mem_cons_self ..))).mono ?_
      rintro e w9 ⟨v, rfl, H5⟩
      obtain ⟨A3, c3, rfl, hr3⟩ := H5.row
      rw [e4] at H5 ⊢
      go_wp2_with fail
      refine (cSlots H5.in2.hswap (List.mem_cons_self ..)).mono ?_
      rintro e wa ⟨v, rfl, H6⟩
      rw [e3] at H6
      obtain ⟨A4, c4, rfl, hr4⟩ := H6.row
      rw [e4] at H6 ⊢
      obtain ⟨A3', c3', e3', hr3'⟩ := H6.tl.out2.row
      rw [e4] at e3'
      cases e3'
      clear hr3 H4
      go_wp2_with fail
      refine (numbers_slots hr3' hr4 (by omega)).mono ?_
      rintro e wb ⟨rfl, u9⟩
      have H7 := (H6.upd u9).tl.hswap
      clear H6 H5 hr3' hr4 u9
      go_wp2_with fail
      refine (cKeys H7 (List.mem_cons_of_mem _ (List.mem_cons_self ..))).mono ?_
      rintro e wc ⟨v, rfl, H8⟩
      obtain ⟨A5, c5, rfl, hr5⟩ := H8.row
      rw [e1] at H8 ⊢
      have H9 := H8.tl
      have H10 := H8.tl.hswap
      have U := H8.u
      clear H7 H8 e2 e3 e4 hks hsl hp
      go_wp2_with fail
      go_loopg [20] va.length (fun kq v20 w' => ∃ i : Nat, v20 = .int .i64 (i : Int) ∧ kq + i = va.length ∧ wc = w')
      case atStart => exact ⟨0, rfl, rfl, rfl⟩
      case round =>
        obtain ⟨i, rfl, hkk, rfl⟩ := hrel
        by_cases hi : i < va.length
        · have y1 : decide ((i : Int) < (va.length : Int)) = true := decide_eq_true (by omega)
          have y3 : (0 : Int) ≤ (i : Int) := by omega
          have y4 : (i : Int) < (va.length : Int) := by omega
          obtain ⟨q, hq⟩ : ∃ q, (tells va)[i]? = some q := ⟨(tells va)[i], List.getElem?_eq_getElem (by omega)⟩
          have hqm := List.mem_of_getElem? hq
          obtain ⟨b, off, rfl, k0⟩ := one_cell hr5 (i := i) (v := .string (bstr q)) (by rw [keysV_eq, List.getElem?_map, List.getElem?_map, hq]; rfl)
          obtain ⟨fa1, -, -, fa2, fa3, -⟩ := tells_slot oa.hb hqm
          obtain ⟨fb1, -, -, fb2, fb3, -⟩ := tells_slot ob.hb (ht ▸ hqm)
          have ga := ord_get oa hqm
          have gb := ord_get ob (ht ▸ hqm)
          have hfa : find va (bstr q) = (slotOf va q, 0) := fa1
          clear hqm hq
          go_wp2_with fail
          refine (cFind H9 (List.mem_cons_of_mem _ (List.mem_cons_self ..)) (bstr q)).mono ?_
          rw [fa1]
          rintro e wd ⟨rfl, rfl⟩
          unfold twoV
          go_wp2_with fail
          refine (cFind H10 (List.mem_cons_self ..) (bstr q)).mono ?_
          rw [fb1]
          rintro e wd ⟨rfl, rfl⟩
          unfold twoV
          go_wp2_with fail
          refine (cGet H9 (List.mem_cons_of_mem _ (List.mem_cons_self ..)) (slotOf va q) (okI_of ⟨fa2, fa3⟩ (by omega))).mono ?_
          rw [ga]
          rintro e wd ⟨rfl, rfl⟩
          unfold strV
          go_wp2_with fail
          refine (cGet H10 (List.mem_cons_self ..) (slotOf vb q) (okI_of ⟨fb2, fb3⟩ (by omega))).mono ?_
          rw [gb]
          rintro e wd ⟨rfl, rfl⟩
          unfold strV
          clear fa1 fb1 ga gb hfa
          go_wp2_with fail
          go_roundg (gk - 1)
          case measure => omega
          case rel => exact ⟨i + 1, by go_num, by omega, rfl⟩
        · have y1 : decide ((i : Int) < (va.length : Int)) = false := decide_eq_false (by omega)
          go_wp2_with (go_at_call 9; (with_reducible refine (works _).mono ?_); rintro e w9 ⟨rfl, u9⟩)
          go_ret
          exact ⟨rfl, U.trans u9⟩
section
open Go.ChangeShapes Go.WideShapes Go.ChangeAt
variable {H : Type} {enc : TypeId × Value → H} {w : World} {base : Nat} {spare : Nat → Bool} {held : Bool}
theorem open_strs {fuel : Nat} {cs : List Value} {x : DataW H × List MemPlace} (h : DataW.trod enc Try.prog w base spare held fuel 53 cs = some x) (hsz : ∀ k ∈ x.1.weights Try.prog 53, k ≤ reachBytes) :
    ∃ (A : Option Addr) (cap : Nat) (l : List ByteArray), cs = [.slice A l.length cap] ∧ PartAt w (.slice A l.length cap) 1 (l.map encS) ∧ ∀ s ∈ l, s.size ≤ reach := by
  have hc9 : Try.prog.cellsOf 9 = 1 := by kernel_rfl
  have hnone : ∀ A len cap, cs = [.slice A len cap] → A = none → cap = 0 := fun A len cap e1 e2 => by
    rcases Go.Deep.open_slice Try.underlying53 h with ⟨e, _⟩ | ⟨a, len', cap', m, n, D, Pl, hcs, _⟩
    · rw [e] at e1
      simp at e1
      exact e1.2.2.symm
    · rw [hcs, e2] at e1
      simp at e1
  obtain ⟨A, len, cap, hcs, _, _, hi⟩ := open_elems Try.underlying53 (by rw [hc9]; decide) h
  rw [hc9] at hi
  obtain ⟨l, hlen, hl⟩ := exists_list (α := ByteArray) (fun i s => ∃ b off, A = some ⟨b, off, none⟩ ∧ s.size ≤ reach ∧ w.cell? ⟨b, off + i * 1, none⟩ = some (.string s)) len (fun i hil => by
    obtain ⟨b, off, n, cs', y, hA, hlc, hcell, ht, hw⟩ := hi i hil
    obtain ⟨v, rfl⟩ := List.length_eq_one_iff.1 hlc
    obtain ⟨s, e, f, _⟩ := DataW.trod_string Try.underlying9 ht
    cases e
    have e2 : reachBytes ≤ reach := by decide
    exact ⟨s, b, off, hA, Nat.le_trans (hsz _ (hw s.data.toList.length (by subst f; simp [DataW.weights]))) e2, by simpa using hcell 0 _ rfl⟩)
  subst hlen
  refine ⟨A, cap, l, hcs, ⟨A, cap, by rw [List.length_map], fun i r hr => ?_, hnone _ _ _ hcs⟩, fun s hs => ?_⟩
  · rw [List.getElem?_map] at hr
    cases hx : l[i]? with
    | none => rw [hx] at hr; cases hr
    | some s =>
      rw [hx] at hr
      cases hr
      obtain ⟨b, off, h1, _, h3⟩ := hl i s hx
      refine ⟨b, off, h1, fun j v hj => ?_⟩
      match j, hj with
      | 0, hj => cases hj; exact h3
  · obtain ⟨i, hi'⟩ := List.mem_iff_getElem?.1 hs
    obtain ⟨_, _, _, h2, _⟩ := hl i s hi'
    exact h2
end
end Go.Proofs.Ytagjcnhgappcjaa
