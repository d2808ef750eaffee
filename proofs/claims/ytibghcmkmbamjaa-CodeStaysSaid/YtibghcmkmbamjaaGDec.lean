/- Own texts, laid one behind the other: CDec, CEnc, CPl2. -/
import Derived.Test.YtibghcmkmbamjaaGNext
import Derived.Test.YtibghcmkmbamjaaPu2
import Derived.Test.YtibghcmkmbamjaaGShelf
import Derived.Shelf.Strings.Builder1
section
namespace Go.Proofs.Ytibghcmkmbamjaa
open Go.RowKit
set_option linter.unusedVariables false
set_option linter.unusedSimpArgs false
set_option linter.unusedSectionVars false
def chunkI (s : ByteArray) (i : Nat) : Ins :=
  ⟨(PI.decF (s.extract (8 * i) (8 * i + 8))).1, (PI.decF (s.extract (8 * i) (8 * i + 8))).2.1, (PI.decF (s.extract (8 * i) (8 * i + 8))).2.2.1, (PI.decF (s.extract (8 * i) (8 * i + 8))).2.2.2.1, (PI.decF (s.extract (8 * i) (8 * i + 8))).2.2.2.2.1⟩
def decP (s : ByteArray) : List Ins := (List.range (s.size / 8)).map (chunkI s)
theorem info24 : (Try.prog.info? 24).map (fun i => (i.zero, i.size, i.bytes)) = some (some (.agg #[.int .u8 0, .int .u8 0, .int .u8 0, .int .i16 0, .int .i32 0]), 5, 12) := by kernel_rfl
theorem cell_five (w : World) (x : Ins) : ∀ j u, (encN x)[j]? = some u → (w.alloc (.cells (encN x).toArray 24)).cell? ((⟨w.heap.size, 0, none⟩ : Addr).add j) = some u := by
  intro j u hj
  have hb := heap_alloc_new w (.cells (encN x).toArray 24)
  match j, hj with
  | 0, hj => cases hj; rw [addr_add]; rw [cell_of hb]; rfl
  | 1, hj => cases hj; rw [addr_add]; rw [cell_of hb]; rfl
  | 2, hj => cases hj; rw [addr_add]; rw [cell_of hb]; rfl
  | 3, hj => cases hj; rw [addr_add]; rw [cell_of hb]; rfl
  | 4, hj => cases hj; rw [addr_add]; rw [cell_of hb]; rfl
theorem decode15 (t : ByteArray) (w : World) : Calls Try.prog 15 #[.string t] w fun e w' => e = .returned (.tuple #[.agg #[.int .u8 (PI.decF t).1, .int .u8 (PI.decF t).2.1, .int .u8 (PI.decF t).2.2.1, .int .i16 (PI.decF t).2.2.2.1, .int .i32 (PI.decF t).2.2.2.2.1], .int .i64 (PI.decF t).2.2.2.2.2]) ∧ Upd [] w w' :=
  (PI.insn_Decode.calls 6 t _ _ _ _ _ _ w (PI.Decode_eq 0 t)).mono fun e w' ⟨h1, h2⟩ => ⟨h1, Upd.of_below h2 []⟩
set_option maxRecDepth 100000 in
set_option maxHeartbeats 4000000 in
theorem decode40 (s : ByteArray) (w : World) (h8 : s.size % 8 = 0) (hl : s.size ≤ 8192) :
    Calls Try.prog 40 #[.string s] w fun e w' => ∃ v, e = .returned (.tuple #[v, .int .i64 0]) ∧ SepK w w' [] (star (rowR 24 5 v ((decP s).map encN)) emp) := by
  have H0 := (SepK.start w).row0 24 5
  obtain ⟨m, hm⟩ : ∃ m, s.size = 8 * m := ⟨s.size / 8, by omega⟩
  have y0 : ((s.size : Int) % 8 != 0) = false := by
    have : (s.size : Int) % 8 = 0 := by omega
    simp [this]
  have y1 : decide ((8192 : Int) < (s.size : Int)) = false := decide_eq_false (by omega)
  have hfin : Unit → (List.range m).map (chunkI s) = decP s := fun _ => by unfold decP; rw [hm]; simp
  have hmH : Unit → s.size = 8 * m := fun _ => hm
  have hm1 : m ≤ 1024 := by omega
  clear hm h8
  go_enter Try.func40, Try.ntmps40
  go_wp2_with fail
  go_loopg [2, 4] m (fun kq v2 v4 w' => ∃ i : Nat, v4 = .int .i64 ((8 * i : Nat) : Int) ∧ kq + i = m ∧ SepK w w' [] (star (rowR 24 5 v2 (((List.range i).map (chunkI s)).map encN)) emp))
  case atStart => exact ⟨0, rfl, rfl, H0⟩
  case round =>
    clear H0 y0 y1
    obtain ⟨i, rfl, hk, hS⟩ := hrel
    have hsz := hmH ()
    by_cases hi : i < m
    · obtain ⟨a, ha⟩ : ∃ a, a = 8 * i := ⟨_, rfl⟩
      have z1 : a < s.size := by omega
      have y1 : IntKind.i64.wrap ((a : Int) + 8) = (a : Int) + 8 := IntWalk.i64_in _ (by omega)
      have ea : (a : Int) + 8 = ((a + 8 : Nat) : Int) := by omega
      have hsl : ∀ w', (Instr.slice 9 (.string s) (some (.int .i64 (a : Int))) (some (.int .i64 ((a : Int) + 8))) none).run Try.prog w' = .ok (.string (s.extract a (a + 8))) w' := fun w' => by
        rw [run_slice_string w' 9 s .i64 .i64 _ _ Try.underlying9 (by omega) (by omega) (by omega)]
        congr 4
      have hts : ((List.range (i + 1)).map (chunkI s)).map encN = ((List.range i).map (chunkI s)).map encN ++ [encN (chunkI s i)] := by
        rw [List.range_succ]; simp
      have htl : (((List.range i).map (chunkI s)).map encN).length ≤ 2000 := by simp; omega
      have hdec := fun W => decode15 (s.extract a (a + 8)) W
      have hx : chunkI s i = ⟨(PI.decF (s.extract a (a + 8))).1, (PI.decF (s.extract a (a + 8))).2.1, (PI.decF (s.extract a (a + 8))).2.2.1, (PI.decF (s.extract a (a + 8))).2.2.2.1, (PI.decF (s.extract a (a + 8))).2.2.2.2.1⟩ := by rw [ha]; rfl
      have hnx : (((8 * i + 8 : Nat) : Int)) = (a : Int) + 8 := by omega
      rw [← ha]
      rw [hx] at hts
      generalize PI.decF (s.extract a (a + 8)) = d at hdec hts
      generalize ((List.range i).map (chunkI s)).map encN = rows at hS hts htl
      clear hx hsz ea
      have haH : Unit → a = 8 * i := fun _ => ha
      clear ha hnx
      go_wp2_with fail
      refine (hdec wr).mono ?_
      rintro e w2 ⟨rfl, u2⟩
      have h5 := ((hS.upd u2).alloc (.cells #[.int .u8 d.1, .int .u8 d.2.1, .int .u8 d.2.2.1, .int .i16 d.2.2.2.1, .int .i32 d.2.2.2.2.1] 24)).alloc (.cells #[.int .u8 d.1, .int .u8 d.2.1, .int .u8 d.2.2.1, .int .i16 d.2.2.2.1, .int .i32 d.2.2.2.2.1] 24)
      simp only [alloc_size] at h5
      obtain ⟨i0, hi0, hz0, hz1, hz2⟩ := info_parts info24
      have hnew : ∀ j u, (encN ⟨d.1, d.2.1, d.2.2.1, d.2.2.2.1, d.2.2.2.2.1⟩)[j]? = some u → ((w2.alloc (.cells #[.int .u8 d.1, .int .u8 d.2.1, .int .u8 d.2.2.1, .int .i16 d.2.2.2.1, .int .i32 d.2.2.2.2.1] 24)).alloc (.cells #[.int .u8 d.1, .int .u8 d.2.1, .int .u8 d.2.2.1, .int .i16 d.2.2.2.1, .int .i32 d.2.2.2.2.1] 24)).cell? ((⟨w2.heap.size + 1, 0, none⟩ : Addr).add j) = some u := by
        have := cell_five (w2.alloc (.cells #[.int .u8 d.1, .int .u8 d.2.1, .int .u8 d.2.2.1, .int .i16 d.2.2.2.1, .int .i32 d.2.2.2.2.1] 24)) ⟨d.1, d.2.1, d.2.2.1, d.2.2.2.1, d.2.2.2.2.1⟩
        rwa [alloc_size] at this
      clear hS hdec hsl
      go_wp2_with (at_builtin; refine wl_append rfl _ _ 43 rfl 24 i0 (.agg #[.int .u8 0, .int .u8 0, .int .u8 0, .int .i16 0, .int .i32 0]) 5 12 Try.underlying43 hi0 hz0 hz1 hz2 rfl (by decide) _ _ rfl h5 ⟨w2.heap.size + 1, 0, none⟩ 1 (encN ⟨d.1, d.2.1, d.2.2.1, d.2.2.2.1, d.2.2.2.2.1⟩) rfl rfl hnew (fun x hx => by simp [encN] at hx; rcases hx with rfl | rfl | rfl | rfl | rfl <;> rfl) (by unfold maxLen; omega) (by omega) ?_; intro v' w5 h8)
      go_roundg (gk - 1)
      case measure => omega
      case rel => exact ⟨i + 1, by rw [haH ()]; go_num, by omega, by rw [hts]; exact h8.drop [] (by simp)⟩
    · have z1 : ¬ 8 * i < s.size := by omega
      obtain rfl : i = m := by omega
      rw [hfin ()] at hS
      obtain ⟨A9, c9, rfl, -⟩ := hS.row
      rw [List.length_map] at hS ⊢
      clear hfin
      obtain ⟨a, ha⟩ : ∃ a, a = 8 * i := ⟨_, rfl⟩
      rw [← ha] at z1 ⊢
      clear ha hsz hmH
      go_wp2_with fail
      refine bodyPost_ret (v := .tuple #[.slice A9 (decP s).length c9, .int .i64 0]) (by simp [results, Try.results40, go_sem]) rfl ⟨_, rfl, hS⟩
set_option maxRecDepth 100000 in
theorem decode40_form (s : ByteArray) (w : World) (h8 : s.size % 8 ≠ 0) : Calls Try.prog 40 #[.string s] w fun e w' => e = .returned (.tuple #[.slice none 0 0, .int .i64 8]) ∧ w = w' := by
  have y0 : ((s.size : Int) % 8 != 0) = true := by
    have : ¬ (s.size : Int) % 8 = 0 := by omega
    simpa using this
  clear h8
  go_enter Try.func40, Try.ntmps40
  go_wp2_with fail
  refine bodyPost_ret (v := .tuple #[.slice none 0 0, .int .i64 8]) (by simp [results, Try.results40, go_sem]) rfl ⟨rfl, rfl⟩
set_option maxRecDepth 100000 in
theorem decode40_long (s : ByteArray) (w : World) (h8 : s.size % 8 = 0) (hl : 8192 < s.size) : Calls Try.prog 40 #[.string s] w fun e w' => e = .returned (.tuple #[.slice none 0 0, .int .i64 4]) ∧ w = w' := by
  have y0 : ((s.size : Int) % 8 != 0) = false := by
    have : (s.size : Int) % 8 = 0 := by omega
    simp [this]
  have y1 : decide ((8192 : Int) < (s.size : Int)) = true := decide_eq_true (by omega)
  clear h8
  go_enter Try.func40, Try.ntmps40
  go_wp2_with fail
  refine bodyPost_ret (v := .tuple #[.slice none 0 0, .int .i64 4]) (by simp [results, Try.results40, go_sem]) rfl ⟨rfl, rfl⟩
end Go.Proofs.Ytibghcmkmbamjaa
end
section
namespace Go.Proofs.Ytibghcmkmbamjaa
open Go.RowKit Go.Shelf
set_option linter.unusedVariables false
set_option linter.unusedSimpArgs false
set_option linter.unusedSectionVars false
theorem size110 : (Try.prog.info? 110).map (·.size) = some 2 := by kernel_rfl
theorem lies110 : liesAt Try.prog Try.prog.depth 110 (2 / Try.prog.cellsOf 110) 0 110 1 = true := by kernel_rfl
theorem info5 : (Try.prog.info? 5).map (fun i => (i.zero, i.size, i.bytes)) = some (some (.int .u8 0), 1, 1) := by kernel_rfl
set_option maxHeartbeats 1000000 in
set_option maxRecDepth 100000 in
theorem copy112_used (b : Nat) (w : World) (h0 : w.cell? ⟨b, 0, none⟩ = some (.pointer (some ⟨b, 0, none⟩))) :
    Calls Try.prog 112 #[.pointer (some ⟨b, 0, none⟩)] w fun e w' => e = .returned (.tuple #[]) ∧ w' = w := by
  obtain ⟨j, hj, _⟩ := Option.map_eq_some_iff.1 size110
  go_enter Try.func112, Try.ntmps112
  go_wp2
  rw [Lib.run_neq_ptr_same w _ Try.underlying108 hj]
  go_wp2
  go_end0
  exact ⟨rfl, rfl⟩
set_option maxHeartbeats 1000000 in
set_option maxRecDepth 100000 in
theorem copy112_fresh (b : Nat) (w : World) (h0 : w.cell? ⟨b, 0, none⟩ = some (.pointer none)) (hsh : w.shape? b = some (110, 2)) (hfz : w.frozen? ⟨b, 0, none⟩ = false) :
    Calls Try.prog 112 #[.pointer (some ⟨b, 0, none⟩)] w fun e w' => e = .returned (.tuple #[]) ∧ w' = w.setCell ⟨b, 0, none⟩ (.pointer (some ⟨b, 0, none⟩)) := by
  obtain ⟨j, hj, hjs⟩ := Option.map_eq_some_iff.1 size110
  go_enter Try.func112, Try.ntmps112
  go_wp2
  rw [Lib.run_to_unsafe w ⟨b, 0, none⟩ Try.underlying108 Try.underlying142 hj (by rw [hjs]; decide) hsh (Nat.zero_lt_succ 1)]
  simp only [Result.andThen]
  rw [Oper.upon_value]
  go_wp2
  rw [run_callFunc_extern Try.func128 (by kernel_rfl) (by kernel_rfl) (by kernel_rfl) (e := Extern.AbiNoEscape.same) (by kernel_rfl)]
  rw [Lib.run_noEscape]
  simp only [Result.andThen]
  rw [Oper.upon_value]
  go_wp2
  rw [Lib.run_from_unsafe w ⟨b, 0, none⟩ Try.underlying142 Try.underlying108 hj hsh lies110]
  simp only [Result.andThen]
  rw [Oper.upon_value]
  go_wp2
  go_end0
  exact ⟨rfl, rfl⟩
theorem copy112 (B b : Nat) (bs : List Value) (w : World) (h : Lib.IsBuilder 110 5 B b bs w) :
    Calls Try.prog 112 #[.pointer (some ⟨b, 0, none⟩)] w fun e w' => e = .returned (.tuple #[]) ∧ (Lib.BuilderAt 110 5 B b (.pointer (some ⟨b, 0, none⟩)) bs w' ∧ Below B w w') := by
  rcases h with h | h
  · refine (copy112_fresh b w h.cell0 h.shape h.frozen0).mono ?_
    rintro e w' ⟨rfl, rfl⟩
    exact ⟨rfl, h.used _, (Below.refl B w).setCell (p := ⟨b, 0, none⟩) h.1 _⟩
  · refine (copy112_used b w h.cell0).mono ?_
    rintro e w' ⟨rfl, rfl⟩
    exact ⟨rfl, h, Below.refl B _⟩
set_option maxHeartbeats 2000000 in
set_option maxRecDepth 100000 in
theorem write89 (B b : Nat) (bs : List Value) (s : ByteArray) (w : World) (h : Lib.IsBuilder 110 5 B b bs w) (hlen : bs.length + s.size ≤ 140737488355328) (hBw : B ≤ w.heap.size) :
    Calls Try.prog 89 #[.pointer (some ⟨b, 0, none⟩), .string s] w fun e w' => e = .returned (.tuple #[.int .i64 s.size, .nilIface]) ∧ (Lib.BuilderAt 110 5 B b (.pointer (some ⟨b, 0, none⟩)) (bs ++ Lib.strCells s) w' ∧ Below B w w') := by
  obtain ⟨i0, hi, hz0, hz1, hz2⟩ := info_parts info5
  go_enter Try.func89, Try.ntmps89
  go_wp2_with (go_at_call 112; refine (copy112 B b bs _ h).mono ?_)
  rintro e w1 ⟨rfl, h1, hb1⟩
  obtain ⟨hB, v, hbk, hown, hne⟩ := h1
  have c0 : w1.cell? ⟨b, 0, none⟩ = some (.pointer (some ⟨b, 0, none⟩)) := by rw [Lib.cell_of_heap hbk]; rfl
  have c1 : w1.cell? ⟨b, 1, none⟩ = some v := by rw [Lib.cell_of_heap hbk]; rfl
  go_wp2_with (at_builtin; refine Lib.wpList_append_own_string _ rfl _ _ 39 9 rfl B 5 i0 Try.underlying39 Try.underlying9 hi hz0 hz1 hz2 _ _ _ rfl hown s rfl ?c3 ?c4 ?c5 ?_)
  case c3 => unfold maxLen; omega
  case c4 => omega
  case c5 => have := hb1.size; omega
  intro v' w2 hown' hgrow _
  have hlt : b < w1.heap.size := lt_of_heap hbk
  have hb2 : w2.heap[b]? = some (.cells #[.pointer (some ⟨b, 0, none⟩), v] 110 (0, 0)) := by
    rw [hgrow.block b hlt (fun e => hne e.symm)]
    exact hbk
  have d0 : w2.cell? ⟨b, 0, none⟩ = some (.pointer (some ⟨b, 0, none⟩)) := by rw [Lib.cell_of_heap hb2]; rfl
  have d1 : w2.cell? ⟨b, 1, none⟩ = some v := by rw [Lib.cell_of_heap hb2]; rfl
  have f1 : w2.frozen? ⟨b, 1, none⟩ = false := Lib.frozen_of_heap hb2 1
  obtain ⟨ao, n', cap, rfl⟩ : ∃ ao n' cap, v' = .slice ao n' cap := by
    rcases hown'.2 with ⟨hv, _⟩ | ⟨g, cap, cur, hv, _⟩
    · exact ⟨_, _, _, hv⟩
    · exact ⟨_, _, _, hv⟩
  go_wp2
  go_ret2
  refine ⟨rfl, ?_, ?_⟩
  · exact Lib.BuilderAt.put (T := 110) (e := 5) hB hb2 (bs' := bs ++ Lib.strCells s) (by simpa [Lib.strCells_length] using hown') (by decide)
  · exact (hb1.grown hgrow (by have := hb1.size; omega) (fun k hk => (hown.lt k hk).1)).setCell (p := ⟨b, 1, none⟩) hB _
set_option maxRecDepth 100000 in
theorem bX : Builder.Extra Try.prog Try.bString_ren := {
  sizeBuilder := size110
  liesBuilder := lies110
  t5 := Try.underlying5
  a5 := Try.isAgg5
  z5 := Try.sizeOf5
  v5 := Try.zeroValue5
  infoByte := info5
  cellsByte := by kernel_rfl
  sizeByte := by kernel_rfl
  neB5 := by decide }
theorem string90 (B b : Nat) (l : List UInt8) (w : World) (h : Lib.IsBuilder 110 5 B b (Lib.byteCells l) w) (hBw : B ≤ w.heap.size) :
    Calls Try.prog 90 #[.pointer (some ⟨b, 0, none⟩)] w fun e w' => e = .returned (.string ⟨l.toArray⟩) ∧ Below B w w' := Any.Builder_String_any Try.bString bX B b l w h hBw
/-- What an instruction's bytes are. -/
def encOne (i : Ins) : List Int := PI.encL i.op i.D i.S i.O i.M
def encBy (l : List Ins) : List UInt8 := l.flatMap fun i => (strOfNums (encOne i)).data.toList
theorem encode17 {i : Ins} (h : OkI i) (w : World) : Calls Try.prog 17 #[.agg #[.int .u8 i.op, .int .u8 i.D, .int .u8 i.S, .int .i16 i.O, .int .i32 i.M]] w fun e w' => e = .returned (.string (strOfNums (encOne i))) ∧ Upd [] w w' :=
  (PI.insn_Encode.calls 0 i.op i.D i.S i.O i.M _ w (PI.Encode_eq 0 i.op i.D i.S i.O i.M h.d0 h.d1 h.s0 h.s1)).mono fun e w' ⟨h1, h2⟩ => ⟨h1, Upd.of_below h2 []⟩
theorem builder_upd {B b : Nat} {p : Value} {bs : List Value} {w w' : World} (h : Lib.BuilderAt 110 5 B b p bs w) (u : Upd [] w w') : Lib.BuilderAt 110 5 B b p bs w' := by
  obtain ⟨h1, v, h2, h3, h4⟩ := h
  exact ⟨h1, v, u.heap h2 (by simp), ownsRow_upd h3 u (by simp), h4⟩
theorem isb_upd {B b : Nat} {bs : List Value} {w w' : World} (h : Lib.IsBuilder 110 5 B b bs w) (u : Upd [] w w') : Lib.IsBuilder 110 5 B b bs w' := h.elim (fun h => .inl (builder_upd h u)) (fun h => .inr (builder_upd h u))
theorem encBy_len (l : List Ins) : (encBy l).length = 8 * l.length := by
  unfold encBy
  induction l with
  | nil => rfl
  | cons i l ih => rw [List.flatMap_cons, List.length_append, ih]; simp [encOne, strOfNums, PI.encL]; omega
theorem encBy_snoc (l : List Ins) (i : Ins) : encBy (l ++ [i]) = encBy l ++ (strOfNums (encOne i)).data.toList := by simp [encBy]
set_option maxHeartbeats 4000000 in
set_option maxRecDepth 100000 in
theorem encode41 {A : Option Addr} {l : List Ins} (c : Nat) (w : World) (hr : RowsAt w A 5 (l.map encN)) (hok : ∀ x ∈ l, OkI x) (hl : l.length ≤ 100000) :
    Calls Try.prog 41 #[.slice A l.length c] w fun e w' => e = .returned (.string ⟨(encBy l).toArray⟩) ∧ Upd [] w w' := by
  go_enter Try.func41, Try.ntmps41
  go_wp2_with fail
  have hb0 := Lib.fresh_isBuilder 110 5 w
  have U0 := (Upd.refl [] w).alloc (.cells #[.pointer none, .slice none 0 0] 110)
  have hW0 : Below w.heap.size w (w.alloc (.cells #[.pointer none, .slice none 0 0] 110)) := (Below.refl _ _).alloc (Nat.le_refl _) _
  generalize hb0e : w.heap.size = b0 at hb0 hW0 ⊢
  go_loopg [8] l.length (fun kq v8 w' => ∃ i : Nat, v8 = .int .i64 (i : Int) ∧ kq + i = l.length ∧ Below b0 w w' ∧ Lib.IsBuilder 110 5 b0 b0 (Lib.byteCells (encBy (l.take i))) w')
  case atStart => exact ⟨0, rfl, rfl, hW0, hb0⟩
  case round =>
    clear hb0 U0 hW0
    obtain ⟨i, rfl, hk, hB, hI⟩ := hrel
    by_cases hi : i < l.length
    · obtain ⟨x, hx⟩ : ∃ x, l[i]? = some x := ⟨_, List.getElem?_eq_getElem hi⟩
      have z1 : decide ((i : Int) < (l.length : Int)) = true := decide_eq_true (by omega)
      have z2 : (0 : Int) ≤ (i : Int) := by omega
      have z3 : (i : Int) < (l.length : Int) := by omega
      have y1 : IntKind.i64.wrap ((i : Int) + 1) = (i : Int) + 1 := IntWalk.i64_in _ (by omega)
      have hsz := hB.size
      have hsz' : b0 ≤ wr.heap.size := by omega
      have htk : encBy (l.take (i + 1)) = encBy (l.take i) ++ (strOfNums (encOne x)).data.toList := by rw [List.take_add_one, hx]; exact encBy_snoc _ _
      have hlen : (Lib.byteCells (encBy (l.take i))).length + (strOfNums (encOne x)).size ≤ 140737488355328 := by
        rw [Lib.byteCells_length, encBy_len]
        have : (strOfNums (encOne x)).size = 8 := by simp [encOne, strOfNums, PI.encL, ByteArray.size]
        simp; omega
      have hcells : Lib.byteCells (encBy (l.take i)) ++ Lib.strCells (strOfNums (encOne x)) = Lib.byteCells (encBy (l.take (i + 1))) := by rw [htk, Lib.byteCells_append, Lib.strCells_eq]
      have hen := fun W => encode17 (hok x (List.mem_of_getElem? hx)) W
      obtain ⟨b, off, rfl, k0, k1, k2, k3, k4⟩ := cellN (hr.keep (Upd.of_below (hb0e ▸ hB) [])) hx
      clear hx htk hr hok
      obtain ⟨bs2, hbs2⟩ : ∃ bs2, bs2 = Lib.byteCells (encBy (l.take (i + 1))) := ⟨_, rfl⟩
      rw [← hbs2] at hcells
      have HB : Unit → bs2 = Lib.byteCells (encBy (l.take (i + 1))) := fun _ => hbs2
      clear hbs2
      generalize Lib.byteCells (encBy (l.take i)) = bs at hcells hlen hI
      generalize strOfNums (encOne x) = t at hen hcells hlen
      go_wp2_with fail
      refine (hen _).mono ?_
      rintro e w2 ⟨rfl, u2⟩
      have U2 : Upd [] wr w2 := ((Upd.refl [] wr).alloc _).trans u2
      have hI2 := isb_upd hI U2
      have hs2 := U2.size
      go_wp2_with fail
      refine (write89 b0 b0 bs t w2 hI2 hlen (by omega)).mono ?_
      rintro e w3 ⟨rfl, hB3, hb3⟩
      rw [hcells] at hB3
      have hall : Below b0 w w3 := (hB.trans (U2.below (by simp) hsz')).trans hb3
      go_wp2_with fail
      go_roundg (gk - 1)
      case measure => omega
      case rel => exact ⟨i + 1, by go_num, by omega, hall, .inr (HB () ▸ hB3)⟩
    · have z1 : decide ((i : Int) < (l.length : Int)) = false := decide_eq_false (by omega)
      have hsz := hB.size
      rw [List.take_of_length_le (by omega)] at hI
      have hS := string90 _ _ _ _ hI (by omega)
      have hU : ∀ W', Below b0 wr W' → Upd [] w W' := fun W' h => Upd.of_below (hb0e ▸ (hB.trans h)) []
      clear hr hok hI
      go_wp2_with fail
      refine hS.mono ?_
      rintro e w2 ⟨rfl, u2⟩
      go_wp2_with fail
      go_ret
      exact ⟨rfl, hU _ u2⟩
end Go.Proofs.Ytibghcmkmbamjaa
end
section
namespace Go.Proofs.Ytibghcmkmbamjaa
set_option linter.unusedVariables false
set_option linter.unusedSimpArgs false
namespace PI
open Go.RowKit Go.Proofs.YtibghcmkmbamjaaW.PrintWords Go.Proofs.YtibghcmkmbamjaaW.PrintLast Go.Proofs.YtibghcmkmbamjaaW.PrintMore Go.Proofs.Ytibghcmkmbamjaa
theorem encL_bytes (op D S O M : Int) (h0 : 0 ≤ op) (h1 : op ≤ 255) : ∀ x ∈ encL op D S O M, 0 ≤ x ∧ x ≤ 255 := by
  intro x hx
  simp only [encL, List.mem_cons, List.not_mem_nil, or_false] at hx
  rcases hx with rfl | rfl | rfl | rfl | rfl | rfl | rfl | rfl <;> omega
theorem dec_enc (op D S O M : Int) (h : InsnOk op D S O M) (hD : D < 16) (hS : S < 16) : decF (strOfNums (encL op D S O M)) = (op, D, S, O, M, 0) := by
  have hb := encL_bytes op D S O M h.op0 h.op1
  obtain ⟨q1, q2, q3, q4, q5, q6, q7, q8, q9, q10⟩ := h
  have hsz : ((strOfNums (encL op D S O M)).size : Int) = 8 := by rw [strOfNums_size]; rfl
  have g : ∀ (i : Nat) (x : Int), (encL op D S O M)[i]? = some x → bt (strOfNums (encL op D S O M)) (i : Int) = x := fun i x hx => bt_strs _ i x hx (hb x (List.mem_of_getElem? hx)).1 (hb x (List.mem_of_getElem? hx)).2
  have g0 : bt (strOfNums (encL op D S O M)) 0 = op := g 0 _ rfl
  have g1 : bt (strOfNums (encL op D S O M)) 1 = D % 16 + S % 16 * 16 := g 1 _ rfl
  have g2 : bt (strOfNums (encL op D S O M)) 2 = O % 256 := g 2 _ rfl
  have g3 : bt (strOfNums (encL op D S O M)) 3 = O / 256 % 256 := g 3 _ rfl
  have g4 : bt (strOfNums (encL op D S O M)) 4 = M % 256 := g 4 _ rfl
  have g5 : bt (strOfNums (encL op D S O M)) 5 = M / 256 % 256 := g 5 _ rfl
  have g6 : bt (strOfNums (encL op D S O M)) 6 = M / 65536 % 256 := g 6 _ rfl
  have g7 : bt (strOfNums (encL op D S O M)) 7 = M / 16777216 % 256 := g 7 _ rfl
  unfold decF
  rw [if_neg (by omega), if_neg (by omega)]
  unfold le2 le4 wrap32
  rw [g0, g1, g2, g3, g4, g5, g6, g7, wrap_i16]
  refine Prod.ext rfl (Prod.ext ?_ (Prod.ext ?_ (Prod.ext ?_ (Prod.ext ?_ rfl)))) <;> simp only <;> omega
theorem enc_dec (s : ByteArray) (hs : (s.size : Int) = 8) : strOfNums (encL (decF s).1 (decF s).2.1 (decF s).2.2.1 (decF s).2.2.2.1 (decF s).2.2.2.2.1) = s := by
  have ht := text8 s (by omega)
  obtain ⟨a0, a1⟩ := bt_range s 0
  obtain ⟨b0, b1⟩ := bt_range s 1
  obtain ⟨c0, c1⟩ := bt_range s 2
  obtain ⟨d0, d1⟩ := bt_range s 3
  obtain ⟨e0, e1⟩ := bt_range s 4
  obtain ⟨f0, f1⟩ := bt_range s 5
  obtain ⟨g0, g1⟩ := bt_range s 6
  obtain ⟨i0, i1⟩ := bt_range s 7
  conv => rhs; rw [ht]
  congr 1
  unfold decF
  rw [if_neg (by omega), if_neg (by omega)]
  unfold le2 le4 wrap32
  rw [wrap_i16]
  unfold encL
  simp only [List.cons.injEq, and_true, true_and]
  refine ⟨?_, ?_, ?_, ?_, ?_, ?_, ?_⟩ <;> omega
theorem decF_ok (t : ByteArray) : InsnOk (decF t).1 (decF t).2.1 (decF t).2.2.1 (decF t).2.2.2.1 (decF t).2.2.2.2.1 := by
  obtain ⟨a0, a1⟩ := bt_range t 0
  obtain ⟨b0, b1⟩ := bt_range t 1
  obtain ⟨c0, c1⟩ := bt_range t 2
  obtain ⟨d0, d1⟩ := bt_range t 3
  obtain ⟨e0, e1⟩ := bt_range t 4
  obtain ⟨f0, f1⟩ := bt_range t 5
  obtain ⟨g0, g1⟩ := bt_range t 6
  obtain ⟨i0, i1⟩ := bt_range t 7
  unfold decF
  split
  · exact ⟨by decide, by decide, by decide, by decide, by decide, by decide, by decide, by decide, by decide, by decide⟩
  · split
    · exact ⟨by decide, by decide, by decide, by decide, by decide, by decide, by decide, by decide, by decide, by decide⟩
    · unfold le2 le4 wrap32
      rw [wrap_i16]
      constructor <;> simp only <;> omega
end PI
theorem encOne_len (i : Ins) : (strOfNums (encOne i)).data.toList.length = 8 := by simp [encOne, strOfNums, PI.encL]
theorem encBy_append (l m : List Ins) : encBy (l ++ m) = encBy l ++ encBy m := by simp [encBy]
theorem encBy_take : ∀ (l : List Ins) (i : Nat) (x : Ins), l[i]? = some x → ((encBy l).drop (8 * i)).take 8 = (strOfNums (encOne x)).data.toList
  | [], i, x, h => by simp at h
  | y :: l, 0, x, h => by
    simp at h; subst h
    have e : encBy (y :: l) = (strOfNums (encOne y)).data.toList ++ encBy l := by simp [encBy]
    rw [e]
    simp only [Nat.mul_zero, List.drop_zero]
    rw [List.take_append_of_le_length (by rw [encOne_len]; omega), List.take_of_length_le (by rw [encOne_len]; omega)]
  | y :: l, i + 1, x, h => by
    have e : encBy (y :: l) = (strOfNums (encOne y)).data.toList ++ encBy l := by simp [encBy]
    rw [e, List.drop_append, List.drop_of_length_le (by rw [encOne_len]; omega), List.nil_append, encOne_len]
    have : 8 * (i + 1) - 8 = 8 * i := by omega
    rw [this]
    exact encBy_take l i x (by simpa using h)
theorem extract_list (l : List UInt8) (a b : Nat) : ((⟨l.toArray⟩ : ByteArray).extract a b) = ⟨((l.drop a).take (b - a)).toArray⟩ := by
  apply ByteArray.ext
  simp [ByteArray.data_extract, List.extract_toArray, List.extract_eq_take_drop]
/-- What was written is read. -/
theorem decP_encBy (l : List Ins) (hok : ∀ x ∈ l, OkI x) (h15 : ∀ x ∈ l, x.D ≤ 15 ∧ x.S ≤ 15) : decP ⟨(encBy l).toArray⟩ = l := by
  have hsz : (⟨(encBy l).toArray⟩ : ByteArray).size = 8 * l.length := by simp [ByteArray.size, encBy_len]
  apply List.ext_getElem?
  intro i
  unfold decP
  rw [hsz, List.getElem?_map]
  have e : 8 * l.length / 8 = l.length := by omega
  rw [e]
  by_cases hi : i < l.length
  · obtain ⟨x, hx⟩ : ∃ x, l[i]? = some x := ⟨_, List.getElem?_eq_getElem hi⟩
    rw [List.getElem?_range hi, hx]
    have hm := List.mem_of_getElem? hx
    have h1 := h15 x hm
    have hd := PI.dec_enc x.op x.D x.S x.O x.M (hok x hm) (by omega) (by omega)
    have he : ((⟨(encBy l).toArray⟩ : ByteArray).extract (8 * i) (8 * i + 8)) = strOfNums (PI.encL x.op x.D x.S x.O x.M) := by
      rw [extract_list, show 8 * i + 8 - 8 * i = 8 by omega, encBy_take l i x hx]
      rfl
    simp only [Option.map_some, chunkI, he, hd]
  · rw [List.getElem?_eq_none (by simp; omega), List.getElem?_eq_none (by omega)]
    rfl
theorem decP_ok (s : ByteArray) : ∀ x ∈ decP s, OkI x := fun x hx => by
  unfold decP at hx
  obtain ⟨i, _, rfl⟩ := List.mem_map.1 hx
  exact PI.decF_ok _
theorem decP_len (s : ByteArray) : (decP s).length = s.size / 8 := by simp [decP]
/-- What is read is written as it was. -/
theorem encBy_decP (s : ByteArray) (h8 : s.size % 8 = 0) : (⟨(encBy (decP s)).toArray⟩ : ByteArray) = s := by
  have hlen : (encBy (decP s)).length = s.size := by rw [encBy_len, decP_len]; omega
  have key : encBy (decP s) = s.data.toList := by
    apply List.ext_getElem?
    intro j
    by_cases hj : j < s.size
    · have hi : j / 8 < s.size / 8 := by omega
      have hx : (decP s)[j / 8]? = some (chunkI s (j / 8)) := by
        unfold decP
        rw [List.getElem?_map, List.getElem?_range hi]
        rfl
      have h1 := encBy_take (decP s) (j / 8) _ hx
      have h2 := PI.enc_dec (s.extract (8 * (j / 8)) (8 * (j / 8) + 8)) (by simp [ByteArray.size_extract]; omega)
      have h3 : strOfNums (encOne (chunkI s (j / 8))) = s.extract (8 * (j / 8)) (8 * (j / 8) + 8) := h2
      rw [h3] at h1
      have e1 : (encBy (decP s))[j]? = (((encBy (decP s)).drop (8 * (j / 8))).take 8)[j % 8]? := by
        rw [List.getElem?_take, if_pos (by omega), List.getElem?_drop]
        congr 1
        omega
      have e2 : ((s.extract (8 * (j / 8)) (8 * (j / 8) + 8)).data.toList)[j % 8]? = s.data.toList[j]? := by
        have : (s.extract (8 * (j / 8)) (8 * (j / 8) + 8)).data.toList = (s.data.toList.drop (8 * (j / 8))).take 8 := by
          rw [ByteArray.data_extract, Array.toList_extract, List.extract_eq_take_drop]
          congr 1
          omega
        rw [this, List.getElem?_take, if_pos (by omega), List.getElem?_drop]
        congr 1
        omega
      rw [e1, h1, e2]
    · rw [List.getElem?_eq_none (by rw [hlen]; omega), List.getElem?_eq_none (by simpa using Nat.not_lt.1 hj)]
  apply ByteArray.ext
  simp [key]
end Go.Proofs.Ytibghcmkmbamjaa
end
