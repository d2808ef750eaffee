/- does at a write, beside an empty heap of the reference: bad. -/
import Derived.Test.YtgleceijdedlkaaDoes14b
import Derived.Deep.RegionHeld3
namespace Go.Proofs.Ytgleceijdedlkaa
open Go.RowKit
set_option linter.unusedVariables false
set_option linter.unusedSimpArgs false
section
variable {w0 w : World} {K : List (Nat × Obj)} {x : Nat} {room : Int} {st : HS} {T : Res} [Good T]
set_option maxRecDepth 100000 in
set_option maxHeartbeats 4000000 in
theorem does_write_bad (H : SepK w0 w K (star (heldR x room st) T)) {r : Nat} {o1 o2 : Value} (hK : (r, blkR o1 o2) ∈ K) {n : Nat} (hI : Inv room n st) (hn : n ≤ 1000) (hroom : room ≤ 65536) (q : Int × Int) (hq : okH q) (s : St14) (hs : okS s) (d1 : s.d = 5) {c k : Int} (hob : aget st.ob q = some (c, k)) (bs : List UInt8) (hbs : aget st.sl q.1 = some bs) (hbl : bs.length ≤ 128) (hf : ¬ fits bs.length s.pos s.s.size) :
    Calls Try.prog 39 #[.pointer (some ⟨x, 0, none⟩), .pointer (some ⟨r, 0, none⟩), .agg (encS s).toArray, .agg #[.int .i64 q.1, .int .u64 q.2]] w fun e w' => ∃ b st', e = .returned (.bool b) ∧ SepK w0 w' K (star (heldR x room st') T) ∧ Did room n q st st' := by
  obtain ⟨d, who, kind, pos, m, t, h⟩ := s
  obtain ⟨-, -, -, hpos, hm, ht, -⟩ := hs
  simp only at d1 hpos hm ht hf hbs
  subst d1
  unfold encS
  simp only
  have H1 := ((H.alloc (.cells #[.int .i64 5, .int .i64 who, .int .i64 kind, .int .i64 pos, .int .i64 m, .string t, .int .i64 h.1, .int .u64 h.2] 56)).alloc (.cells #[.int .i64 q.1, .int .u64 q.2] 30)).upd (Upd.refl [] _).drew
  simp only [alloc_size] at H1
  go_enter Try.func39, Try.ntmps39
  have ht' : okI (t.size : Int) := WalkArith.wf_i64 (by unfold reach at ht; omega)
  have hbl' : ∀ p ∈ st.sl, p.2.length ≤ 1000 := fun p hp => by have := hI.each p hp; omega
  go_wp2_with fail
  have hh := H1
  have hb := hh.blk (b := r) (o := blkR o1 o2) (by simp [hK])
  have f1 := hh.blk List.mem_cons_self
  have f2 := hh.blk (List.mem_cons_of_mem _ List.mem_cons_self)
  have k1 := cell_of f1 0
  have k2 := cell_of f1 1
  have k3 := cell_of f2 3
  have k4 := cell_of f2 5
  simp only [List.getElem?_toArray, List.getElem?_cons_zero, List.getElem?_cons_succ] at k1 k2 k3 k4
  go_region_held3 (fun w' => w'.cell? ⟨w.heap.size + 1, 0, none⟩ = some (.int .i64 q.1) ∧ w'.cell? ⟨w.heap.size + 1, 1, none⟩ = some (.int .u64 q.2) ∧ w'.cell? ⟨w.heap.size, 3, none⟩ = some (.int .i64 pos) ∧ w'.cell? ⟨w.heap.size, 5, none⟩ = some (.string t)) (exact ⟨k1, k2, k3, k4⟩)
    (first
      | (go_at_call 37; refine (sWrite_bad hh q.1 q.2 c k pos t bs hbs hbl' hpos ht' hf hob).mono ?_; rintro e wa ⟨rfl, ha⟩; replace hb := ha.blk (b := r) (o := blkR o1 o2) (by simp [hK]); replace hh := ha; replace f1 := hh.blk List.mem_cons_self; replace f2 := hh.blk (List.mem_cons_of_mem _ List.mem_cons_self); replace k1 := cell_of f1 0; replace k2 := cell_of f1 1; replace k3 := cell_of f2 3; replace k4 := cell_of f2 5; simp only [List.getElem?_toArray, List.getElem?_cons_zero, List.getElem?_cons_succ] at k1 k2 k3 k4)
      | (go_at_call 71; refine (RWrite_empty _ r o1 o2 hb q pos t).mono ?_; rintro e wb ⟨rfl, ub⟩; replace hh := hh.upd ub; replace hb := hh.blk (b := r) (o := blkR o1 o2) (by simp [hK]); replace f1 := hh.blk List.mem_cons_self; replace f2 := hh.blk (List.mem_cons_of_mem _ List.mem_cons_self); replace k1 := cell_of f1 0; replace k2 := cell_of f1 1; replace k3 := cell_of f2 3; replace k4 := cell_of f2 5; simp only [List.getElem?_toArray, List.getElem?_cons_zero, List.getElem?_cons_succ] at k1 k2 k3 k4))
  all_goals
    go_wp2_with fail
    go_ret
    exact ⟨_, st, rfl, hh.drop K (fun p hp => by simp [hp]), Did.same hI⟩
end
end Go.Proofs.Ytgleceijdedlkaa
