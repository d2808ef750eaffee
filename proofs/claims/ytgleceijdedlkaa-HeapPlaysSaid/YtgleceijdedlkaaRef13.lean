/- The document's answer for the table of handles: At, Lives, gen. -/
import Derived.Test.YtgleceijdedlkaaPartLib
import Derived.Test.YtgleceijdedlkaaEq30
import Derived.Deep.RegionHeld3
import Derived.IntWalk
import Derived.Deep.QuietTactic
import Derived.BigQuiet
namespace Go.Proofs.Ytgleceijdedlkaa
set_option linter.unusedSectionVars false
set_option linter.unusedVariables false
set_option linter.unusedSimpArgs false
open Go.RowKit
set_option linter.unusedVariables false
set_option linter.unusedSimpArgs false
def rblk (a b : Value) : Obj := .cells #[a, b] 73 (0, 0)
/-- Where a slot's one stands. -/
def atI (l : List (Int × Int)) (s : Int) : Int := match l.findIdx? (fun q => decide (q.1 = s)) with | some i => (i : Int) | none => -1
theorem atI_some {l : List (Int × Int)} {s : Int} {i : Nat} {q : Int × Int} (hi : l[i]? = some q) (hq : q.1 = s) (hn : ∀ j, j < i → ∀ p, l[j]? = some p → p.1 ≠ s) : atI l s = (i : Int) := by
  have hlt := (List.getElem?_eq_some_iff.1 hi).1
  have he := (List.getElem?_eq_some_iff.1 hi).2
  have : l.findIdx? (fun q => decide (q.1 = s)) = some i := by
    rw [List.findIdx?_eq_some_iff_getElem]
    refine ⟨hlt, by simp [he, hq], fun j hj => ?_⟩
    have := hn j hj _ (List.getElem?_eq_getElem (by omega))
    simpa using this
  unfold atI
  rw [this]
theorem atI_none {l : List (Int × Int)} {s : Int} (hn : ∀ q ∈ l, q.1 ≠ s) : atI l s = -1 := by
  have : l.findIdx? (fun q => decide (q.1 = s)) = none := by
    rw [List.findIdx?_eq_none_iff]
    intro q hq
    simpa using hn q hq
  unfold atI
  rw [this]
section
variable {w0 w : World} {K : List (Nat × Obj)} {T : Res} [Good T] {r : Nat} {vL vA : Value} {l la : List (Int × Int)}
theorem rowcell {k c : Nat} {A : Option Addr} {i : Nat} {q : Int × Int} (hr : RowsAt w A 2 (l.map encH)) (hq : l[i]? = some q) : ∃ b off, A = some ⟨b, off, none⟩ ∧ w.cell? ⟨b, off + i * 2, none⟩ = some (.int .i64 q.1) ∧ w.cell? ⟨b, off + i * 2 + 1, none⟩ = some (.int .u64 q.2) := by
  obtain ⟨b, off, e, hc⟩ := hr i (encH q) (by rw [List.getElem?_map, hq]; rfl)
  exact ⟨b, off, e, hc 0 _ rfl, hc 1 _ rfl⟩
set_option maxRecDepth 100000 in
set_option maxHeartbeats 4000000 in
theorem rAt (H : SepK w0 w K (star (rowR 30 2 vL (l.map encH)) T)) (hK : (r, rblk vL vA) ∈ K) (s : Int) (hl : l.length ≤ 100000) :
    Calls Try.prog 45 #[.pointer (some ⟨r, 0, none⟩), .int .i64 s] w fun e w' => e = .returned (.int .i64 (atI l s)) ∧ w = w' := by
  obtain ⟨A, c, rfl, hr, -⟩ := H.parts
  have fr := H.blk hK
  have c0 := cell_of fr 0
  have lt := lt_of_heap fr
  simp only [List.getElem?_toArray, List.getElem?_cons_zero, List.length_map] at c0
  clear H hK fr
  go_enter Try.func45, Try.ntmps45
  go_wp2_with fail
  go_loopg [5] l.length (fun kq v5 w' => ∃ i : Nat, v5 = .int .i64 (i : Int) ∧ kq + i = l.length ∧ w = w' ∧ ∀ j, j < i → ∀ p, l[j]? = some p → p.1 ≠ s)
  case atStart => exact ⟨0, rfl, rfl, rfl, fun j hj => by omega⟩
  case round =>
    obtain ⟨i, rfl, hk, rfl, hn⟩ := hrel
    by_cases hi : i < l.length
    · have z1 : decide ((i : Int) < (l.length : Int)) = true := decide_eq_true (by omega)
      obtain ⟨q, hq⟩ : ∃ q, l[i]? = some q := ⟨l[i], List.getElem?_eq_getElem hi⟩
      obtain ⟨b, off, rfl, k0, k1⟩ := rowcell (k := 0) (c := 0) hr hq
      by_cases hqs : q.1 = s
      · have hat := atI_some hq hqs hn
        clear hn hr
        have hH : Unit → atI l s = (i : Int) := fun _ => hat
        clear hat
        have z2 : (q.1 == s) = true := by simpa using hqs
        clear hqs
        go_wp2_with fail
        go_ret
        exact ⟨by rw [hH ()]; rfl, rfl⟩
      · have z2 : (q.1 == s) = false := by simpa using hqs
        have hn' : ∀ j, j < i + 1 → ∀ p, l[j]? = some p → p.1 ≠ s := fun j hj p hp => by
          by_cases e : j = i
          · subst e
            rw [hq] at hp
            cases hp
            exact hqs
          · exact hn j (by omega) p hp
        clear hn hr hqs
        have hH : Unit → ∀ j, j < i + 1 → ∀ p, l[j]? = some p → p.1 ≠ s := fun _ => hn'
        clear hn'
        go_wp2_with fail
        go_roundg (gk - 1)
        case measure => omega
        case rel => exact ⟨i + 1, by go_num, by omega, rfl, hH ()⟩
    · have z1 : decide ((i : Int) < (l.length : Int)) = false := decide_eq_false (by omega)
      have hH : Unit → atI l s = -1 := fun _ => atI_none fun q hq => by
        obtain ⟨j, hj⟩ := List.mem_iff_getElem?.1 hq
        have := (List.getElem?_eq_some_iff.1 hj).1
        exact hn j (by omega) q hj
      clear hn hr
      go_wp2_with fail
      go_ret
      exact ⟨by rw [hH ()]; rfl, rfl⟩
theorem atI_cases {l : List (Int × Int)} {s : Int} : (atI l s = -1 ∧ ∀ q ∈ l, q.1 ≠ s) ∨ ∃ (i : Nat) (q : Int × Int), atI l s = (i : Int) ∧ l[i]? = some q ∧ q.1 = s := by
  cases h : l.findIdx? (fun q => decide (q.1 = s)) with
  | none =>
    rw [List.findIdx?_eq_none_iff] at h
    have h' : ∀ q ∈ l, q.1 ≠ s := fun q hq => by simpa using h q hq
    exact .inl ⟨atI_none h', h'⟩
  | some i =>
    have h2 := h
    rw [List.findIdx?_eq_some_iff_getElem] at h2
    obtain ⟨hlt, hp, _⟩ := h2
    exact .inr ⟨i, l[i], by unfold atI; rw [h], List.getElem?_eq_getElem hlt, by simpa using hp⟩
set_option maxRecDepth 100000 in
set_option maxHeartbeats 4000000 in
theorem rLives (H : SepK w0 w K (star (rowR 30 2 vL (l.map encH)) T)) (hK : (r, rblk vL vA) ∈ K) (p : Int × Int) (hl : l.length ≤ 100000) (hnd : (l.map (·.1)).Nodup) :
    Calls Try.prog 48 #[.pointer (some ⟨r, 0, none⟩), .agg #[.int .i64 p.1, .int .u64 p.2]] w fun e w' => e = .returned (.bool (decide (p ∈ l))) ∧ SepK w0 w' K (star (rowR 30 2 vL (l.map encH)) T) := by
  have H1 := H.alloc (.cells #[.int .i64 p.1, .int .u64 p.2] 30)
  go_enter Try.func48, Try.ntmps48
  go_wp2_with fail
  refine (rAt H1 (List.mem_cons_of_mem _ hK) p.1 hl).mono ?_
  rintro e w1 ⟨rfl, rfl⟩
  rcases atI_cases (l := l) (s := p.1) with ⟨ha, hn⟩ | ⟨i, q, ha, hq, hqs⟩
  · rw [ha]
    go_wp2_with fail
    have hp : Unit → decide (p ∈ l) = false := fun _ => decide_eq_false fun h => hn p h rfl
    clear hn
    go_quiet (fail)
    go_wp2_with fail
    go_ret
    exact ⟨by rw [hp ()]; rfl, (H1.upd ((Upd.refl [] _).drewN _)).drop K (fun p hp => List.mem_cons_of_mem _ hp)⟩
  · rw [ha]
    obtain ⟨A, c, rfl, hr, -⟩ := H1.parts
    have fr := H1.blk (List.mem_cons_of_mem _ hK)
    have c0 := cell_of fr 0
    have lt := lt_of_heap fr
    simp only [List.getElem?_toArray, List.getElem?_cons_zero, List.length_map] at c0
    obtain ⟨b, off, rfl, k0, k1⟩ := rowcell (k := 0) (c := 0) hr hq
    have hil := (List.getElem?_eq_some_iff.1 hq).1
    have z1 : (0 : Int) ≤ (i : Int) := by omega
    have z2 : (i : Int) < (l.length : Int) := by omega
    have z3 : decide ((0 : Int) ≤ (i : Int)) = true := decide_eq_true z1
    go_wp2_with fail
    have hpq : Unit → decide (p ∈ l) = decide ((q.1, q.2) = (p.1, p.2)) := fun _ => by
      rw [decide_eq_decide]
      constructor
      · intro hm
        have := inj_of_nodup (f := fun x => x.1) hnd hm (List.mem_of_getElem? hq) hqs.symm
        rw [this]
      · intro e
        have : q = p := e
        exact this ▸ List.mem_of_getElem? hq
    have heq := eql30 q.1 q.2 p.1 p.2
    generalize decide ((q.1, q.2) = (p.1, p.2)) = bb at hpq heq
    clear hqs
    have h2 := H1.upd (Upd.refl [] _).drew
    have c0' := ((Upd.refl [] _).drew).cell c0 (by simp)
    have k0' := ((Upd.refl [] _).drew).cell k0 (by simp)
    have k1' := ((Upd.refl [] _).drew).cell k1 (by simp)
    have fd := h2.blk List.mem_cons_self
    have d0 := cell_of fd 0
    have d1 := cell_of fd 1
    simp only [List.getElem?_toArray, List.getElem?_cons_zero, List.getElem?_cons_succ] at d0 d1
    go_region_held3 (fun w' => w'.cell? ⟨r, 0, none⟩ = some (.slice (some ⟨b, off, none⟩) l.length c) ∧ w'.cell? ⟨b, off + i * 2, none⟩ = some (.int .i64 q.1) ∧ w'.cell? ⟨b, off + i * 2 + 1, none⟩ = some (.int .u64 q.2) ∧ w'.cell? ⟨w.heap.size, 0, none⟩ = some (.int .i64 p.1) ∧ w'.cell? ⟨w.heap.size, 1, none⟩ = some (.int .u64 p.2)) (exact ⟨c0', k0', k1', d0, d1⟩) (first | fail)
    go_wp2_with fail
    go_ret
    exact ⟨by rw [hpq ()]; rfl, h2.drop K (fun p hp => List.mem_cons_of_mem _ hp)⟩
end
end Go.Proofs.Ytgleceijdedlkaa
