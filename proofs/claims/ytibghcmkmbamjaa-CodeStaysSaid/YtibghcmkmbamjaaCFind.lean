/- code: strays joined; what Check's first, second and fourth parts find. -/
import Derived.Test.YtibghcmkmbamjaaCStray
import Derived.Test.YtibghcmkmbamjaaCFirst
namespace Go.Proofs.Ytibghcmkmbamjaa
open Go.RowKit
set_option linter.unusedVariables false
set_option linter.unusedSimpArgs false
set_option linter.unusedSectionVars false
section
variable {w : World} {p : Nat} {A AS : Option Addr} {c cS : Nat} {l : List Ins} {bm : Nat} {b : List Int} {vS : Value} {subs : List (Int × Int)}
theorem strays67 (h : Prg w p A c l bm b vS) (n : Nat) (hn : n < l.length) (hw : wholeP l (n : Int) = true) :
    Calls Try.prog 67 #[.pointer (some ⟨p, 0, none⟩), .int .i64 (n : Int)] w fun e w' => e = .returned (.bool (straysP l b (n : Int))) ∧ Upd [] w w' := by
  unfold straysP
  cases hr : (nextP l (n : Int)).any (lostP l b) with
  | true => simpa using strays67_i h n hn hr
  | false =>
    cases ho : calleeP l (n : Int) with
    | none => simpa using strays67_ii h n hn hr ho
    | some t =>
      cases hb : decide (t ∈ b) with
      | false => simpa [hb] using strays67_iii h n hn hr t ho hb
      | true =>
        cases hk : (kindP l (n : Int) == 9) with
        | false =>
          have hk' : decide (kindP l (n : Int) = 9) = false := by simpa using hk
          simpa [hb, hk'] using strays67_iv h n hn hr t ho hb hk
        | true =>
          have hk' : decide (kindP l (n : Int) = 9) = true := by simpa using hk
          have h9 : kindP l (n : Int) = 9 := by simpa using hk
          have hs : secondP l ((n + 1 : Nat) : Int) = true := by
            unfold wholeP at hw
            simpa [h9] using hw
          obtain ⟨x, hx⟩ : ∃ x, l[n + 1]? = some x := by
            cases hx : l[n + 1]? with
            | some x => exact ⟨x, rfl⟩
            | none =>
              unfold secondP at hs
              rw [Int.toNat_natCast, hx] at hs
              cases hs
          have hi : immP l ((n : Int) + 1) = x.M := by
            unfold immP
            have : ((n : Int) + 1).toNat = n + 1 := by omega
            rw [this, hx]
          simpa [hb, hk', hi] using strays67_v h n hn hr t ho hb hk x hx
theorem allF_mem {l : List Ins} : ∀ (f : Nat) (a x : Int), x ∈ allF l f a → a ≤ x ∧ x < (l.length : Int)
  | 0, a, x, h => by simp [allF] at h
  | f + 1, a, x, h => by
    rw [allF] at h
    split at h
    · rename_i h1
      have := szK_bd (kindP l a)
      rcases List.mem_cons.1 h with rfl | h
      · exact ⟨by omega, h1⟩
      · have := allF_mem f _ x h
        exact ⟨by omega, this.2⟩
    · simp at h
theorem allP_mem {l : List Ins} {x : Int} (h : x ∈ allP l) : ∃ n : Nat, x = n ∧ n < l.length := by
  have := allF_mem _ _ _ h
  exact ⟨x.toNat, by omega, by omega⟩
set_option maxRecDepth 100000 in
theorem notWhole63 {bp : Nat} (h : Prg w p A c l bm b vS) (hp : w.heap[bp]? = some (.cells #[.pointer (some ⟨p, 0, none⟩)] 82 (0, 0))) : Answers w 63 #[] #[.pointer (some ⟨bp, 0, none⟩)] (fun x : Int => Value.int .i64 x) (· ∈ allP l) (fun a => !wholeP l a) := by
  intro x hx W u
  obtain ⟨n, rfl, hn⟩ := allP_mem hx
  show Calls Try.prog 63 #[.int .i64 (n : Int), .pointer (some ⟨bp, 0, none⟩)] W fun e W' => e = .returned (.bool (!wholeP l (n : Int))) ∧ Upd [] W W'
  have hW := whole64 (h.keep u) n hn
  have kb := cell_of (u.heap hp (by simp)) 0
  have lb := lt_of_heap (u.heap hp (by simp))
  simp only [List.getElem?_toArray, List.getElem?_cons_zero] at kb
  clear hp h hx
  generalize wholeP l (n : Int) = r at hW ⊢
  go_enter Try.func63, Try.ntmps63
  go_wp2_with fail
  refine hW.mono ?_
  rintro e w1 ⟨rfl, u1⟩
  go_wp2_with fail
  go_ret
  exact ⟨rfl, u1⟩
set_option maxRecDepth 100000 in
theorem find61 {bp : Nat} (h : Prg w p A c l bm b vS) (hne : 0 < l.length) (hp : w.heap[bp]? = some (.cells #[.pointer (some ⟨p, 0, none⟩)] 82 (0, 0))) :
    Calls Try.prog 61 #[.pointer (some ⟨bp, 0, none⟩)] w fun e w' => e = .returned (.int .i64 (firstP (fun a => !wholeP l a) l)) ∧ Upd [] w w' := by
  have hF := first62 w _ _ h.blk h.row h.ok h.len hne 63 #[] #[.pointer (some ⟨bp, 0, none⟩)] (enters_of Try.func63 (by kernel_rfl) rfl) _ (notWhole63 h hp)
  have kb := cell_of hp 0
  have lb := lt_of_heap hp
  simp only [List.getElem?_toArray, List.getElem?_cons_zero] at kb
  generalize firstP (fun a => !wholeP l a) l = r at hF ⊢
  clear hp h
  go_enter Try.func61, Try.ntmps61
  go_wp2_with fail
  refine hF.mono ?_
  rintro e w1 ⟨rfl, u1⟩
  go_wp2_with fail
  go_ret
  exact ⟨rfl, u1⟩
set_option maxRecDepth 100000 in
theorem find70 {bp : Nat} (h : Prg w p A c l bm b (.slice AS subs.length cS)) (hs : RowsAt w AS 2 (subs.map encS)) (hl : subs.length ≤ 100000) (hne : 0 < l.length) (hp : w.heap[bp]? = some (.cells #[.pointer (some ⟨p, 0, none⟩)] 82 (0, 0))) :
    Calls Try.prog 70 #[.pointer (some ⟨bp, 0, none⟩)] w fun e w' => e = .returned (.int .i64 (firstP (leavesP l subs) l)) ∧ Upd [] w w' := by
  have hA : Answers w 71 #[.pointer (some ⟨p, 0, none⟩)] #[] (fun x : Int => Value.int .i64 x) (· ∈ allP l) (leavesP l subs) := fun x _ W u => leaves71 (h.keep u) (hs.keep u) hl x
  have hF := first62 w _ _ h.blk h.row h.ok h.len hne 71 #[.pointer (some ⟨p, 0, none⟩)] #[] (enters_of Try.func71 (by kernel_rfl) rfl) _ hA
  have kb := cell_of hp 0
  have lb := lt_of_heap hp
  simp only [List.getElem?_toArray, List.getElem?_cons_zero] at kb
  generalize firstP (leavesP l subs) l = r at hF ⊢
  clear hp h hA hs
  go_enter Try.func70, Try.ntmps70
  go_wp2_with fail
  refine hF.mono ?_
  rintro e w1 ⟨rfl, u1⟩
  go_wp2_with fail
  go_ret
  exact ⟨rfl, u1⟩
end
end Go.Proofs.Ytibghcmkmbamjaa
