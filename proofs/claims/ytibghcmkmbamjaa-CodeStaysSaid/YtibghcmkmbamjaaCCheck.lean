/- code: Check. -/
import Derived.Test.YtibghcmkmbamjaaCBegin
import Derived.Test.YtibghcmkmbamjaaCReach
import Derived.Test.YtibghcmkmbamjaaCFind
import Derived.Test.YtibghcmkmbamjaaCDiv
import Derived.Test.YtibghcmkmbamjaaCLoop
import Derived.Test.YtibghcmkmbamjaaGNext
namespace Go.Proofs.Ytibghcmkmbamjaa
open Go.RowKit Go.Shelf
set_option linter.unusedVariables false
set_option linter.unusedSimpArgs false
set_option linter.unusedSectionVars false
theorem store_func (a : Addr) (f : Fn) (r : Array Value) (cs : Array Value) (m : Mode) (w : World) : (store a (.func f r cs) m).run Try.prog w = stored Try.prog w a (.func f r cs) m := run_store Try.prog w a _ m rfl
section
variable {w : World} {c : Nat} {A : Option Addr} {l : List Ins}
set_option maxRecDepth 100000 in
theorem check33_nil (c : Nat) (A : Option Addr) (w : World) : Calls Try.prog 33 #[.slice A 0 c] w fun e w' => e = .returned (.tuple #[.slice none 0 0, .int .i64 0, .int .i64 2]) ∧ Upd [] w w' := by
  have U := (Upd.refl [] w).alloc (.cells #[.slice A 0 c] 43)
  go_enter Try.func33, Try.ntmps33
  go_wp2_with fail
  refine bodyPost_ret (v := .tuple #[.slice none 0 0, .int .i64 0, .int .i64 2]) (by simp [results, Try.results33, go_sem]) rfl ⟨rfl, U⟩
set_option maxRecDepth 100000 in
theorem check33_long (n : Nat) (h : 1024 < n) (c : Nat) (A : Option Addr) (w : World) : Calls Try.prog 33 #[.slice A n c] w fun e w' => e = .returned (.tuple #[.slice none 0 0, .int .i64 1024, .int .i64 4]) ∧ Upd [] w w' := by
  have z0 : ((n : Int) == 0) = false := by simp; omega
  have z1 : decide ((1024 : Int) < (n : Int)) = true := decide_eq_true (by omega)
  have U := (Upd.refl [] w).alloc (.cells #[.slice A n c] 43)
  go_enter Try.func33, Try.ntmps33
  go_wp2_with fail
  refine bodyPost_ret (v := .tuple #[.slice none 0 0, .int .i64 1024, .int .i64 4]) (by simp [results, Try.results33, go_sem]) rfl ⟨rfl, U⟩
end
section
variable {w0 w : World} {p c bm bp : Nat} {A : Option Addr} {l : List Ins} {b : List Int} {K : List (Nat × Obj)} {T : Res} [Good T]
/-- What Check's third part finds. -/
def manyP (l : List Ins) : Int := if 32 < (subsP l).length then ((subsP l)[32]?.getD (0, 0)).1 else -1
set_option maxRecDepth 100000 in
set_option maxHeartbeats 4000000 in
theorem find68 (h : Prg w p A c l bm b (.slice none 0 0)) (HS : SepK w0 w ((p, .cells #[.slice A l.length c, .map (some bm), .slice none 0 0] 85) :: K) T) (hpK : ∀ q ∈ K, q.1 ≠ p) (hne : 0 < l.length) (hp : (bp, .cells #[.pointer (some ⟨p, 0, none⟩)] 82) ∈ K) (hsl : (subsP l).length ≤ 2000) :
    Calls Try.prog 68 #[.pointer (some ⟨bp, 0, none⟩)] w fun e w' => ∃ v', e = .returned (.int .i64 (manyP l)) ∧ SepK w0 w' ((p, .cells #[.slice A l.length c, .map (some bm), v'] 85) :: K) (star (rowR 53 2 v' ((subsP l).map encS)) T) := by
  have hd := divides69 h HS hpK hne
  have hbp := HS.blk (b := bp) (List.mem_cons_of_mem _ hp)
  have cb := cell_of hbp 0
  have lb := lt_of_heap hbp
  simp only [List.getElem?_toArray, List.getElem?_cons_zero] at cb
  clear h HS hbp
  unfold manyP
  generalize subsP l = ss at hd hsl ⊢
  obtain ⟨r, hr0⟩ : ∃ r, (if 32 < ss.length then (ss[32]?.getD (0, 0)).1 else -1) = r := ⟨_, rfl⟩
  rw [hr0]
  have HR : Unit → (if 32 < ss.length then (ss[32]?.getD (0, 0)).1 else -1) = r := fun _ => hr0
  clear hr0
  go_enter Try.func68, Try.ntmps68
  go_wp2_with fail
  refine hd.mono ?_
  rintro e w2 ⟨v', rfl, H⟩
  obtain ⟨A2, c2, rfl, hr⟩ := H.row
  rw [List.length_map] at H
  have hb2 := H.blk (b := bp) (List.mem_cons_of_mem _ hp)
  have cb2 := cell_of hb2 0
  have lb2 := lt_of_heap hb2
  have hp2 := H.blk (List.mem_cons_self)
  have cp2 := cell_of hp2 2
  have lp2 := lt_of_heap hp2
  simp only [List.getElem?_toArray, List.getElem?_cons_zero, List.getElem?_cons_succ, List.length_map] at cb2 cp2
  clear hb2 hp2 hd cb lb
  by_cases h32 : 32 < ss.length
  · have z1 : decide ((32 : Int) < (ss.length : Int)) = true := decide_eq_true (by omega)
    have z2 : (32 : Int) < (ss.length : Int) := by omega
    obtain ⟨s, hs⟩ : ∃ s, ss[32]? = some s := ⟨ss[32], List.getElem?_eq_getElem h32⟩
    obtain ⟨b9, o9, rfl, k0, k1⟩ := cellS hr hs
    have hres : Unit → s.1 = r := fun _ => by rw [← HR (), if_pos h32, hs]; rfl
    clear hs hr h32
    simp only [Nat.reduceMul] at k0 k1
    go_wp2_with fail
    go_ret
    exact ⟨_, by rw [← hres ()]; rfl, H⟩
  · have hres : Unit → -1 = r := fun _ => by rw [← HR (), if_neg h32]
    have z1 : decide ((32 : Int) < (ss.length : Int)) = false := decide_eq_false (by omega)
    clear hr h32
    go_wp2_with fail
    go_ret
    exact ⟨_, by rw [← hres ()]; rfl, H⟩
end
end Go.Proofs.Ytibghcmkmbamjaa
