/- owns: one field fewer, plain words; a table's rows. -/
import Derived.Test.YtojjjkeciiieeaaOOpen2
namespace Go.Proofs.Ytojjjkeciiieeaa
open Go.RowKit Go.ChangeShapes Go.WideShapes Go.ChangeAt
set_option linter.unusedVariables false
set_option linter.unusedSimpArgs false
set_option linter.unusedSectionVars false
theorem few_adj {t : Tab} {x : Nat} {ty : Ty} (hx : t[x]? = some ty) (f : Nat) (i k : Int) (hk : k ∈ adj (t.set x ⟨ty.name, ty.size, ty.fs.take f ++ ty.fs.drop (f + 1)⟩) i) : k ∈ adj t i := by
  have hal := (List.getElem?_eq_some_iff.1 hx).1
  rw [mem_adj, List.length_set, fieldsOf_set hal] at hk
  rw [mem_adj]
  obtain ⟨h1, g, hg, h2⟩ := hk
  refine ⟨h1, g, ?_, h2⟩
  split at hg
  · rename_i e
    subst e
    rw [fieldsOf_at hx]
    rcases List.mem_append.1 hg with hg | hg
    · exact List.mem_of_mem_take hg
    · exact List.mem_of_mem_drop hg
  · exact hg
theorem Fine.less {f g : Int → List Int} (hm : ∀ i k, k ∈ f i → k ∈ g i) {i : Int} (h : Fine g i) : Fine f i := ⟨fun hr => h.1 (hr.mono hm), fun k hk hr => h.2 k (hk.mono hm) (hr.mono hm)⟩
theorem dep_less {f g : Int → List Int} (hm : ∀ i k, k ∈ f i → k ∈ g i) : ∀ (n : Nat) (i : Int), dep f n i ≤ dep g n i
  | 0, i => Nat.le_refl _
  | n + 1, i => mxs_bound fun a ha => by
    obtain ⟨k, hk, rfl⟩ := List.mem_map.1 ha
    have h1 := dep_less hm n k
    have h2 := mxs_le (List.mem_map.2 ⟨k, hm i k hk, rfl⟩ : dep g n k ∈ (g i).map (dep g n))
    show _ ≤ mxs ((g i).map (dep g n))
    omega
theorem tab_rows {w : World} {A : Option Addr} {c : Nat} {t : Tab} (h : TabAt w (.slice A t.length c) t) : ∃ rows, TabRows w rows t ∧ RowsAt w A 3 rows ∧ (∀ r ∈ rows, r.length = 3) ∧ (∀ r ∈ rows, ∀ u ∈ r, u.oneCell' = true) := by
  obtain ⟨A', c', e, h⟩ := h
  simp only [Value.slice.injEq] at e
  obtain ⟨rfl, -, rfl⟩ := e
  obtain ⟨rows, hlen, hr⟩ := exists_list (α := List Value) (fun i r => ∃ ty Af cf b off, t[i]? = some ty ∧ r = tyRow ty (.slice Af ty.fs.length cf) ∧ RowsAt w Af 5 (ty.fs.map encF) ∧ A = some ⟨b, off, none⟩ ∧ (∀ j v, r[j]? = some v → w.cell? ⟨b, off + i * 3 + j, none⟩ = some v)) t.length (fun i hi => by
    obtain ⟨ty, hty⟩ : ∃ ty, t[i]? = some ty := ⟨_, List.getElem?_eq_getElem hi⟩
    obtain ⟨b, off, Af, cf, h1, h2, h3, h4, h5⟩ := h i ty hty
    refine ⟨_, ty, Af, cf, b, off, hty, rfl, h5, h1, fun j v hj => ?_⟩
    match j, hj with
    | 0, hj => cases hj; exact h2
    | 1, hj => cases hj; exact h3
    | 2, hj => cases hj; exact h4)
  have hat : ∀ (i : Nat) r, rows[i]? = some r → ∃ ty Af cf b off, t[i]? = some ty ∧ r = tyRow ty (.slice Af ty.fs.length cf) ∧ RowsAt w Af 5 (ty.fs.map encF) ∧ A = some ⟨b, off, none⟩ ∧ (∀ j v, r[j]? = some v → w.cell? ⟨b, off + i * 3 + j, none⟩ = some v) := fun i r hi => hr i r hi
  refine ⟨rows, ⟨hlen, fun i ty hty => ?_⟩, fun i r hi => ?_, fun r hr' => ?_, fun r hr' u hu => ?_⟩
  · have hi := (List.getElem?_eq_some_iff.1 hty).1
    obtain ⟨r, hri⟩ : ∃ r, rows[i]? = some r := ⟨_, List.getElem?_eq_getElem (by omega)⟩
    obtain ⟨ty', Af, cf, b, off, g1, rfl, g3, _⟩ := hat i r hri
    rw [hty] at g1
    cases g1
    exact ⟨Af, cf, hri, g3⟩
  · obtain ⟨ty', Af, cf, b, off, g1, g2, g3, g4, g5⟩ := hat i r hi
    exact ⟨b, off, g4, g5⟩
  · obtain ⟨i, hi⟩ := List.mem_iff_getElem?.1 hr'
    obtain ⟨ty', Af, cf, b, off, g1, rfl, g3, _⟩ := hat i r hi
    rfl
  · obtain ⟨i, hi⟩ := List.mem_iff_getElem?.1 hr'
    obtain ⟨ty', Af, cf, b, off, g1, rfl, g3, _⟩ := hat i r hi
    simp [tyRow] at hu
    rcases hu with rfl | rfl | rfl <;> rfl
theorem star_tail {R T : Res} [Good T] {w : World} {N : Nat → Prop} (h : star R T w N) : T w N := by
  obtain ⟨A, B, h1, h2, h3, h4, h5⟩ := h
  exact Good.mono h2 fun b _ hb => h4 b hb
theorem step_append_run {P : Program} {ops : Array Oper} {o : Oper} {a : Act} {w : World} {K : Act → World → Prop} {Q : Exit → Act → World → Prop} {E : Prop}
    (hg : o.guard = none) (s x : Operand) (t : TypeId) (hop : o.op = Op.call { callee := Callee.builtin Builtin.append, args := #[s, x], argTypes := #[t, t] })
    (v y : Value) (hs : a.eval s = v) (hx : a.eval x = y) (v' : Value) (w' : World) (hrun : (Builtin.append_ #[t, t] o.type #[v, y]).run P w = .ok v' w') (hK : K (a.put o.dst v') w') :
    if Region.wanted o (yielded ops a.tmps) = true then Oper.wp P o a w K Q else E := by
  have hw : Region.wanted o (yielded ops a.tmps) = true := by simp [Region.wanted, hg]
  rw [if_pos hw]
  unfold Oper.wp execOp
  simp only [hop, resolve, invoke, builtin, Sem.run_bind, Sem.run_pure, Result.andThen_ok, List.map_toArray, List.map_cons, List.map_nil, hs, hx, hrun]
  exact hK
end Go.Proofs.Ytojjjkeciiieeaa
