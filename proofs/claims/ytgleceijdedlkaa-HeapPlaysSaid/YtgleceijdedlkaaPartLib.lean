/- A part of a slice of rows appended to a slice that grows. -/
import Derived.Test.YtgleceijdedlkaaSepLib
import Derived.Laws.OwnMore
namespace Go.Proofs.Ytgleceijdedlkaa
open Go.RowKit Go.MapKept Go.ChangeMaps
set_option linter.unusedVariables false
set_option linter.unusedSimpArgs false
set_option linter.unusedSectionVars false
theorem flatten_inv {k : Nat} : ∀ {l : List (List Value)}, (∀ r ∈ l, r.length = k) → ∀ {j : Nat} {u : Value}, l.flatten[j]? = some u → ∃ i r row, j = i * k + r ∧ l[i]? = some row ∧ row[r]? = some u
  | [], _, j, u, h => by simp at h
  | x :: l, h, j, u, hj => by
    have hx : x.length = k := h x (by simp)
    rw [List.flatten_cons] at hj
    by_cases hlt : j < x.length
    · rw [List.getElem?_append_left hlt] at hj
      exact ⟨0, j, x, by simp, rfl, hj⟩
    · rw [List.getElem?_append_right (by omega)] at hj
      obtain ⟨i, r, row, e, h1, h2⟩ := flatten_inv (fun r hr => h r (by simp [hr])) hj
      exact ⟨i + 1, r, row, by rw [Nat.add_mul]; omega, by simpa using h1, h2⟩
theorem flatten_len {k : Nat} : ∀ {l : List (List Value)}, (∀ r ∈ l, r.length = k) → l.flatten.length = l.length * k
  | [], _ => by simp
  | x :: l, h => by
    have hx : x.length = k := h x (by simp)
    rw [List.flatten_cons, List.length_append, flatten_len (fun r hr => h r (by simp [hr])), List.length_cons, Nat.add_mul]
    omega
/-- A slice value that reads as rows; a nil one is nil. -/
def PartAt (w : World) (v : Value) (k : Nat) (l : List (List Value)) : Prop := ∃ A c, v = .slice A l.length c ∧ RowsAt w A k l ∧ (A = none → c = 0)
theorem PartAt.keep {w w' : World} {v : Value} {k : Nat} {l : List (List Value)} (h : PartAt w v k l) (u : Upd [] w w') : PartAt w' v k l := by
  obtain ⟨A, c, h1, h2, h3⟩ := h
  exact ⟨A, c, h1, h2.keep u, h3⟩
section
variable {P : Program} {w0 w : World} {KK : List (Nat × Obj)} {T : Res}
theorem run_append_part (t ty e : TypeId) (i : TypeInfo) (z : Value) (k bytes : Nat) (ht : P.underlying t = some (.slice e)) (hi : P.info? e = some i) (hz : i.zero = some z)
    (hsize : i.size = k) (hby : i.bytes = bytes) (hzs : z.cells.size = k) (hk : 0 < k) [Good T]
    (v : Value) (l : List (List Value)) (H : SepK w0 w KK (star (rowR e k v l) T)) (s : Value) (l2 : List (List Value)) (hs : PartAt w s k l2) (hr : ∀ r ∈ l2, r.length = k) (h1 : ∀ r ∈ l2, ∀ u ∈ r, u.oneCell' = true)
    (h63 : l.length + l2.length ≤ maxLen) (hbytes : (l.length + l2.length) * bytes ≤ 140737488355328) :
    ∃ v' w', (Builtin.append_ #[t, t] ty #[v, s]).run P w = .ok v' w' ∧ SepK w0 w' KK (star (rowR e k v' (l ++ l2)) T) := by
  have hown : w.ownsRow 0 e k v l.length l.flatten := by
    obtain ⟨N, hN, _⟩ := H.get
    exact hN
  obtain ⟨A, c, rfl, hA, hc⟩ := hs
  cases A with
  | none =>
    have hl2 : l2 = [] := by
      cases l2 with
      | nil => rfl
      | cons r l2 =>
        obtain ⟨b, off, e, _⟩ := hA 0 r rfl
        cases e
    subst hl2
    rw [hc rfl]
    refine ⟨v, w, run_append_owned_none (P := P) w 0 t ty e i k ht hi v l.length l.flatten hown, ?_⟩
    rw [List.append_nil]
    exact H
  | some a =>
    obtain ⟨v', w', hrun, h2, h3, h4, h5⟩ := run_append_own_at (P := P) w 0 t ty e i z k bytes ht hi hz hsize hby hzs hk v l.length l.flatten hown a l2.length c l2.flatten (flatten_len hr) (fun j u hj => by
        obtain ⟨i', r, row, e1, e2, e3⟩ := flatten_inv hr hj
        obtain ⟨b, off, e4, hc'⟩ := hA i' row e2
        cases e4
        rw [addr_add, e1]
        have := hc' r u e3
        rwa [Nat.add_assoc] at this) (fun u hu => by
        obtain ⟨r, hr', hu'⟩ := List.mem_flatten.1 hu
        exact h1 r hr' u hu') h63 hbytes (Nat.zero_le _)
    refine ⟨v', w', hrun, H.step fun N hR hN => ?_⟩
    obtain ⟨g1, g2, g3⟩ := hR
    refine ⟨⟨by simpa using h2, fun y hy => ?_, fun g hg => ?_⟩, ?_⟩
    · rcases List.mem_append.1 hy with hy | hy
      · exact g2 y hy
      · exact hr y hy
    · rcases h5 with h5 | h5
      · exact g3 g (h5 ▸ hg)
      · rw [h5] at hg
        cases hg
        exact hN _ (Nat.le_refl _)
    · cases hv : v.ownBlock with
      | none => exact .of ⟨h3.os, h3.tape, h3.output, h3.size, fun k hk _ => h3.block k hk (by rw [hv]; simp)⟩
      | some g => exact .of1 (.of_grown (hv ▸ h3)) (g3 g hv)
theorem wl_part {ops : Array Oper} {rest : List Oper} {o : Oper} {a : Act} {Q : Exit → Act → World → Prop} [Good T] (hgd : o.guard = none) (s x : Operand) (t : TypeId)
    (ho : o.op = .call { callee := .builtin .append, args := #[s, x], argTypes := #[t, t] })
    (e : TypeId) (i : TypeInfo) (z : Value) (k bytes : Nat) (ht : P.underlying t = some (.slice e)) (hi : P.info? e = some i) (hz : i.zero = some z)
    (hsize : i.size = k) (hby : i.bytes = bytes) (hzs : z.cells.size = k) (hk : 0 < k)
    (v : Value) (l : List (List Value)) (hs : a.eval s = v) (H : SepK w0 w KK (star (rowR e k v l) T))
    (y : Value) (l2 : List (List Value)) (hx : a.eval x = y) (hp : PartAt w y k l2) (hr : ∀ r ∈ l2, r.length = k) (h1 : ∀ r ∈ l2, ∀ u ∈ r, u.oneCell' = true)
    (h63 : l.length + l2.length ≤ maxLen) (hbytes : (l.length + l2.length) * bytes ≤ 140737488355328)
    (h : ∀ v' w', SepK w0 w' KK (star (rowR e k v' (l ++ l2)) T) → wpList P ops Q rest (a.put o.dst v') w') : wpList P ops Q (o :: rest) a w := by
  refine wpList_plain hgd fun K hK => ?_
  obtain ⟨v', w', hr, H'⟩ := run_append_part (P := P) t o.type e i z k bytes ht hi hz hsize hby hzs hk v l H y l2 hp hr h1 h63 hbytes
  unfold Oper.wp execOp
  simp only [ho, resolve, invoke, builtin, Sem.run_bind, Sem.run_pure, Result.andThen_ok, List.map_toArray, List.map_cons, List.map_nil, hs, hx, hr]
  exact hK _ _ (h v' w' H')
/-- How a row looks: the first ones of it, the last ones. -/
theorem SepK.parts {e : TypeId} {k : Nat} {v : Value} {l : List (List Value)} (h : SepK w0 w KK (star (rowR e k v l) T)) :
    ∃ A c, v = .slice A l.length c ∧ RowsAt w A k l ∧ l.length ≤ c ∧ c ≤ maxLen ∧ (A = none → c = 0) := by
  obtain ⟨N, h1, h2, h3⟩ := h.get
  have hlook := rowR_look ⟨h1, h2, h3⟩
  rcases h1.2 with ⟨rfl, hn⟩ | ⟨g, cap, cur, rfl, _, hg, hc, hm, _⟩
  · obtain ⟨A, c, e, hr⟩ := hlook
    simp only [Value.slice.injEq] at e
    obtain ⟨rfl, -, rfl⟩ := e
    exact ⟨none, 0, by rw [hn], hr, by omega, by unfold maxLen; omega, fun _ => rfl⟩
  · obtain ⟨A, c, e, hr⟩ := hlook
    simp only [Value.slice.injEq] at e
    obtain ⟨rfl, -, rfl⟩ := e
    exact ⟨_, _, rfl, hr, hc, hm, fun e => by cases e⟩
theorem part_take {A : Option Addr} {k m c : Nat} {l : List (List Value)} (hr : RowsAt w A k l) (hm : m ≤ l.length) (hc : A = none → c = 0) : PartAt w (.slice A m c) k (l.take m) := by
  have e : (l.take m).length = m := by simp; omega
  refine ⟨A, c, by rw [e], fun i r hi => ?_, hc⟩
  rw [List.getElem?_take] at hi
  split at hi
  · exact hr i r hi
  · cases hi
theorem part_drop {A : Option Addr} {k m c : Nat} {l : List (List Value)} (hr : RowsAt w A k l) (hm : m ≤ l.length) (hlc : l.length ≤ c) (hc : A = none → c = 0) : PartAt w (.slice (if c = m then A else A.map fun a => a.add (m * k)) (l.length - m) (c - m)) k (l.drop m) := by
  have e : (l.drop m).length = l.length - m := by simp
  refine ⟨_, _, by rw [e], fun i r hi => ?_, fun h => ?_⟩
  · rw [List.getElem?_drop] at hi
    have hlt := (List.getElem?_eq_some_iff.1 hi).1
    obtain ⟨b, off, hA, hcell⟩ := hr (m + i) r hi
    rw [if_neg (by omega), hA]
    refine ⟨b, off + m * k, by simp [addr_add], fun j v hj => ?_⟩
    have := hcell j v hj
    rw [Nat.add_mul] at this
    rwa [show off + m * k + i * k + j = off + (m * k + i * k) + j by omega]
  · split at h
    · rename_i e2
      omega
    · cases A with
      | none => have := hc rfl; omega
      | some a => cases h
end
end Go.Proofs.Ytgleceijdedlkaa
