/- Maps whose keys are texts. -/
import Derived.Test.YtagjcnhgappcjaaSepLib
import Derived.Maps.Keyed
namespace Go.Proofs.Ytagjcnhgappcjaa
open Go.RowKit
set_option linter.unusedVariables false
set_option linter.unusedSimpArgs false
def okS8 (s : ByteArray) : Prop := s.size ≤ maxLen
theorem kops_string {P : Program} {k : TypeId} (hk : P.underlying k = some .string) : Kops P k Value.string okS8 :=
  Kops.of (Maps.string_keyed hk) (fun _ _ h => by cases h; rfl) (fun x hx => ⟨.string x.data.toList, by simp [keyOf, mapKey, hk]; exact hx⟩)
end Go.Proofs.Ytagjcnhgappcjaa
