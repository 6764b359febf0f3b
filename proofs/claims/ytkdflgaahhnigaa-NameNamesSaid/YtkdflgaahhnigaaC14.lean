/- Texts of package name, for this seat. -/
import Derived.Test.YtkdflgaahhnigaaC12
import Derived.Test.YtkdflgaahhnigaaC10
set_option linter.unusedVariables false
set_option linter.unusedSimpArgs false
namespace Go.Proofs.Ytkdflgaahhnigaa
open Go.RowKit Go.Shelf

theorem skn_of_row {W : World} {B n : Nat} {v : Value} {l : List ByteArray} (h : W.ownsRow B 9 1 v n (strsV l)) : ∃ a g c, v = .slice a n c ∧ SKn W a g 0 c n l ∧ n ≤ c := by
  obtain ⟨a, g, c, rfl, h2, h3⟩ := sk_of_row h
  refine ⟨a, g, c, rfl, ⟨h3, h2, fun ha => ?_⟩, own_le h⟩
  subst ha
  rcases Joins.ownsRow_forms h with ⟨e, _⟩ | ⟨g2, c2, e⟩
  · cases e; rfl
  · cases e
end Go.Proofs.Ytkdflgaahhnigaa
