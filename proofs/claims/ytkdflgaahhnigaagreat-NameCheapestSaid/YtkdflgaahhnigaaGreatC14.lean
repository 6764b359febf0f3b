/- A copy of a list, told with its place. -/
import Derived.Test.YtkdflgaahhnigaaGreatC12
import Derived.Test.YtkdflgaahhnigaaGreatC10
set_option linter.unusedVariables false
set_option linter.unusedSimpArgs false
namespace Go.Proofs.YtkdflgaahhnigaaGreat
open Go.RowKit Go.Shelf

theorem skn_of_row {W : World} {B n : Nat} {v : Value} {l : List ByteArray} (h : W.ownsRow B 9 1 v n (strsV l)) : ∃ a g c, v = .slice a n c ∧ SKn W a g 0 c n l ∧ n ≤ c := by
  obtain ⟨a, g, c, rfl, h2, h3⟩ := sk_of_row h
  refine ⟨a, g, c, rfl, ⟨h3, h2, fun ha => ?_⟩, own_le h⟩
  subst ha
  rcases Joins.ownsRow_forms h with ⟨e, _⟩ | ⟨g2, c2, e⟩
  · cases e; rfl
  · cases e
theorem list28' (a : Option Addr) (g o c n : Nat) (l : List ByteArray) (w : World) (h : SKn w a g o c n l) (hn : n ≤ 900) : Calls Tryz.prog 28 #[.slice a n c] w fun e w' => ∃ a' g' c', e = .returned (.slice a' n c') ∧ SKn w' a' g' 0 c' n l ∧ n ≤ c' ∧ Below w.heap.size w w' :=
  (list28 a g o c n l w h hn).mono fun e w' ⟨v, he, hv, hb⟩ => by
    obtain ⟨a', g', c', rfl, h2, h3⟩ := skn_of_row hv
    exact ⟨a', g', c', he, h2, h3, hb⟩
end Go.Proofs.YtkdflgaahhnigaaGreat
