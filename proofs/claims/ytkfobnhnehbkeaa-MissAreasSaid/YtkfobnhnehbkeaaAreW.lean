/- MissAreas: the walk, at a byte as it comes in. -/
import Derived.Test.YtkfobnhnehbkeaaAre
set_option linter.unusedVariables false
set_option linter.unusedSimpArgs false
namespace Go.Proofs.Ytkfobnhnehbkeaa
open Go.RowKit Go.Shelf
theorem MissAreas_walk' (ad : Option Addr) (g o cap : Nat) (l : List A4) (L M S F n d b : Int) (w : World) (had : l ≠ [] → ad = some ⟨g, o, none⟩) (hnil : ad = none → cap = 0) (hg : l ≠ [] → g < w.heap.size) (ha : AreasAt w g o l) (hb : (Lit.int .u8 b).wf = true) :
    Calls Try.prog 15 #[.slice ad l.length cap, areaV L M S F, fracV n d, .int .u8 b] w fun e w' => e = .returned (.bool true) ∧ Below w.heap.size w w' := by
  have h1 : 0 ≤ b ∧ b ≤ 255 := by simp [Lit.wf] at hb; exact hb
  obtain ⟨k, rfl⟩ : ∃ k : Nat, b = (k : Int) := ⟨b.toNat, by omega⟩
  exact MissAreas_walk ad g o cap l.length l L M S F n d k (by omega) w rfl had hnil hg ha
end Go.Proofs.Ytkfobnhnehbkeaa
