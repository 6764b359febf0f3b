/- tithingtop: TopMissed, as it is called. -/
import Derived.Test.YtdfebccmjbocjaaGreatDoorXc
import Derived.Test.YtdfebccmjbocjaaGreatDoorXd
set_option linter.unusedVariables false
set_option linter.unusedSimpArgs false
namespace Go.Proofs.YtdfebccmjbocjaaGreatDoor
open Go.RowKit Go.Shelf
theorem TopMissed_walk0 (a a2 : Option Addr) (g o c m g2 o2 c2 m2 : Nat) (ws lots : List Nat) (x n d : Int) (w : World) (hW : U16K w a g o m ws) (hL : U16K w a2 g2 o2 m2 lots) (hx : (Lit.int .u8 x).wf = true) (hm : m ≤ 9223372036854775807) (hm2 : m2 ≤ 9223372036854775807) (hG : Gd w) :
    Calls Tryz.prog 4 #[.slice a m c, .int .u8 x, .slice a2 m2 c2, .agg #[.int .i64 n, .int .i64 d]] w fun e w' => e = .returned (.bool true) ∧ Below w.heap.size w w' := by
  have h2 : IntKind.u8.min ≤ x ∧ x ≤ IntKind.u8.max := by simpa [Lit.wf] using hx
  have h3 : IntKind.u8.min = 0 := rfl
  have h4 : IntKind.u8.max = 255 := rfl
  obtain ⟨k, rfl⟩ := Int.eq_ofNat_of_zero_le (by omega : 0 ≤ x)
  exact TopMissed_walk a a2 g o c m g2 o2 c2 m2 ws lots k n d w hW hL (by omega) hm hm2 hG
end Go.Proofs.YtdfebccmjbocjaaGreatDoor
