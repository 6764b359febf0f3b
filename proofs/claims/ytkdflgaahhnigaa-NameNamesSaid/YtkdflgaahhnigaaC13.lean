/- Texts of package name, for this seat. -/
import Derived.Test.YtkdflgaahhnigaaC12
import Derived.Test.YtkdflgaahhnigaaC6
set_option linter.unusedVariables false
set_option linter.unusedSimpArgs false
namespace Go.Proofs.Ytkdflgaahhnigaa
open Go.RowKit Go.Shelf

def skI (R : RB) (t : ByteArray) (i : Nat) : Int := skV R.soft R.sk R.ss R.db t.data.toList i
theorem skI_nat {R : RB} (hg : Good R) (t : ByteArray) (i : Nat) : skI R t i = (SA R.soft R.sk.toNat R.ss.toNat R.db.toNat t i : Nat) := by
  obtain ⟨_, _, h3, h4, h5⟩ := hg.cos
  unfold skI SA
  rw [← skV_nat, Int.toNat_of_nonneg h3.1, Int.toNat_of_nonneg h4.1, Int.toNat_of_nonneg h5.1]
end Go.Proofs.Ytkdflgaahhnigaa
