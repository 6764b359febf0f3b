/- MissAreas: plain laws: the results of Total for a list, one with one more, a rotated one. -/
import Derived.Test.YtkfobnhnehbkeaaRota
import Derived.Test.YtkfobnhnehbkeaaMiss1
set_option linter.unusedVariables false
set_option linter.unusedSimpArgs false
namespace Go.Proofs.Ytkfobnhnehbkeaa
open Go.RowKit

def resS : Option (Nat × Nat) → Nat × Nat × Nat
  | none => (0, 0, 9)
  | some r => (r.1, r.2, 0)
theorem totRes_ok {xs : List A4} {n d : Int} (h6 : xs.length ≤ 6) (hok : xs.all A4.ok = true) (hl : levB n d = true) : totRes xs n d = resS (totS n.toNat d.toNat xs) := by
  unfold totRes
  rw [if_neg (by omega), if_neg (by rw [hok]; simp), if_neg (by rw [hl]; simp)]
  cases totS n.toNat d.toNat xs <;> rfl
theorem totS_one (n d : Nat) (a : A4) : totS n d [a] = rangeA n d a := by
  have h := totS_more n d [] a
  rw [List.nil_append] at h
  rw [h]
  exact cmb_zero _
/-- what MissAreas asks of them -/
theorem areas_law {l : List A4} {a : A4} {n d : Int} (h5 : l.length ≤ 5) (hok : l.all A4.ok = true) (ha : a.ok = true) (hl : levB n d = true) (k : Nat) :
    totRes ((l ++ [a]).drop k ++ (l ++ [a]).take k) n d = totRes (l ++ [a]) n d ∧
    totRes (l ++ [a]) n d = resS (cmb (totS n.toNat d.toNat l) (rangeA n.toNat d.toNat a)) ∧
    totRes l n d = resS (totS n.toNat d.toNat l) ∧ totRes [a] n d = resS (rangeA n.toNat d.toNat a) := by
  have hx : (l ++ [a]).all A4.ok = true := by simp [List.all_append, hok, ha]
  have hxl : (l ++ [a]).length ≤ 6 := by simp; omega
  have hy : ((l ++ [a]).drop k ++ (l ++ [a]).take k).length ≤ 6 := by
    rw [List.length_append, List.length_drop, List.length_take]; omega
  refine ⟨?_, ?_, totRes_ok (by omega) hok hl, ?_⟩
  · rw [totRes_ok hy (by rw [ok_rot]; exact hx) hl, totRes_ok hxl hx hl, totS_rot]
  · rw [totRes_ok hxl hx hl, totS_more]
  · rw [totRes_ok (by simp) (by simp [ha]) hl, totS_one]
end Go.Proofs.Ytkfobnhnehbkeaa
