/- The sum of the ranges does not depend on the order of the areas. -/
import Derived.Test.YtkfobnhnehbkeaaTotal
set_option linter.unusedVariables false
set_option linter.unusedSimpArgs false
namespace Go.Proofs.Ytkfobnhnehbkeaa
open Go.RowKit

def cmb : Option (Nat × Nat) → Option (Nat × Nat) → Option (Nat × Nat)
  | some a, some b => some (a.1 + b.1, a.2 + b.2)
  | _, _ => none
theorem cmb_comm (a b : Option (Nat × Nat)) : cmb a b = cmb b a := by
  cases a <;> cases b <;> simp [cmb, Nat.add_comm]
theorem cmb_assoc (a b c : Option (Nat × Nat)) : cmb (cmb a b) c = cmb a (cmb b c) := by
  cases a <;> cases b <;> cases c <;> simp [cmb, Nat.add_assoc]
theorem cmb_zero (a : Option (Nat × Nat)) : cmb (some (0, 0)) a = a := by
  cases a <;> simp [cmb]
theorem totStep_cmb (n d : Nat) (s : Option (Nat × Nat)) (a : A4) : totStep n d s a = cmb s (rangeA n d a) := by
  unfold totStep cmb
  cases s <;> cases rangeA n d a <;> rfl
theorem foldl_cmb (n d : Nat) : ∀ (xs : List A4) (s : Option (Nat × Nat)), xs.foldl (totStep n d) s = cmb s (totS n d xs)
  | [], s => by rw [cmb_comm]; exact (cmb_zero s).symm
  | x :: xs, s => by
    rw [List.foldl_cons, foldl_cmb n d xs, totStep_cmb, cmb_assoc]
    congr 1
    show _ = List.foldl (totStep n d) (totStep n d (some (0, 0)) x) xs
    rw [foldl_cmb n d xs, totStep_cmb, cmb_zero]
theorem totS_append (n d : Nat) (xs ys : List A4) : totS n d (xs ++ ys) = cmb (totS n d xs) (totS n d ys) := by
  conv => lhs; unfold totS
  rw [List.foldl_append, foldl_cmb n d ys]; rfl
theorem totS_rot (n d k : Nat) (xs : List A4) : totS n d (xs.drop k ++ xs.take k) = totS n d xs := by
  rw [totS_append, cmb_comm, ← totS_append, List.take_append_drop]
theorem totS_more (n d : Nat) (xs : List A4) (a : A4) : totS n d (xs ++ [a]) = cmb (totS n d xs) (rangeA n d a) := by
  rw [totS_snoc, totStep_cmb]
theorem ok_rot (k : Nat) (xs : List A4) : (xs.drop k ++ xs.take k).all A4.ok = xs.all A4.ok := by
  rw [List.all_append, Bool.and_comm, ← List.all_append, List.take_append_drop]
end Go.Proofs.Ytkfobnhnehbkeaa
