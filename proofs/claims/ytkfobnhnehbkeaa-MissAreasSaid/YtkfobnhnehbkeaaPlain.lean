/- Folds over lists of numbers: the likely ones, the range. No program in sight. -/
import Derived.Test.YtkfobnhnehbkeaaMath
namespace Mis
/-- one number more is looked at -/
def scanStep (num den : Nat → Nat) (s : (Nat × Nat) × List Nat) (n : Nat) : (Nat × Nat) × List Nat :=
  let b := if lower s.1.1 s.1.2 (num n) (den n) then (num n, den n) else s.1
  let o := if lower s.1.1 s.1.2 (num n) (den n) then [] else s.2
  (b, if decide (0 < num n) && !lower (num n) (den n) b.1 b.2 then o ++ [n] else o)
def scanL (num den : Nat → Nat) (l : List Nat) : (Nat × Nat) × List Nat := l.foldl (scanStep num den) ((0, 1), [])
theorem scanL_snoc (num den : Nat → Nat) (l : List Nat) (x : Nat) : scanL num den (l ++ [x]) = scanStep num den (scanL num den l) x := by simp [scanL]
theorem scanL_range (num den : Nat → Nat) : ∀ n, scanL num den (List.range n) = scan num den n
  | 0 => rfl
  | n+1 => by rw [List.range_succ, scanL_snoc, scanL_range num den n]; rfl
/-- the best so far is higher than x: x replaces all -/
theorem scanStep_new {num den : Nat → Nat} {s : (Nat × Nat) × List Nat} {n : Nat} (h : lower s.1.1 s.1.2 (num n) (den n) = true) (hp : 0 < num n) : scanStep num den s n = ((num n, den n), [n]) := by
  simp [scanStep, h, hp, lower_self]
theorem scanStep_same {num den : Nat → Nat} {s : (Nat × Nat) × List Nat} {n : Nat} (h : lower s.1.1 s.1.2 (num n) (den n) = false) (hp : 0 < num n) (hl : lower (num n) (den n) s.1.1 s.1.2 = false) : scanStep num den s n = (s.1, s.2 ++ [n]) := by
  simp [scanStep, h, hp, hl]
theorem scanStep_less {num den : Nat → Nat} {s : (Nat × Nat) × List Nat} {n : Nat} (h : lower s.1.1 s.1.2 (num n) (den n) = false) (hl : lower (num n) (den n) s.1.1 s.1.2 = true) : scanStep num den s n = s := by
  simp [scanStep, h, hl]
theorem scanStep_none {num den : Nat → Nat} {s : (Nat × Nat) × List Nat} {n : Nat} (h : lower s.1.1 s.1.2 (num n) (den n) = false) (hp : num n = 0) : scanStep num den s n = s := by
  unfold scanStep
  rw [h]
  simp [hp]
theorem scanL_bound {num den : Nat → Nat} {B : Nat} (hB : 1 ≤ B) : ∀ (l : List Nat), (∀ x, x ∈ l → num x ≤ B ∧ den x ≤ B) → (scanL num den l).1.1 ≤ B ∧ (scanL num den l).1.2 ≤ B ∧ (scanL num den l).2.length ≤ l.length ∧ ∀ x, x ∈ (scanL num den l).2 → x ∈ l := by
  intro l
  suffices h : ∀ (r : List Nat), r <+: l → (∀ x, x ∈ r → num x ≤ B ∧ den x ≤ B) → (scanL num den r).1.1 ≤ B ∧ (scanL num den r).1.2 ≤ B ∧ (scanL num den r).2.length ≤ r.length ∧ ∀ x, x ∈ (scanL num den r).2 → x ∈ r from h l (List.prefix_refl l)
  intro r _
  -- by the last element
  have : ∀ (n : Nat) (r : List Nat), r.length = n → (∀ x, x ∈ r → num x ≤ B ∧ den x ≤ B) → (scanL num den r).1.1 ≤ B ∧ (scanL num den r).1.2 ≤ B ∧ (scanL num den r).2.length ≤ r.length ∧ ∀ x, x ∈ (scanL num den r).2 → x ∈ r := by
    intro n
    induction n with
    | zero =>
      intro r hr _
      obtain rfl := List.length_eq_zero_iff.1 hr
      simp [scanL]; omega
    | succ n ih =>
      intro r hr hx
      obtain ⟨q, y, rfl⟩ : ∃ q y, r = q ++ [y] := by
        rcases List.eq_nil_or_concat r with h | ⟨q, y, h⟩
        · subst h; simp at hr
        · exact ⟨q, y, by simpa using h⟩
      obtain ⟨i1, i2, i3, i4⟩ := ih q (by simpa using hr) (fun x h => hx x (by simp [h]))
      have hy := hx y (by simp)
      rw [scanL_snoc]
      generalize scanL num den q = s at *
      unfold scanStep
      simp only []
      split
      · split
        · refine ⟨hy.1, hy.2, by simp, fun x h => by simp at h; simp [h]⟩
        · refine ⟨hy.1, hy.2, by simp, fun x h => by simp at h⟩
      · split
        · refine ⟨i1, i2, by simp; exact i3, fun x h => ?_⟩
          rcases List.mem_append.1 h with h | h
          · exact List.mem_append_left _ (i4 x h)
          · exact List.mem_append_right _ h
        · exact ⟨i1, i2, by simp; omega, fun x h => List.mem_append_left _ (i4 x h)⟩
  exact this r.length r rfl
/-- the range of the numbers that p holds of, over a list that rises -/
def rngStep (p : Nat → Bool) (s : Option (Nat × Nat)) (n : Nat) : Option (Nat × Nat) := if p n then some (match s with | none => n | some r => r.1, n) else s
def rngL (p : Nat → Bool) (l : List Nat) : Option (Nat × Nat) := l.foldl (rngStep p) none
theorem rngL_snoc (p : Nat → Bool) (l : List Nat) (x : Nat) : rngL p (l ++ [x]) = rngStep p (rngL p l) x := by simp [rngL]
theorem rngL_range (p : Nat → Bool) : ∀ n, rngL p (List.range n) = rng p n
  | 0 => rfl
  | n+1 => by rw [List.range_succ, rngL_snoc, rngL_range p n]; rfl
end Mis
