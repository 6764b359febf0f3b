/- Missed of package miss at one valid area; which numbers are not excluded. -/
import Derived.Test.YtkfobnhnehbkeaaKeepZ
import Derived.Test.YtkfobnhnehbkeaaRMiss
set_option linter.unusedVariables false
set_option linter.unusedSimpArgs false
namespace Go.Proofs.Ytkfobnhnehbkeaa
open Go.RowKit Go.Shelf
open Mis (ch sets tot sm low up lower excl rng)

/-- the code of a range -/
def cdOf : Option (Nat × Nat) → Nat | none => 9 | some _ => 0
def MissedPost (R : Option (Nat × Nat)) (w : World) (e : Ending) (w' : World) : Prop := e = .returned (.tuple #[rangeV (loOf R : Nat) (hiOf R : Nat), .int .i64 (cdOf R : Nat)]) ∧ Below w.heap.size w w'
theorem totRes_one {l M s f n d : Nat} (h : okA l M s f) (hl : levB n d = true) : totRes [⟨l, M, s, f⟩] n d = (loOf (rangeOf l M s f n d), hiOf (rangeOf l M s f n d), cdOf (rangeOf l M s f n d)) := by
  have h1 : ([⟨l, M, s, f⟩] : List A4).all A4.ok = true := by simp [A4.ok, h.b]
  unfold totRes
  rw [if_neg (by simp), if_neg (by rw [h1]; simp), if_neg (by rw [hl]; simp)]
  have h2 : totS (n : Int).toNat (d : Int).toNat [⟨l, M, s, f⟩] = totStep n d (some (0, 0)) ⟨l, M, s, f⟩ := rfl
  rw [h2]
  have h3 : rangeA n d ⟨l, M, s, f⟩ = rangeOf l M s f n d := rfl
  unfold totStep
  rw [h3]
  cases rangeOf l M s f n d with
  | none => rfl
  | some r => simp [loOf, hiOf, cdOf]
theorem Missed_ok {l M s f : Nat} (h : okA l M s f) {n d : Nat} (hl : levB n d = true) (w : World) : Calls Try.prog 36 #[areaV l M s f, fracV n d] w (MissedPost (rangeOf l M s f n d) w) := by
  have h1 := Missed_any l M s f n d w
  unfold TotalPost at h1
  rw [totRes_one h hl] at h1
  exact h1
theorem rangeOf_some {l M s f n d : Nat} {r : Nat × Nat} (h : rangeOf l M s f n d = some r) : excl l s f n d r.1 = false ∧ excl l s f n d r.2 = false ∧ r.1 ≤ r.2 ∧ r.2 ≤ M ∧ ∀ u, u ≤ M → excl l s f n d u = false → r.1 ≤ u ∧ u ≤ r.2 := by
  obtain ⟨h1, h2, h3, h4, h5⟩ := Mis.rng_some _ _ r.1 r.2 h
  exact ⟨by simpa using h1, by simpa using h2, h3, by omega, fun u hu he => h5 u (by omega) (by simp [he])⟩
theorem rangeOf_none {l M s f n d : Nat} (h : rangeOf l M s f n d = none) : ∀ u, u ≤ M → excl l s f n d u = true := fun u hu => by
  have := (Mis.rng_none _ _).1 h u (by omega)
  simpa using this
theorem lev_of {n d : Nat} (h : levB n d = true) : 1 ≤ d ∧ d ≤ 1000 ∧ n ≤ d := by
  obtain ⟨_, _, h3, h4, h5⟩ := lev_nat h
  simpa using ⟨h3, h4, h5⟩
theorem lower_one {a n d : Nat} (h : n ≤ d) : lower a a n d = false := by
  rw [Mis.lower_no, Nat.mul_comm]; exact Nat.mul_le_mul_left _ h
/-- with all found, 0 is not excluded -/
theorem excl_all (l s n d : Nat) (h : n ≤ d) : excl l s s n d 0 = false := by
  have h1 := Mis.low_full l 0 s
  have h2 : Mis.up l 0 s s = tot l 0 s := by
    unfold Mis.up tot
    rw [show s + 1 - s = 1 by omega, Mis.sm_succ, Mis.sm_zero]
    simp [sets, Mis.ch_zero]
  unfold excl
  rw [h1, h2, lower_one h]; rfl
/-- otherwise it is, by a level above 0 -/
theorem excl_none (l s f n d : Nat) (hf : f < s) (hs : s ≤ l) (hn : 0 < n) : excl l s f n d 0 = true := by
  have h1 : Mis.low l 0 s f = 0 := by
    unfold Mis.low
    refine Mis.sm_zeros fun i _ h => ?_
    unfold sets
    rw [Mis.ch_lt 0 (s - i) (by omega), Nat.mul_zero]
  have h2 := Mis.tot_pos l 0 s hs
  unfold excl
  rw [h1, (Mis.lower_iff (a := 0) (b := tot l 0 s) (c := n) (d := d)).2 (by rw [Nat.zero_mul]; exact Nat.mul_pos hn h2)]; rfl
end Go.Proofs.Ytkfobnhnehbkeaa
