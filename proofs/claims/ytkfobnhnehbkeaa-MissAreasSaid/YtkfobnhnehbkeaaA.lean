/- The walks of the small functions of package miss: what is within bounds, which areas are valid. -/
import Derived.Test.YtkfobnhnehbkeaaRows
import Derived.Test.YtkfobnhnehbkeaaMath
import Derived.WalkKit
import Derived.WalkSpells
import Derived.WalkLawsBesides
namespace Go.Proofs.Ytkfobnhnehbkeaa
open Go.RowKit

def inB (n lo hi : Int) : Bool := decide (lo ≤ n ∧ n ≤ hi)
theorem inB_iff {n lo hi : Int} : inB n lo hi = true ↔ lo ≤ n ∧ n ≤ hi := by simp [inB]
theorem inB_no {n lo hi : Int} : inB n lo hi = false ↔ ¬ (lo ≤ n ∧ n ≤ hi) := by simp [inB]

set_option maxHeartbeats 400000 in
theorem within_any (n lo hi : Int) (w : World) : Calls Try.prog 68 #[.int .i64 n, .int .i64 lo, .int .i64 hi] w fun e w' => e = .returned (.bool (inB n lo hi)) ∧ w = w' := by
  by_cases h1 : lo ≤ n
  · by_cases h2 : n ≤ hi
    · have h : inB n lo hi = true := inB_iff.2 ⟨h1, h2⟩
      rw [h]
      go_enter Try.func68, Try.ntmps68
      go_wp2
      go_ret
      exact ⟨rfl, rfl⟩
    · have h : inB n lo hi = false := inB_no.2 (fun h => h2 h.2)
      rw [h]
      go_enter Try.func68, Try.ntmps68
      go_wp2
      go_ret
      exact ⟨rfl, rfl⟩
  · have h : inB n lo hi = false := inB_no.2 (fun h => h1 h.1)
    rw [h]
    go_enter Try.func68, Try.ntmps68
    go_wp2
    go_ret
    exact ⟨rfl, rfl⟩

/-- can there be so many persons? -/
def perB (l m : Int) : Bool := inB l 0 50 && inB m 0 (50 - l)
set_option maxHeartbeats 400000 in
theorem persons_any (l m : Int) (w : World) : Calls Try.prog 67 #[.int .i64 l, .int .i64 m] w fun e w' => e = .returned (.bool (perB l m)) ∧ w = w' := by
  cases h1 : inB l 0 50 with
  | true =>
    have hb := inB_iff.1 h1
    have h : perB l m = inB m 0 (50 - l) := by simp [perB, h1]
    rw [h]
    obtain ⟨hb1, hb2⟩ := hb
    go_enter Try.func67, Try.ntmps67
    go_wp2_with (go_at_call 68; refine (within_any _ _ _ _).mono ?_; rintro e w' ⟨rfl, rfl⟩)
    go_ret
    exact ⟨rfl, rfl⟩
  | false =>
    have h : perB l m = false := by simp [perB, h1]
    rw [h]
    go_enter Try.func67, Try.ntmps67
    go_wp2_with (go_at_call 68; refine (within_any _ _ _ _).mono ?_; rintro e w' ⟨rfl, rfl⟩)
    go_ret
    exact ⟨rfl, rfl⟩

/-- an area as a value -/
abbrev areaV (l m s f : Int) : Value := .agg #[.int .i64 l, .int .i64 m, .int .i64 s, .int .i64 f]
abbrev fracV (n d : Int) : Value := .agg #[.int .i64 n, .int .i64 d]
/-- is an area valid? -/
def areaB (l m s f : Int) : Bool := perB l m && inB s 0 l && inB f 0 s
set_option maxHeartbeats 400000 in
theorem valid_any (l m s f : Int) (w : World) : Calls Try.prog 58 #[areaV l m s f] w fun e w' => e = .returned (.bool (areaB l m s f)) ∧ Below w.heap.size w w' := by
  cases h1 : perB l m with
  | false =>
    have h : areaB l m s f = false := by simp [areaB, h1]
    rw [h]
    go_enter Try.func58, Try.ntmps58
    go_wp2_with (first | (go_at_call 68; refine (within_any _ _ _ _).mono ?_; rintro e w' ⟨rfl, rfl⟩) | (go_at_call 67; refine (persons_any _ _ _).mono ?_; rintro e w' ⟨rfl, rfl⟩))
    go_ret
    exact ⟨rfl, (Below.refl _ _).alloc (Nat.le_refl _) _⟩
  | true =>
    cases h2 : inB s 0 l with
    | false =>
      have h : areaB l m s f = false := by simp [areaB, h1, h2]
      rw [h]
      go_enter Try.func58, Try.ntmps58
      go_wp2_with (first | (go_at_call 68; refine (within_any _ _ _ _).mono ?_; rintro e w' ⟨rfl, rfl⟩) | (go_at_call 67; refine (persons_any _ _ _).mono ?_; rintro e w' ⟨rfl, rfl⟩))
      go_ret
      exact ⟨rfl, (Below.refl _ _).alloc (Nat.le_refl _) _⟩
    | true =>
      have h : areaB l m s f = inB f 0 s := by simp [areaB, h1, h2]
      rw [h]
      go_enter Try.func58, Try.ntmps58
      go_wp2_with (first | (go_at_call 68; refine (within_any _ _ _ _).mono ?_; rintro e w' ⟨rfl, rfl⟩) | (go_at_call 67; refine (persons_any _ _ _).mono ?_; rintro e w' ⟨rfl, rfl⟩))
      go_ret
      exact ⟨rfl, (Below.refl _ _).alloc (Nat.le_refl _) _⟩

end Go.Proofs.Ytkfobnhnehbkeaa
