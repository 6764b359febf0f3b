/- The statement on levels: what is lower, and the ways on which an argument is not valid. -/
import Derived.Test.YtkfobnhnehbkeaaMiss1
set_option linter.unusedVariables false
set_option linter.unusedSimpArgs false
namespace Go.Proofs.Ytkfobnhnehbkeaa
open Go.RowKit Go.Shelf
open Mis (ch sets tot sm low up lower excl rng)

theorem lower_mono {a t x n d : Nat} (h : x ≤ n) (hl : lower a t x d = true) : lower a t n d = true := by
  rw [Mis.lower_iff] at *
  exact Nat.lt_of_lt_of_le hl (Nat.mul_le_mul_right _ h)
theorem excl_mono {l s f x n d u : Nat} (h : x ≤ n) (he : excl l s f n d u = false) : excl l s f x d u = false := by
  unfold excl at *
  rw [Bool.or_eq_false_iff] at *
  constructor
  · cases h1 : lower (Mis.low l u s f) (tot l u s) x d with
    | false => rfl
    | true => rw [lower_mono h h1] at he; exact absurd he.1 (by simp)
  · cases h1 : lower (Mis.up l u s f) (tot l u s) x d with
    | false => rfl
    | true => rw [lower_mono h h1] at he; exact absurd he.2 (by simp)
theorem excl_zero (l s f d u : Nat) : excl l s f 0 d u = false := by
  unfold excl
  rw [Bool.or_eq_false_iff, Mis.lower_no, Mis.lower_no]
  simp
theorem range_zero (l M s f d : Nat) : rangeOf l M s f 0 d = some (0, M) :=
  Mis.rng_eq (by simp [excl_zero]) (by simp [excl_zero]) (by omega) (by omega) (fun u hu _ => ⟨Nat.zero_le _, by omega⟩)
theorem range_mono {l M s f x n d : Nat} (h : x ≤ n) {r : Nat × Nat} (hr : rangeOf l M s f n d = some r) : ∃ q, rangeOf l M s f x d = some q ∧ q.1 ≤ r.1 ∧ r.2 ≤ q.2 := by
  obtain ⟨h1, h2, h3, h4, h5⟩ := rangeOf_some hr
  cases hq : rangeOf l M s f x d with
  | none => exact absurd (rangeOf_none hq r.1 (by omega)) (by rw [excl_mono h h1]; simp)
  | some q =>
    obtain ⟨_, _, _, _, g5⟩ := rangeOf_some hq
    exact ⟨q, rfl, (g5 r.1 (by omega) (excl_mono h h1)).1, (g5 r.2 h4 (excl_mono h h2)).2⟩
theorem lev0 {d : Nat} (h1 : 1 ≤ d) (h2 : d ≤ 1000) : levB ((0 : Nat) : Int) (d : Int) = true := by
  unfold levB
  rw [Bool.and_eq_true]
  exact ⟨inB_iff.2 ⟨by omega, by omega⟩, inB_iff.2 ⟨by omega, by omega⟩⟩
set_option maxRecDepth 100000 in
set_option maxHeartbeats 4000000 in
theorem MissLevels_area (L M S F n d b : Int) (w : World) (h : areaB L M S F = false) : Calls Try.prog 11 #[areaV L M S F, fracV n d, .int .u16 b] w fun e w' => e = .returned (.bool true) ∧ Below w.heap.size w w' := by
  have C42 := Lib.hid (fun w => rIsArea_any L M S F w)
  rw [h] at C42
  have C33 := Lib.hid (fun w => rIsLevel_any n d w)
  clear h
  have s0 := ((KS.start w).new #[.int .i64 L, .int .i64 M, .int .i64 S, .int .i64 F] 23).new #[.int .i64 n, .int .i64 d] 36
  rw [World.size_alloc] at s0
  obtain ⟨kb1_0, kb1_1, _⟩ := (s0.blkAt 0 rfl).c2
  obtain ⟨kb0_0, kb0_1, kb0_2, kb0_3⟩ := (s0.blkAt 1 rfl).c4
  have S0 := Lib.hid s0
  clear s0
  go_enter Try.func11, Try.ntmps11
  go_wp2_with fail
  refine (C42.out _).mono ?_
  rintro e w1 ⟨rfl, h1⟩
  clear kb1_0 kb1_1 kb0_0 kb0_1 kb0_2 kb0_3
  have s1 := S0.out.below h1
  obtain ⟨kb1_0, kb1_1, _⟩ := (s1.blkAt 0 rfl).c2
  obtain ⟨kb0_0, kb0_1, kb0_2, kb0_3⟩ := (s1.blkAt 1 rfl).c4
  have S1 := Lib.hid s1
  clear h1 s1
  go_wp2_with (first | (go_at_call 24; (with_reducible refine (awake_any _).mono ?_); rintro e w99 ⟨rfl, h99⟩; have S99 := Lib.hid (S1.out.below h99); clear h99))
  go_ret
  exact ⟨rfl, S99.out.bel⟩
set_option maxRecDepth 100000 in
set_option maxHeartbeats 4000000 in
theorem MissLevels_level (L M S F n d b : Int) (w : World) (h : areaB L M S F = true) (hl : levB n d = false) : Calls Try.prog 11 #[areaV L M S F, fracV n d, .int .u16 b] w fun e w' => e = .returned (.bool true) ∧ Below w.heap.size w w' := by
  have C42 := Lib.hid (fun w => rIsArea_any L M S F w)
  rw [h] at C42
  have C33 := Lib.hid (fun w => rIsLevel_any n d w)
  rw [hl] at C33
  clear h hl
  have s0 := ((KS.start w).new #[.int .i64 L, .int .i64 M, .int .i64 S, .int .i64 F] 23).new #[.int .i64 n, .int .i64 d] 36
  rw [World.size_alloc] at s0
  obtain ⟨kb1_0, kb1_1, _⟩ := (s0.blkAt 0 rfl).c2
  obtain ⟨kb0_0, kb0_1, kb0_2, kb0_3⟩ := (s0.blkAt 1 rfl).c4
  have S0 := Lib.hid s0
  clear s0
  go_enter Try.func11, Try.ntmps11
  go_wp2_with fail
  refine (C42.out _).mono ?_
  rintro e w1 ⟨rfl, h1⟩
  clear kb1_0 kb1_1 kb0_0 kb0_1 kb0_2 kb0_3
  have s1 := S0.out.below h1
  obtain ⟨kb1_0, kb1_1, _⟩ := (s1.blkAt 0 rfl).c2
  obtain ⟨kb0_0, kb0_1, kb0_2, kb0_3⟩ := (s1.blkAt 1 rfl).c4
  have S1 := Lib.hid s1
  clear h1 s1
  go_wp2_with fail
  refine (C33.out _).mono ?_
  rintro e w2 ⟨rfl, h2⟩
  clear kb1_0 kb1_1 kb0_0 kb0_1 kb0_2 kb0_3
  have s2 := S1.out.below h2
  obtain ⟨kb1_0, kb1_1, _⟩ := (s2.blkAt 0 rfl).c2
  obtain ⟨kb0_0, kb0_1, kb0_2, kb0_3⟩ := (s2.blkAt 1 rfl).c4
  have S2 := Lib.hid s2
  clear h2 s2
  go_wp2_with (first | (go_at_call 24; (with_reducible refine (awake_any _).mono ?_); rintro e w99 ⟨rfl, h99⟩; have S99 := Lib.hid (S2.out.below h99); clear h99))
  go_ret
  exact ⟨rfl, S99.out.bel⟩
end Go.Proofs.Ytkfobnhnehbkeaa
