/- The walk of the statement on chances. -/
import Derived.Test.YtkfobnhnehbkeaaKeep
namespace Go.Proofs.Ytkfobnhnehbkeaa
open Go.RowKit Go.Shelf
open Mis (ch sets tot sm low up)

set_option maxRecDepth 100000 in
set_option maxHeartbeats 2000000 in
theorem MissChances_arg (L M S F u : Int) (w : World) (h : areaB L M S F = false) : Calls Try.prog 3 #[areaV L M S F, .int .i64 u] w fun e w' => e = .returned (.bool true) ∧ Below w.heap.size w w' := by
  have C19 := Lib.hid (show ∀ w, Calls Try.prog 19 #[areaV L M S F, .int .i64 u] w fun e w' => e = .returned (.tuple #[fracV 0 0, .int .i64 1]) ∧ Below w.heap.size w w' from fun w => Chance_arg u w h)
  have C21 := Lib.hid (show ∀ w, Calls Try.prog 21 #[areaV L M S F, .int .i64 u, .bool true] w fun e w' => e = .returned (.tuple #[fracV 0 0, .int .i64 1]) ∧ Below w.heap.size w w' from fun w => Most_arg u w h)
  have D21 := Lib.hid (show ∀ w, Calls Try.prog 21 #[areaV L M S F, .int .i64 u, .bool false] w fun e w' => e = .returned (.tuple #[fracV 0 0, .int .i64 1]) ∧ Below w.heap.size w w' from fun w => Least_arg u w h)
  have C22 := Lib.hid (show ∀ w, Calls Try.prog 22 #[areaV L M S F] w fun e w' => e = .returned (.int .i64 1) ∧ Below w.heap.size w w' from fun w => by have := fault_any L M S F w; unfold faultI at this; rw [h] at this; exact this)
  clear h
  have s0 := (KS.start w).new #[.int .i64 L, .int .i64 M, .int .i64 S, .int .i64 F] 23
  obtain ⟨kb0_0, kb0_1, kb0_2, kb0_3⟩ := (s0.blkAt 0 rfl).c4
  have S0 := Lib.hid s0
  clear s0
  go_enter Try.func3, Try.ntmps3
  go_wp2_with fail
  refine (Area_any _ _ _ _ _).mono ?_
  rintro e w1 ⟨rfl, h1⟩
  clear kb0_0 kb0_1 kb0_2 kb0_3
  have s1 := S0.out.below h1
  obtain ⟨kb0_0, kb0_1, kb0_2, kb0_3⟩ := (s1.blkAt 0 rfl).c4
  have S1 := Lib.hid s1
  clear h1 s1
  go_wp2_with fail
  refine (C19.out _).mono ?_
  rintro e w2 ⟨rfl, h2⟩
  clear kb0_0 kb0_1 kb0_2 kb0_3
  have s2 := (S1.out.below h2).new #[.int .i64 0, .int .i64 0] 25
  obtain ⟨kb1_0, kb1_1, _⟩ := (s2.blkAt 0 rfl).c2
  obtain ⟨kb0_0, kb0_1, kb0_2, kb0_3⟩ := (s2.blkAt 1 rfl).c4
  have S2 := Lib.hid s2
  clear h2 s2
  go_wp2_with fail
  refine (Area_any _ _ _ _ _).mono ?_
  rintro e w3 ⟨rfl, h3⟩
  clear kb1_0 kb1_1 kb0_0 kb0_1 kb0_2 kb0_3
  have s3 := S2.out.below h3
  obtain ⟨kb1_0, kb1_1, _⟩ := (s3.blkAt 0 rfl).c2
  obtain ⟨kb0_0, kb0_1, kb0_2, kb0_3⟩ := (s3.blkAt 1 rfl).c4
  have S3 := Lib.hid s3
  clear h3 s3
  go_wp2_with fail
  refine (C21.out _).mono ?_
  rintro e w4 ⟨rfl, h4⟩
  clear kb1_0 kb1_1 kb0_0 kb0_1 kb0_2 kb0_3
  have s4 := (S3.out.below h4).new #[.int .i64 0, .int .i64 0] 25
  obtain ⟨kb2_0, kb2_1, _⟩ := (s4.blkAt 0 rfl).c2
  obtain ⟨kb1_0, kb1_1, _⟩ := (s4.blkAt 1 rfl).c2
  obtain ⟨kb0_0, kb0_1, kb0_2, kb0_3⟩ := (s4.blkAt 2 rfl).c4
  have S4 := Lib.hid s4
  clear h4 s4
  go_wp2_with fail
  refine (Area_any _ _ _ _ _).mono ?_
  rintro e w5 ⟨rfl, h5⟩
  clear kb2_0 kb2_1 kb1_0 kb1_1 kb0_0 kb0_1 kb0_2 kb0_3
  have s5 := S4.out.below h5
  obtain ⟨kb2_0, kb2_1, _⟩ := (s5.blkAt 0 rfl).c2
  obtain ⟨kb1_0, kb1_1, _⟩ := (s5.blkAt 1 rfl).c2
  obtain ⟨kb0_0, kb0_1, kb0_2, kb0_3⟩ := (s5.blkAt 2 rfl).c4
  have S5 := Lib.hid s5
  clear h5 s5
  go_wp2_with fail
  refine (D21.out _).mono ?_
  rintro e w6 ⟨rfl, h6⟩
  clear kb2_0 kb2_1 kb1_0 kb1_1 kb0_0 kb0_1 kb0_2 kb0_3
  have s6 := (S5.out.below h6).new #[.int .i64 0, .int .i64 0] 25
  obtain ⟨kb3_0, kb3_1, _⟩ := (s6.blkAt 0 rfl).c2
  obtain ⟨kb2_0, kb2_1, _⟩ := (s6.blkAt 1 rfl).c2
  obtain ⟨kb1_0, kb1_1, _⟩ := (s6.blkAt 2 rfl).c2
  obtain ⟨kb0_0, kb0_1, kb0_2, kb0_3⟩ := (s6.blkAt 3 rfl).c4
  have S6 := Lib.hid s6
  clear h6 s6
  go_wp2_with fail
  refine (C22.out _).mono ?_
  rintro e w7 ⟨rfl, h7⟩
  clear kb3_0 kb3_1 kb2_0 kb2_1 kb1_0 kb1_1 kb0_0 kb0_1 kb0_2 kb0_3
  have s7 := S6.out.below h7
  obtain ⟨kb3_0, kb3_1, _⟩ := (s7.blkAt 0 rfl).c2
  obtain ⟨kb2_0, kb2_1, _⟩ := (s7.blkAt 1 rfl).c2
  obtain ⟨kb1_0, kb1_1, _⟩ := (s7.blkAt 2 rfl).c2
  obtain ⟨kb0_0, kb0_1, kb0_2, kb0_3⟩ := (s7.blkAt 3 rfl).c4
  have S7 := Lib.hid s7
  clear h7 s7
  go_wp2_with fail
  refine (awake_any _).mono ?_
  rintro e w8 ⟨rfl, h8⟩
  clear kb3_0 kb3_1 kb2_0 kb2_1 kb1_0 kb1_1 kb0_0 kb0_1 kb0_2 kb0_3
  have s8 := S7.out.below h8
  obtain ⟨kb3_0, kb3_1, _⟩ := (s8.blkAt 0 rfl).c2
  obtain ⟨kb2_0, kb2_1, _⟩ := (s8.blkAt 1 rfl).c2
  obtain ⟨kb1_0, kb1_1, _⟩ := (s8.blkAt 2 rfl).c2
  obtain ⟨kb0_0, kb0_1, kb0_2, kb0_3⟩ := (s8.blkAt 3 rfl).c4
  have S8 := Lib.hid s8
  clear h8 s8
  go_wp2
  go_ret
  exact ⟨rfl, S8.out.bel⟩

set_option maxRecDepth 100000 in
set_option maxHeartbeats 2000000 in
theorem MissChances_range (L M S F u : Int) (w : World) (h : areaB L M S F = true) (hu : inB u 0 M = false) : Calls Try.prog 3 #[areaV L M S F, .int .i64 u] w fun e w' => e = .returned (.bool true) ∧ Below w.heap.size w w' := by
  have C19 := Lib.hid (show ∀ w, Calls Try.prog 19 #[areaV L M S F, .int .i64 u] w fun e w' => e = .returned (.tuple #[fracV 0 0, .int .i64 2]) ∧ Below w.heap.size w w' from fun w => Chance_range w h hu)
  have C21 := Lib.hid (show ∀ w, Calls Try.prog 21 #[areaV L M S F, .int .i64 u, .bool true] w fun e w' => e = .returned (.tuple #[fracV 0 0, .int .i64 2]) ∧ Below w.heap.size w w' from fun w => Most_range w h hu)
  have D21 := Lib.hid (show ∀ w, Calls Try.prog 21 #[areaV L M S F, .int .i64 u, .bool false] w fun e w' => e = .returned (.tuple #[fracV 0 0, .int .i64 2]) ∧ Below w.heap.size w w' from fun w => Least_range w h hu)
  have C22 := Lib.hid (show ∀ w, Calls Try.prog 22 #[areaV L M S F] w fun e w' => e = .returned (.int .i64 0) ∧ Below w.heap.size w w' from fun w => by have := fault_any L M S F w; unfold faultI at this; rw [h] at this; exact this)
  have C23 := Lib.hid (fun w => In_any u 0 M w)
  rw [hu] at C23
  clear h hu
  have s0 := (KS.start w).new #[.int .i64 L, .int .i64 M, .int .i64 S, .int .i64 F] 23
  obtain ⟨kb0_0, kb0_1, kb0_2, kb0_3⟩ := (s0.blkAt 0 rfl).c4
  have S0 := Lib.hid s0
  clear s0
  go_enter Try.func3, Try.ntmps3
  go_wp2_with fail
  refine (Area_any _ _ _ _ _).mono ?_
  rintro e w1 ⟨rfl, h1⟩
  clear kb0_0 kb0_1 kb0_2 kb0_3
  have s1 := S0.out.below h1
  obtain ⟨kb0_0, kb0_1, kb0_2, kb0_3⟩ := (s1.blkAt 0 rfl).c4
  have S1 := Lib.hid s1
  clear h1 s1
  go_wp2_with fail
  refine (C19.out _).mono ?_
  rintro e w2 ⟨rfl, h2⟩
  clear kb0_0 kb0_1 kb0_2 kb0_3
  have s2 := (S1.out.below h2).new #[.int .i64 0, .int .i64 0] 25
  obtain ⟨kb1_0, kb1_1, _⟩ := (s2.blkAt 0 rfl).c2
  obtain ⟨kb0_0, kb0_1, kb0_2, kb0_3⟩ := (s2.blkAt 1 rfl).c4
  have S2 := Lib.hid s2
  clear h2 s2
  go_wp2_with fail
  refine (Area_any _ _ _ _ _).mono ?_
  rintro e w3 ⟨rfl, h3⟩
  clear kb1_0 kb1_1 kb0_0 kb0_1 kb0_2 kb0_3
  have s3 := S2.out.below h3
  obtain ⟨kb1_0, kb1_1, _⟩ := (s3.blkAt 0 rfl).c2
  obtain ⟨kb0_0, kb0_1, kb0_2, kb0_3⟩ := (s3.blkAt 1 rfl).c4
  have S3 := Lib.hid s3
  clear h3 s3
  go_wp2_with fail
  refine (C21.out _).mono ?_
  rintro e w4 ⟨rfl, h4⟩
  clear kb1_0 kb1_1 kb0_0 kb0_1 kb0_2 kb0_3
  have s4 := (S3.out.below h4).new #[.int .i64 0, .int .i64 0] 25
  obtain ⟨kb2_0, kb2_1, _⟩ := (s4.blkAt 0 rfl).c2
  obtain ⟨kb1_0, kb1_1, _⟩ := (s4.blkAt 1 rfl).c2
  obtain ⟨kb0_0, kb0_1, kb0_2, kb0_3⟩ := (s4.blkAt 2 rfl).c4
  have S4 := Lib.hid s4
  clear h4 s4
  go_wp2_with fail
  refine (Area_any _ _ _ _ _).mono ?_
  rintro e w5 ⟨rfl, h5⟩
  clear kb2_0 kb2_1 kb1_0 kb1_1 kb0_0 kb0_1 kb0_2 kb0_3
  have s5 := S4.out.below h5
  obtain ⟨kb2_0, kb2_1, _⟩ := (s5.blkAt 0 rfl).c2
  obtain ⟨kb1_0, kb1_1, _⟩ := (s5.blkAt 1 rfl).c2
  obtain ⟨kb0_0, kb0_1, kb0_2, kb0_3⟩ := (s5.blkAt 2 rfl).c4
  have S5 := Lib.hid s5
  clear h5 s5
  go_wp2_with fail
  refine (D21.out _).mono ?_
  rintro e w6 ⟨rfl, h6⟩
  clear kb2_0 kb2_1 kb1_0 kb1_1 kb0_0 kb0_1 kb0_2 kb0_3
  have s6 := (S5.out.below h6).new #[.int .i64 0, .int .i64 0] 25
  obtain ⟨kb3_0, kb3_1, _⟩ := (s6.blkAt 0 rfl).c2
  obtain ⟨kb2_0, kb2_1, _⟩ := (s6.blkAt 1 rfl).c2
  obtain ⟨kb1_0, kb1_1, _⟩ := (s6.blkAt 2 rfl).c2
  obtain ⟨kb0_0, kb0_1, kb0_2, kb0_3⟩ := (s6.blkAt 3 rfl).c4
  have S6 := Lib.hid s6
  clear h6 s6
  go_wp2_with fail
  refine (C22.out _).mono ?_
  rintro e w7 ⟨rfl, h7⟩
  clear kb3_0 kb3_1 kb2_0 kb2_1 kb1_0 kb1_1 kb0_0 kb0_1 kb0_2 kb0_3
  have s7 := S6.out.below h7
  obtain ⟨kb3_0, kb3_1, _⟩ := (s7.blkAt 0 rfl).c2
  obtain ⟨kb2_0, kb2_1, _⟩ := (s7.blkAt 1 rfl).c2
  obtain ⟨kb1_0, kb1_1, _⟩ := (s7.blkAt 2 rfl).c2
  obtain ⟨kb0_0, kb0_1, kb0_2, kb0_3⟩ := (s7.blkAt 3 rfl).c4
  have S7 := Lib.hid s7
  clear h7 s7
  go_wp2_with fail
  refine (C23.out _).mono ?_
  rintro e w' ⟨rfl, rfl⟩
  go_wp2_with fail
  refine (awake_any _).mono ?_
  rintro e w8 ⟨rfl, h8⟩
  clear kb3_0 kb3_1 kb2_0 kb2_1 kb1_0 kb1_1 kb0_0 kb0_1 kb0_2 kb0_3
  have s8 := S7.out.below h8
  obtain ⟨kb3_0, kb3_1, _⟩ := (s8.blkAt 0 rfl).c2
  obtain ⟨kb2_0, kb2_1, _⟩ := (s8.blkAt 1 rfl).c2
  obtain ⟨kb1_0, kb1_1, _⟩ := (s8.blkAt 2 rfl).c2
  obtain ⟨kb0_0, kb0_1, kb0_2, kb0_3⟩ := (s8.blkAt 3 rfl).c4
  have S8 := Lib.hid s8
  clear h8 s8
  go_wp2
  go_ret
  exact ⟨rfl, S8.out.bel⟩

set_option maxRecDepth 100000 in
set_option maxHeartbeats 4000000 in
theorem MissChances_ok (l M s f u : Nat) (w : World) (h : okA l M s f) (hu : u ≤ M) : Calls Try.prog 3 #[areaV l M s f, .int .i64 u] w fun e w' => e = .returned (.bool true) ∧ Below w.heap.size w w' := by
  have hb := h.b
  have C19 := Lib.hid (fun w => Chance_ok h hu w)
  have C21 := Lib.hid (fun w => Most_ok h hu w)
  have D21 := Lib.hid (fun w => Least_ok h hu w)
  have C22 := Lib.hid (show ∀ w, Calls Try.prog 22 #[areaV l M s f] w fun e w' => e = .returned (.int .i64 0) ∧ Below w.heap.size w w' from fun w => by have := fault_any l M s f w; unfold faultI at this; rw [hb] at this; exact this)
  have C23 := Lib.hid (fun w => In_any u 0 M w)
  rw [inU hu] at C23
  obtain ⟨h1, h2, h3⟩ := h
  have hD : 0 < tot l u s := Mis.tot_pos l u s h2
  have hD2 : tot l u s ≤ 4611686018427387904 := bigT (by omega)
  have A27 := Lib.hid (show ∀ w, Calls Try.prog 27 #[areaV l M s f, .int .i64 u, .int .i64 f, .int .i64 f] w fun e w' => e = .returned (fracV (sm (sets l u s) f 1 : Nat) (tot l u s)) ∧ Below w.heap.size w w' from fun w => by
    have := rBetween_any l M s f l u s f (f + 1) rfl rfl w (by omega) (by omega) (by omega) h2
    rwa [show ((f + 1 : Nat) : Int) - 1 = f by omega, show f + 1 - f = 1 by omega] at this)
  have B27 := Lib.hid (show ∀ w, Calls Try.prog 27 #[areaV l M s f, .int .i64 u, .int .i64 0, .int .i64 f] w fun e w' => e = .returned (fracV (low l u s f : Nat) (tot l u s)) ∧ Below w.heap.size w w' from fun w => by
    have := rBetween_any l M s f l u s 0 (f + 1) rfl rfl w (by omega) (by omega) (by omega) h2
    rwa [show ((f + 1 : Nat) : Int) - 1 = f by omega] at this)
  have D27 := Lib.hid (show ∀ w, Calls Try.prog 27 #[areaV l M s f, .int .i64 u, .int .i64 f, .int .i64 s] w fun e w' => e = .returned (fracV (up l u s f : Nat) (tot l u s)) ∧ Below w.heap.size w w' from fun w => by
    have := rBetween_any l M s f l u s f (s + 1) rfl rfl w (by omega) (by omega) (by omega) h2
    rwa [show ((s + 1 : Nat) : Int) - 1 = s by omega] at this)
  have A26 := Lib.hid (fun w => rLowest_any (sm (sets l u s) f 1) (tot l u s) w hD (Nat.le_trans (num_le l s f u h3) hD2) hD2)
  have B26 := Lib.hid (fun w => rLowest_any (low l u s f) (tot l u s) w hD (Nat.le_trans (Mis.low_le l u s f h3) hD2) hD2)
  have D26 := Lib.hid (fun w => rLowest_any (up l u s f) (tot l u s) w hD (Nat.le_trans (Mis.up_le l u s f h3) hD2) hD2)
  unfold ChPost at C19 C21 D21
  unfold lowV at C19 C21 D21 A26 B26 D26
  generalize sm (sets l u s) f 1 = N1 at *
  generalize low l u s f = N2 at *
  generalize up l u s f = N3 at *
  generalize tot l u s = D at *
  generalize N1 / Nat.gcd N1 D = p1 at *
  generalize N2 / Nat.gcd N2 D = p2 at *
  generalize N3 / Nat.gcd N3 D = p3 at *
  generalize D / Nat.gcd N1 D = q1 at *
  generalize D / Nat.gcd N2 D = q2 at *
  generalize D / Nat.gcd N3 D = q3 at *
  clear hb h1 h2 h3 hu hD hD2
  have s0 := (KS.start w).new #[.int .i64 l, .int .i64 M, .int .i64 s, .int .i64 f] 23
  obtain ⟨kb0_0, kb0_1, kb0_2, kb0_3⟩ := (s0.blkAt 0 rfl).c4
  have S0 := Lib.hid s0
  clear s0
  go_enter Try.func3, Try.ntmps3
  go_wp2_with fail
  refine (Area_any _ _ _ _ _).mono ?_
  rintro e w1 ⟨rfl, h1⟩
  clear kb0_0 kb0_1 kb0_2 kb0_3
  have s1 := S0.out.below h1
  obtain ⟨kb0_0, kb0_1, kb0_2, kb0_3⟩ := (s1.blkAt 0 rfl).c4
  have S1 := Lib.hid s1
  clear h1 s1
  go_wp2_with fail
  refine (C19.out _).mono ?_
  rintro e w2 ⟨rfl, h2⟩
  clear kb0_0 kb0_1 kb0_2 kb0_3
  have s2 := (S1.out.below h2).new #[.int .i64 p1, .int .i64 q1] 25
  obtain ⟨kb1_0, kb1_1, _⟩ := (s2.blkAt 0 rfl).c2
  obtain ⟨kb0_0, kb0_1, kb0_2, kb0_3⟩ := (s2.blkAt 1 rfl).c4
  have S2 := Lib.hid s2
  clear h2 s2
  go_wp2_with fail
  refine (Area_any _ _ _ _ _).mono ?_
  rintro e w3 ⟨rfl, h3⟩
  clear kb1_0 kb1_1 kb0_0 kb0_1 kb0_2 kb0_3
  have s3 := S2.out.below h3
  obtain ⟨kb1_0, kb1_1, _⟩ := (s3.blkAt 0 rfl).c2
  obtain ⟨kb0_0, kb0_1, kb0_2, kb0_3⟩ := (s3.blkAt 1 rfl).c4
  have S3 := Lib.hid s3
  clear h3 s3
  go_wp2_with fail
  refine (C21.out _).mono ?_
  rintro e w4 ⟨rfl, h4⟩
  clear kb1_0 kb1_1 kb0_0 kb0_1 kb0_2 kb0_3
  have s4 := (S3.out.below h4).new #[.int .i64 p2, .int .i64 q2] 25
  obtain ⟨kb2_0, kb2_1, _⟩ := (s4.blkAt 0 rfl).c2
  obtain ⟨kb1_0, kb1_1, _⟩ := (s4.blkAt 1 rfl).c2
  obtain ⟨kb0_0, kb0_1, kb0_2, kb0_3⟩ := (s4.blkAt 2 rfl).c4
  have S4 := Lib.hid s4
  clear h4 s4
  go_wp2_with fail
  refine (Area_any _ _ _ _ _).mono ?_
  rintro e w5 ⟨rfl, h5⟩
  clear kb2_0 kb2_1 kb1_0 kb1_1 kb0_0 kb0_1 kb0_2 kb0_3
  have s5 := S4.out.below h5
  obtain ⟨kb2_0, kb2_1, _⟩ := (s5.blkAt 0 rfl).c2
  obtain ⟨kb1_0, kb1_1, _⟩ := (s5.blkAt 1 rfl).c2
  obtain ⟨kb0_0, kb0_1, kb0_2, kb0_3⟩ := (s5.blkAt 2 rfl).c4
  have S5 := Lib.hid s5
  clear h5 s5
  go_wp2_with fail
  refine (D21.out _).mono ?_
  rintro e w6 ⟨rfl, h6⟩
  clear kb2_0 kb2_1 kb1_0 kb1_1 kb0_0 kb0_1 kb0_2 kb0_3
  have s6 := (S5.out.below h6).new #[.int .i64 p3, .int .i64 q3] 25
  obtain ⟨kb3_0, kb3_1, _⟩ := (s6.blkAt 0 rfl).c2
  obtain ⟨kb2_0, kb2_1, _⟩ := (s6.blkAt 1 rfl).c2
  obtain ⟨kb1_0, kb1_1, _⟩ := (s6.blkAt 2 rfl).c2
  obtain ⟨kb0_0, kb0_1, kb0_2, kb0_3⟩ := (s6.blkAt 3 rfl).c4
  have S6 := Lib.hid s6
  clear h6 s6
  go_wp2_with fail
  refine (C22.out _).mono ?_
  rintro e w7 ⟨rfl, h7⟩
  clear kb3_0 kb3_1 kb2_0 kb2_1 kb1_0 kb1_1 kb0_0 kb0_1 kb0_2 kb0_3
  have s7 := S6.out.below h7
  obtain ⟨kb3_0, kb3_1, _⟩ := (s7.blkAt 0 rfl).c2
  obtain ⟨kb2_0, kb2_1, _⟩ := (s7.blkAt 1 rfl).c2
  obtain ⟨kb1_0, kb1_1, _⟩ := (s7.blkAt 2 rfl).c2
  obtain ⟨kb0_0, kb0_1, kb0_2, kb0_3⟩ := (s7.blkAt 3 rfl).c4
  have S7 := Lib.hid s7
  clear h7 s7
  go_wp2_with fail
  refine (C23.out _).mono ?_
  rintro e w' ⟨rfl, rfl⟩
  go_wp2_with fail
  obtain ⟨BS, hBS⟩ : ∃ BS : List (Nat × Array Value × TypeId), BS = [(w6.heap.size, #[.int .i64 p3, .int .i64 q3], 25), (w4.heap.size, #[.int .i64 p2, .int .i64 q2], 25), (w2.heap.size, #[.int .i64 p1, .int .i64 q1], 25), (w.heap.size, #[.int .i64 l, .int .i64 M, .int .i64 s, .int .i64 f], 23)] := ⟨_, rfl⟩
  have hS : KS w BS w7 := by rw [hBS]; exact S7.out
  have K0_0 : ∀ W, KS w BS W → W.cell? ⟨w6.heap.size, 0, none⟩ = some (.int .i64 p3) := fun W h => by rw [hBS] at h; exact (h.blkAt 0 rfl).cell 0
  have K0_1 : ∀ W, KS w BS W → W.cell? ⟨w6.heap.size, 1, none⟩ = some (.int .i64 q3) := fun W h => by rw [hBS] at h; exact (h.blkAt 0 rfl).cell 1
  have K1_0 : ∀ W, KS w BS W → W.cell? ⟨w4.heap.size, 0, none⟩ = some (.int .i64 p2) := fun W h => by rw [hBS] at h; exact (h.blkAt 1 rfl).cell 0
  have K1_1 : ∀ W, KS w BS W → W.cell? ⟨w4.heap.size, 1, none⟩ = some (.int .i64 q2) := fun W h => by rw [hBS] at h; exact (h.blkAt 1 rfl).cell 1
  have K2_0 : ∀ W, KS w BS W → W.cell? ⟨w2.heap.size, 0, none⟩ = some (.int .i64 p1) := fun W h => by rw [hBS] at h; exact (h.blkAt 2 rfl).cell 0
  have K2_1 : ∀ W, KS w BS W → W.cell? ⟨w2.heap.size, 1, none⟩ = some (.int .i64 q1) := fun W h => by rw [hBS] at h; exact (h.blkAt 2 rfl).cell 1
  have K3_0 : ∀ W, KS w BS W → W.cell? ⟨w.heap.size, 0, none⟩ = some (.int .i64 l) := fun W h => by rw [hBS] at h; exact (h.blkAt 3 rfl).cell 0
  have K3_1 : ∀ W, KS w BS W → W.cell? ⟨w.heap.size, 1, none⟩ = some (.int .i64 M) := fun W h => by rw [hBS] at h; exact (h.blkAt 3 rfl).cell 1
  have K3_2 : ∀ W, KS w BS W → W.cell? ⟨w.heap.size, 2, none⟩ = some (.int .i64 s) := fun W h => by rw [hBS] at h; exact (h.blkAt 3 rfl).cell 2
  have K3_3 : ∀ W, KS w BS W → W.cell? ⟨w.heap.size, 3, none⟩ = some (.int .i64 f) := fun W h => by rw [hBS] at h; exact (h.blkAt 3 rfl).cell 3
  have HBS := Lib.hid hBS
  clear hBS kb3_0 kb3_1 kb2_0 kb2_1 kb1_0 kb1_1 kb0_0 kb0_1 kb0_2 kb0_3
  go_region_held3 (KS w BS)
    (first | assumption | exact KS.drew (by assumption) | exact KS.alloc (by assumption) _ | exact KS.drew (KS.alloc (by assumption) _) | exact KS.alloc (KS.drew (by assumption)) _ | go_keep)
    (first | (go_at_call 27; (with_reducible refine (A27.out _).mono ?_); rintro e wn ⟨rfl, hb⟩; have hSn := KS.below (by first | assumption | exact KS.drew (by assumption)) hb; clear hb) | (go_at_call 27; (with_reducible refine (B27.out _).mono ?_); rintro e wn ⟨rfl, hb⟩; have hSn := KS.below (by first | assumption | exact KS.drew (by assumption)) hb; clear hb) | (go_at_call 27; (with_reducible refine (D27.out _).mono ?_); rintro e wn ⟨rfl, hb⟩; have hSn := KS.below (by first | assumption | exact KS.drew (by assumption)) hb; clear hb) | (go_at_call 26; (with_reducible refine (A26.out _).mono ?_); rintro e wn ⟨rfl, hb⟩; have hSn := KS.below (by first | assumption | exact KS.drew (by assumption)) hb; clear hb) | (go_at_call 26; (with_reducible refine (B26.out _).mono ?_); rintro e wn ⟨rfl, hb⟩; have hSn := KS.below (by first | assumption | exact KS.drew (by assumption)) hb; clear hb) | (go_at_call 26; (with_reducible refine (D26.out _).mono ?_); rintro e wn ⟨rfl, hb⟩; have hSn := KS.below (by first | assumption | exact KS.drew (by assumption)) hb; clear hb) | (go_at_call 25; (with_reducible refine (part_any _ _ _).mono ?_); rintro e wn ⟨rfl, hb⟩; have hSn := KS.below (by first | assumption | exact KS.drew (by assumption)) hb; clear hb) | (go_at_call 24; (with_reducible refine (awake_any _).mono ?_); rintro e wn ⟨rfl, hb⟩; have hSn := KS.below (by first | assumption | exact KS.drew (by assumption)) hb; clear hb))
  all_goals
    go_wp2
    go_ret
    exact ⟨rfl, KS.bel (by assumption)⟩
theorem MissChances_walk (L M S F u : Int) (w : World) : Calls Try.prog 3 #[areaV L M S F, .int .i64 u] w fun e w' => e = .returned (.bool true) ∧ Below w.heap.size w w' := by
  cases h : areaB L M S F with
  | false => exact MissChances_arg L M S F u w h
  | true =>
    cases hu : inB u 0 M with
    | false => exact MissChances_range L M S F u w h hu
    | true =>
      obtain ⟨l, m, s, f, rfl, rfl, rfl, rfl, hk⟩ := okA.of h
      obtain ⟨h1, h2⟩ := inB_iff.1 hu
      obtain ⟨v, rfl⟩ : ∃ v : Nat, u = v := ⟨u.toNat, by omega⟩
      exact MissChances_ok l m s f v w hk (by omega)
end Go.Proofs.Ytkfobnhnehbkeaa
