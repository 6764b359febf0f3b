/- The statement on rises: the ways on which nothing is asked. -/
import Derived.Test.YtkfobnhnehbkeaaLow
namespace Go.Proofs.Ytkfobnhnehbkeaa
open Go.RowKit Go.Shelf
open Mis (ch sets tot sm low up lower excl rng)

set_option maxRecDepth 100000 in
set_option maxHeartbeats 4000000 in
theorem MissRises_area (L M S F n d : Int) (b : Int) (w : World) (h : areaB L M S F = false) : Calls Try.prog 10 #[areaV L M S F, .int .u8 b, fracV n d] w fun e w' => e = .returned (.bool true) ∧ Below w.heap.size w w' := by
  have C42 := Lib.hid (fun w => rIsArea_any L M S F w)
  rw [h] at C42
  have C33 := Lib.hid (fun w => rIsLevel_any n d w)
  clear h
  have s0 := ((KS.start w).new #[.int .i64 L, .int .i64 M, .int .i64 S, .int .i64 F] 23).new #[.int .i64 n, .int .i64 d] 36
  rw [World.size_alloc] at s0
  obtain ⟨kb1_0, kb1_1, _⟩ := (s0.blkAt 0 rfl).c2
  obtain ⟨kb0_0, kb0_1, kb0_2, kb0_3⟩ := (s0.blkAt 1 rfl).c4
  have S0 := Lib.hid s0
  clear s0
  go_enter Try.func10, Try.ntmps10
  go_wp2_with fail
  refine (C42.out _).mono ?_
  rintro e w1 ⟨rfl, h1⟩
  clear kb1_0 kb1_1 kb0_0 kb0_1 kb0_2 kb0_3
  have s1 := S0.out.below h1
  obtain ⟨kb1_0, kb1_1, _⟩ := (s1.blkAt 0 rfl).c2
  obtain ⟨kb0_0, kb0_1, kb0_2, kb0_3⟩ := (s1.blkAt 1 rfl).c4
  have S1 := Lib.hid s1
  clear h1 s1
  go_wp2_with (first | (go_at_call 24; (with_reducible refine (awake_any _).mono ?_); rintro e w99 ⟨rfl, h99⟩; have S99 := Lib.hid (S1.out.below h99); clear h99))
  go_ret
  exact ⟨rfl, S99.out.bel⟩
set_option maxRecDepth 100000 in
set_option maxHeartbeats 4000000 in
theorem MissRises_level (L M S F n d : Int) (b : Int) (w : World) (h : areaB L M S F = true) (hl : levB n d = false) : Calls Try.prog 10 #[areaV L M S F, .int .u8 b, fracV n d] w fun e w' => e = .returned (.bool true) ∧ Below w.heap.size w w' := by
  have C42 := Lib.hid (fun w => rIsArea_any L M S F w)
  rw [h] at C42
  have C33 := Lib.hid (fun w => rIsLevel_any n d w)
  rw [hl] at C33
  clear h hl
  have s0 := ((KS.start w).new #[.int .i64 L, .int .i64 M, .int .i64 S, .int .i64 F] 23).new #[.int .i64 n, .int .i64 d] 36
  rw [World.size_alloc] at s0
  obtain ⟨kb1_0, kb1_1, _⟩ := (s0.blkAt 0 rfl).c2
  obtain ⟨kb0_0, kb0_1, kb0_2, kb0_3⟩ := (s0.blkAt 1 rfl).c4
  have S0 := Lib.hid s0
  clear s0
  go_enter Try.func10, Try.ntmps10
  go_wp2_with fail
  refine (C42.out _).mono ?_
  rintro e w1 ⟨rfl, h1⟩
  clear kb1_0 kb1_1 kb0_0 kb0_1 kb0_2 kb0_3
  have s1 := S0.out.below h1
  obtain ⟨kb1_0, kb1_1, _⟩ := (s1.blkAt 0 rfl).c2
  obtain ⟨kb0_0, kb0_1, kb0_2, kb0_3⟩ := (s1.blkAt 1 rfl).c4
  have S1 := Lib.hid s1
  clear h1 s1
  go_wp2_with fail
  refine (C33.out _).mono ?_
  rintro e w2 ⟨rfl, h2⟩
  clear kb1_0 kb1_1 kb0_0 kb0_1 kb0_2 kb0_3
  have s2 := S1.out.below h2
  obtain ⟨kb1_0, kb1_1, _⟩ := (s2.blkAt 0 rfl).c2
  obtain ⟨kb0_0, kb0_1, kb0_2, kb0_3⟩ := (s2.blkAt 1 rfl).c4
  have S2 := Lib.hid s2
  clear h2 s2
  go_wp2_with (first | (go_at_call 24; (with_reducible refine (awake_any _).mono ?_); rintro e w99 ⟨rfl, h99⟩; have S99 := Lib.hid (S2.out.below h99); clear h99))
  go_ret
  exact ⟨rfl, S99.out.bel⟩
set_option maxRecDepth 100000 in
set_option maxHeartbeats 4000000 in
theorem MissRises_nobody (l s f n d : Nat) (b : Int) (w : World) (h : okA l 0 s f) (hl : levB n d = true) : Calls Try.prog 10 #[areaV l 0 s f, .int .u8 b, fracV n d] w fun e w' => e = .returned (.bool true) ∧ Below w.heap.size w w' := by
  have C42 := Lib.hid (fun w => rIsArea_any l 0 s f w)
  rw [show areaB (l : Int) 0 (s : Int) (f : Int) = true from h.b] at C42
  have C33 := Lib.hid (fun w => rIsLevel_any n d w)
  rw [hl] at C33
  clear h hl
  have s0 := ((KS.start w).new #[.int .i64 l, .int .i64 0, .int .i64 s, .int .i64 f] 23).new #[.int .i64 n, .int .i64 d] 36
  rw [World.size_alloc] at s0
  obtain ⟨kb1_0, kb1_1, _⟩ := (s0.blkAt 0 rfl).c2
  obtain ⟨kb0_0, kb0_1, kb0_2, kb0_3⟩ := (s0.blkAt 1 rfl).c4
  have S0 := Lib.hid s0
  clear s0
  go_enter Try.func10, Try.ntmps10
  go_wp2_with fail
  refine (C42.out _).mono ?_
  rintro e w1 ⟨rfl, h1⟩
  clear kb1_0 kb1_1 kb0_0 kb0_1 kb0_2 kb0_3
  have s1 := S0.out.below h1
  obtain ⟨kb1_0, kb1_1, _⟩ := (s1.blkAt 0 rfl).c2
  obtain ⟨kb0_0, kb0_1, kb0_2, kb0_3⟩ := (s1.blkAt 1 rfl).c4
  have S1 := Lib.hid s1
  clear h1 s1
  go_wp2_with fail
  refine (C33.out _).mono ?_
  rintro e w2 ⟨rfl, h2⟩
  clear kb1_0 kb1_1 kb0_0 kb0_1 kb0_2 kb0_3
  have s2 := S1.out.below h2
  obtain ⟨kb1_0, kb1_1, _⟩ := (s2.blkAt 0 rfl).c2
  obtain ⟨kb0_0, kb0_1, kb0_2, kb0_3⟩ := (s2.blkAt 1 rfl).c4
  have S2 := Lib.hid s2
  clear h2 s2
  go_wp2_with (first | (go_at_call 24; (with_reducible refine (awake_any _).mono ?_); rintro e w99 ⟨rfl, h99⟩; have S99 := Lib.hid (S2.out.below h99); clear h99))
  go_ret
  exact ⟨rfl, S99.out.bel⟩
end Go.Proofs.Ytkfobnhnehbkeaa
