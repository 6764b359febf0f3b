/- The walk of the statement on all chances. -/
import Derived.Test.YtkfobnhnehbkeaaLow
namespace Go.Proofs.Ytkfobnhnehbkeaa
open Go.RowKit Go.Shelf
open Mis (ch sets tot sm low up lower excl rng)

theorem sm_le_tot (l u s k : Nat) (h : k ≤ s + 1) : sm (sets l u s) 0 k ≤ tot l u s := by
  have e := Mis.sm_add (sets l u s) 0 k (s + 1 - k)
  rw [show k + (s + 1 - k) = s + 1 by omega] at e
  have h2 := Mis.low_full l u s
  unfold Mis.low at h2
  omega
set_option maxRecDepth 100000 in
set_option maxHeartbeats 4000000 in
theorem MissAll_area (L M S F b : Int) (w : World) (h : areaB L M S F = false) : Calls Try.prog 8 #[areaV L M S F, .int .u8 b] w fun e w' => e = .returned (.bool true) ∧ Below w.heap.size w w' := by
  have C42 := Lib.hid (fun w => rIsArea_any L M S F w)
  rw [h] at C42
  clear h
  have s0 := (KS.start w).new #[.int .i64 L, .int .i64 M, .int .i64 S, .int .i64 F] 23
  obtain ⟨kb0_0, kb0_1, kb0_2, kb0_3⟩ := (s0.blkAt 0 rfl).c4
  have S0 := Lib.hid s0
  clear s0
  go_enter Try.func8, Try.ntmps8
  go_wp2_with fail
  refine (C42.out _).mono ?_
  rintro e w1 ⟨rfl, h1⟩
  clear kb0_0 kb0_1 kb0_2 kb0_3
  have s1 := S0.out.below h1
  obtain ⟨kb0_0, kb0_1, kb0_2, kb0_3⟩ := (s1.blkAt 0 rfl).c4
  have S1 := Lib.hid s1
  clear h1 s1
  go_wp2_with (first | (go_at_call 24; (with_reducible refine (awake_any _).mono ?_); rintro e w99 ⟨rfl, h99⟩; have S99 := Lib.hid (S1.out.below h99); clear h99))
  go_ret
  exact ⟨rfl, S99.out.bel⟩
set_option maxRecDepth 100000 in
set_option maxHeartbeats 4000000 in
theorem MissAll_full (l M s f u : Nat) (b : Int) (w : World) (h : okA l M s f) (hb : 0 ≤ b ∧ b ≤ 255) (e1 : b % ((M : Int) + 1) = u) (hu : u ≤ M) (hfs : f = s) : Calls Try.prog 8 #[areaV l M s f, .int .u8 b] w fun e w' => e = .returned (.bool true) ∧ Below w.heap.size w w' := by
  obtain ⟨hb1, hb2⟩ := hb
  have C42 := Lib.hid (fun w => rIsArea_any l M s f w)
  rw [h.b] at C42
  have hd := h
  obtain ⟨h1, h2, h3⟩ := h
  have C43 := Lib.hid (fun w => rAll_any l M s f l u s rfl rfl w (by omega))
  have hD : 0 < tot l u s := hd.pos u
  have hD2 : tot l u s ≤ 1125899906842624 := tot_le l u s (by omega)
  have hM50 : M ≤ 50 := by omega
  have hs50 : s ≤ 50 := by omega
  have hg : (0 : Int) < (M : Int) + 1 := by omega
  have t1 : ((f : Int) == (s : Int)) = true := by simp; omega
  have t2 : (f == s) = true := by simpa using hfs
  clear hfs hd
  have s0 := (KS.start w).new #[.int .i64 l, .int .i64 M, .int .i64 s, .int .i64 f] 23
  obtain ⟨kb0_0, kb0_1, kb0_2, kb0_3⟩ := (s0.blkAt 0 rfl).c4
  have S0 := Lib.hid s0
  clear s0
  go_enter Try.func8, Try.ntmps8
  go_wp2_with fail
  refine (C42.out _).mono ?_
  rintro e w1 ⟨rfl, h1⟩
  clear kb0_0 kb0_1 kb0_2 kb0_3
  have s1 := S0.out.below h1
  obtain ⟨kb0_0, kb0_1, kb0_2, kb0_3⟩ := (s1.blkAt 0 rfl).c4
  have S1 := Lib.hid s1
  clear h1 s1
  go_wp2_with fail
  refine (C43.out _).mono ?_
  rintro e w2 ⟨rfl, h2⟩
  clear kb0_0 kb0_1 kb0_2 kb0_3
  have s2 := S1.out.below h2
  obtain ⟨kb0_0, kb0_1, kb0_2, kb0_3⟩ := (s2.blkAt 0 rfl).c4
  have S2 := Lib.hid s2
  clear h2 s2
  go_wp2_with fail
  clear kb0_0 kb0_1 kb0_2 kb0_3
  go_loopw [7, 8] (fun v x wr => ∃ k : Nat, k ≤ s + 1 ∧ x = .int .i64 (k : Int) ∧ v = .int .i64 (sm (sets l u s) 0 k : Nat) ∧ KS w [(w.heap.size, #[.int .i64 l, .int .i64 M, .int .i64 s, .int .i64 f], 23)] wr) (fun _ x _ => s + 1 - (intOf x).toNat)
  case atStart => exact ⟨0, Nat.zero_le _, rfl, rfl, S2.out⟩
  case round =>
    obtain ⟨k, hk, rfl, rfl, hS10⟩ := hrel
    have S10 := Lib.hid hS10
    obtain ⟨kb0_0, kb0_1, kb0_2, kb0_3⟩ := (hS10.blkAt 0 rfl).c4
    have lt0 := hS10.lt 0 rfl
    clear hS10
    by_cases hlt : k ≤ s
    · have C19 := Lib.hid (fun w => Chance_ok (l := l) (M := M) (s := s) (f := k) ⟨h1, h2, hlt⟩ hu w)
      have hN := Mis.sm_add (sets l u s) 0 k 1
      rw [Nat.zero_add] at hN
      have HN := Lib.hid hN
      have b1 := sm_le_tot l u s k hk
      have b2 := sm_le_tot l u s (k + 1) (by omega)
      have C44 := Lib.hid (fun w => add_any (sm (sets l u s) 0 k) (sm (sets l u s) k 1) (tot l u s) w hD (by omega) hD2 (by omega))
      unfold ChPost at C19
      unfold lowV at C19 C44
      have hT : sm (sets l u s) 0 k ≤ 1125899906842624 := by omega
      have hT2 : sm (sets l u s) k 1 ≤ 1125899906842624 := by omega
      clear hN b1 b2
      generalize sm (sets l u s) k 1 / Nat.gcd (sm (sets l u s) k 1) (tot l u s) = p at *
      generalize tot l u s / Nat.gcd (sm (sets l u s) k 1) (tot l u s) = p2 at *
      generalize sm (sets l u s) k 1 = N at *
      generalize sm (sets l u s) 0 k = t at *
      go_wp2_with fail
      have s11 := S10.out.new #[.int .i64 l, .int .i64 M, .int .i64 s, .int .i64 k] 23
      clear kb0_0 kb0_1 kb0_2 kb0_3
      obtain ⟨kb1_0, kb1_1, kb1_2, kb1_3⟩ := (s11.blkAt 0 rfl).c4
      obtain ⟨kb0_0, kb0_1, kb0_2, kb0_3⟩ := (s11.blkAt 1 rfl).c4
      have S11 := Lib.hid s11
      clear s11
      clear lt0
      refine (Area_any _ _ _ _ _).mono ?_
      rintro e w12 ⟨rfl, h12⟩
      clear kb1_0 kb1_1 kb1_2 kb1_3 kb0_0 kb0_1 kb0_2 kb0_3
      have s12 := S11.out.below h12
      obtain ⟨kb1_0, kb1_1, kb1_2, kb1_3⟩ := (s12.blkAt 0 rfl).c4
      obtain ⟨kb0_0, kb0_1, kb0_2, kb0_3⟩ := (s12.blkAt 1 rfl).c4
      have S12 := Lib.hid s12
      clear h12 s12
      go_wp2_with fail
      refine (C19.out _).mono ?_
      rintro e w13 ⟨rfl, h13⟩
      clear kb1_0 kb1_1 kb1_2 kb1_3 kb0_0 kb0_1 kb0_2 kb0_3
      have s13 := (S12.out.below h13).new #[.int .i64 p, .int .i64 p2] 25
      obtain ⟨kb2_0, kb2_1, _⟩ := (s13.blkAt 0 rfl).c2
      obtain ⟨kb1_0, kb1_1, kb1_2, kb1_3⟩ := (s13.blkAt 1 rfl).c4
      obtain ⟨kb0_0, kb0_1, kb0_2, kb0_3⟩ := (s13.blkAt 2 rfl).c4
      have S13 := Lib.hid s13
      clear h13 s13
      go_wp2_with fail
      refine (C44.out _).mono ?_
      rintro e w14 ⟨rfl, h14⟩
      clear kb2_0 kb2_1 kb1_0 kb1_1 kb1_2 kb1_3 kb0_0 kb0_1 kb0_2 kb0_3
      have s14 := S13.out.below h14
      obtain ⟨kb2_0, kb2_1, _⟩ := (s14.blkAt 0 rfl).c2
      obtain ⟨kb1_0, kb1_1, kb1_2, kb1_3⟩ := (s14.blkAt 1 rfl).c4
      obtain ⟨kb0_0, kb0_1, kb0_2, kb0_3⟩ := (s14.blkAt 2 rfl).c4
      have S14 := Lib.hid s14
      clear h14 s14
      go_wp2_with fail
      go_roundw
      case rel => exact ⟨k + 1, by omega, by go_num, by rw [HN.out]; go_num, S14.out.sub (fun x hx => List.mem_cons_of_mem _ (List.mem_cons_of_mem _ hx))⟩
      case measure => simp [intOf]; omega
    · obtain rfl : k = s + 1 := by omega
      have hfull : sm (sets l u s) 0 (s + 1) = tot l u s := Mis.low_full l u s
      rw [hfull]
      clear hfull hlt hk
      go_wp2_with (first | (go_at_call 24; (with_reducible refine (awake_any _).mono ?_); rintro e w99 ⟨rfl, h99⟩; have S99 := Lib.hid (S10.out.below h99); clear h99))
      go_ret
      exact ⟨rfl, S99.out.bel⟩
set_option maxRecDepth 100000 in
set_option maxHeartbeats 4000000 in
theorem MissAll_part (l M s f u : Nat) (b : Int) (w : World) (h : okA l M s f) (hb : 0 ≤ b ∧ b ≤ 255) (e1 : b % ((M : Int) + 1) = u) (hu : u ≤ M) (hfs : f < s) : Calls Try.prog 8 #[areaV l M s f, .int .u8 b] w fun e w' => e = .returned (.bool true) ∧ Below w.heap.size w w' := by
  obtain ⟨hb1, hb2⟩ := hb
  have C42 := Lib.hid (fun w => rIsArea_any l M s f w)
  rw [h.b] at C42
  have hd := h
  obtain ⟨h1, h2, h3⟩ := h
  have C43 := Lib.hid (fun w => rAll_any l M s f l u s rfl rfl w (by omega))
  have hD : 0 < tot l u s := hd.pos u
  have hD2 : tot l u s ≤ 1125899906842624 := tot_le l u s (by omega)
  have hM50 : M ≤ 50 := by omega
  have hs50 : s ≤ 50 := by omega
  have hg : (0 : Int) < (M : Int) + 1 := by omega
  have t1 : ((f : Int) == (s : Int)) = false := by simp; omega
  have t2 : (f == s) = false := by simp; omega
  have C21 := Lib.hid (fun w => Most_ok hd hu w)
  have hd1 : okA l M s (f + 1) := ⟨h1, h2, hfs⟩
  have D21 := Lib.hid (show ∀ w, Calls Try.prog 21 #[areaV l M s ((f : Int) + 1), .int .i64 u, .bool false] w (ChPost (Mis.up l u s (f + 1)) (tot l u s) w) from fun w => Least_ok hd1 hu w)
  have hlu := Mis.low_up l u s f hfs
  have C44 := Lib.hid (show ∀ w, Calls Try.prog 44 #[.int .i64 0, lowV (Mis.low l u s f) (tot l u s), .int .i64 (tot l u s : Nat)] w fun e w' => e = .returned (.tuple #[.int .i64 (Mis.low l u s f : Nat), .bool true]) ∧ Below w.heap.size w w' from fun w => by
    have h := add_any 0 (Mis.low l u s f) (tot l u s) w hD (by omega) hD2 (by omega)
    rw [show (((0 : Nat) : Int) + (Mis.low l u s f : Int)) = (Mis.low l u s f : Nat) by omega] at h
    exact h)
  have D44 := Lib.hid (show ∀ w, Calls Try.prog 44 #[.int .i64 (Mis.low l u s f : Nat), lowV (Mis.up l u s (f + 1)) (tot l u s), .int .i64 (tot l u s : Nat)] w fun e w' => e = .returned (.tuple #[.int .i64 (tot l u s : Nat), .bool true]) ∧ Below w.heap.size w w' from fun w => by
    have h := add_any (Mis.low l u s f) (Mis.up l u s (f + 1)) (tot l u s) w hD (by omega) hD2 (by omega)
    rw [show ((Mis.low l u s f : Int) + (Mis.up l u s (f + 1) : Int)) = (tot l u s : Nat) by omega] at h
    exact h)
  unfold ChPost at C21 D21
  unfold lowV at C21 D21 C44 D44
  generalize Mis.low l u s f / Nat.gcd (Mis.low l u s f) (tot l u s) = p1 at *
  generalize tot l u s / Nat.gcd (Mis.low l u s f) (tot l u s) = q1 at *
  generalize Mis.up l u s (f + 1) / Nat.gcd (Mis.up l u s (f + 1)) (tot l u s) = p2 at *
  generalize tot l u s / Nat.gcd (Mis.up l u s (f + 1)) (tot l u s) = q2 at *
  clear hfs hd hd1 hlu
  have s0 := (KS.start w).new #[.int .i64 l, .int .i64 M, .int .i64 s, .int .i64 f] 23
  obtain ⟨kb0_0, kb0_1, kb0_2, kb0_3⟩ := (s0.blkAt 0 rfl).c4
  have S0 := Lib.hid s0
  clear s0
  go_enter Try.func8, Try.ntmps8
  go_wp2_with fail
  refine (C42.out _).mono ?_
  rintro e w1 ⟨rfl, h1⟩
  clear kb0_0 kb0_1 kb0_2 kb0_3
  have s1 := S0.out.below h1
  obtain ⟨kb0_0, kb0_1, kb0_2, kb0_3⟩ := (s1.blkAt 0 rfl).c4
  have S1 := Lib.hid s1
  clear h1 s1
  go_wp2_with fail
  refine (C43.out _).mono ?_
  rintro e w2 ⟨rfl, h2⟩
  clear kb0_0 kb0_1 kb0_2 kb0_3
  have s2 := S1.out.below h2
  obtain ⟨kb0_0, kb0_1, kb0_2, kb0_3⟩ := (s2.blkAt 0 rfl).c4
  have S2 := Lib.hid s2
  clear h2 s2
  go_wp2_with fail
  clear kb0_0 kb0_1 kb0_2 kb0_3
  go_loopw [7, 8] (fun v x wr => ∃ k : Nat, k ≤ s + 1 ∧ x = .int .i64 (k : Int) ∧ v = .int .i64 (sm (sets l u s) 0 k : Nat) ∧ KS w [(w.heap.size, #[.int .i64 l, .int .i64 M, .int .i64 s, .int .i64 f], 23)] wr) (fun _ x _ => s + 1 - (intOf x).toNat)
  case atStart => exact ⟨0, Nat.zero_le _, rfl, rfl, S2.out⟩
  case round =>
    obtain ⟨k, hk, rfl, rfl, hS10⟩ := hrel
    have S10 := Lib.hid hS10
    obtain ⟨kb0_0, kb0_1, kb0_2, kb0_3⟩ := (hS10.blkAt 0 rfl).c4
    have lt0 := hS10.lt 0 rfl
    clear hS10
    by_cases hlt : k ≤ s
    · have C19 := Lib.hid (fun w => Chance_ok (l := l) (M := M) (s := s) (f := k) ⟨h1, h2, hlt⟩ hu w)
      have hN := Mis.sm_add (sets l u s) 0 k 1
      rw [Nat.zero_add] at hN
      have HN := Lib.hid hN
      have b1 := sm_le_tot l u s k hk
      have b2 := sm_le_tot l u s (k + 1) (by omega)
      have C44 := Lib.hid (fun w => add_any (sm (sets l u s) 0 k) (sm (sets l u s) k 1) (tot l u s) w hD (by omega) hD2 (by omega))
      unfold ChPost at C19
      unfold lowV at C19 C44
      have hT : sm (sets l u s) 0 k ≤ 1125899906842624 := by omega
      have hT2 : sm (sets l u s) k 1 ≤ 1125899906842624 := by omega
      clear hN b1 b2
      generalize sm (sets l u s) k 1 / Nat.gcd (sm (sets l u s) k 1) (tot l u s) = p at *
      generalize tot l u s / Nat.gcd (sm (sets l u s) k 1) (tot l u s) = p2 at *
      generalize sm (sets l u s) k 1 = N at *
      generalize sm (sets l u s) 0 k = t at *
      go_wp2_with fail
      have s11 := S10.out.new #[.int .i64 l, .int .i64 M, .int .i64 s, .int .i64 k] 23
      clear kb0_0 kb0_1 kb0_2 kb0_3
      obtain ⟨kb1_0, kb1_1, kb1_2, kb1_3⟩ := (s11.blkAt 0 rfl).c4
      obtain ⟨kb0_0, kb0_1, kb0_2, kb0_3⟩ := (s11.blkAt 1 rfl).c4
      have S11 := Lib.hid s11
      clear s11
      clear lt0
      refine (Area_any _ _ _ _ _).mono ?_
      rintro e w12 ⟨rfl, h12⟩
      clear kb1_0 kb1_1 kb1_2 kb1_3 kb0_0 kb0_1 kb0_2 kb0_3
      have s12 := S11.out.below h12
      obtain ⟨kb1_0, kb1_1, kb1_2, kb1_3⟩ := (s12.blkAt 0 rfl).c4
      obtain ⟨kb0_0, kb0_1, kb0_2, kb0_3⟩ := (s12.blkAt 1 rfl).c4
      have S12 := Lib.hid s12
      clear h12 s12
      go_wp2_with fail
      refine (C19.out _).mono ?_
      rintro e w13 ⟨rfl, h13⟩
      clear kb1_0 kb1_1 kb1_2 kb1_3 kb0_0 kb0_1 kb0_2 kb0_3
      have s13 := (S12.out.below h13).new #[.int .i64 p, .int .i64 p2] 25
      obtain ⟨kb2_0, kb2_1, _⟩ := (s13.blkAt 0 rfl).c2
      obtain ⟨kb1_0, kb1_1, kb1_2, kb1_3⟩ := (s13.blkAt 1 rfl).c4
      obtain ⟨kb0_0, kb0_1, kb0_2, kb0_3⟩ := (s13.blkAt 2 rfl).c4
      have S13 := Lib.hid s13
      clear h13 s13
      go_wp2_with fail
      refine (C44.out _).mono ?_
      rintro e w14 ⟨rfl, h14⟩
      clear kb2_0 kb2_1 kb1_0 kb1_1 kb1_2 kb1_3 kb0_0 kb0_1 kb0_2 kb0_3
      have s14 := S13.out.below h14
      obtain ⟨kb2_0, kb2_1, _⟩ := (s14.blkAt 0 rfl).c2
      obtain ⟨kb1_0, kb1_1, kb1_2, kb1_3⟩ := (s14.blkAt 1 rfl).c4
      obtain ⟨kb0_0, kb0_1, kb0_2, kb0_3⟩ := (s14.blkAt 2 rfl).c4
      have S14 := Lib.hid s14
      clear h14 s14
      go_wp2_with fail
      go_roundw
      case rel => exact ⟨k + 1, by omega, by go_num, by rw [HN.out]; go_num, S14.out.sub (fun x hx => List.mem_cons_of_mem _ (List.mem_cons_of_mem _ hx))⟩
      case measure => simp [intOf]; omega
    · obtain rfl : k = s + 1 := by omega
      have hfull : sm (sets l u s) 0 (s + 1) = tot l u s := Mis.low_full l u s
      rw [hfull]
      clear hfull hlt hk
      go_wp2_with fail
      have s11 := S10.out.new #[.int .i64 l, .int .i64 M, .int .i64 s, .int .i64 ((f : Int) + 1)] 23
      clear kb0_0 kb0_1 kb0_2 kb0_3
      obtain ⟨kb1_0, kb1_1, kb1_2, kb1_3⟩ := (s11.blkAt 0 rfl).c4
      obtain ⟨kb0_0, kb0_1, kb0_2, kb0_3⟩ := (s11.blkAt 1 rfl).c4
      have S11 := Lib.hid s11
      clear s11
      clear lt0
      refine (Area_any _ _ _ _ _).mono ?_
      rintro e w12 ⟨rfl, h12⟩
      clear kb1_0 kb1_1 kb1_2 kb1_3 kb0_0 kb0_1 kb0_2 kb0_3
      have s12 := S11.out.below h12
      obtain ⟨kb1_0, kb1_1, kb1_2, kb1_3⟩ := (s12.blkAt 0 rfl).c4
      obtain ⟨kb0_0, kb0_1, kb0_2, kb0_3⟩ := (s12.blkAt 1 rfl).c4
      have S12 := Lib.hid s12
      clear h12 s12
      go_wp2_with fail
      refine (C21.out _).mono ?_
      rintro e w13 ⟨rfl, h13⟩
      clear kb1_0 kb1_1 kb1_2 kb1_3 kb0_0 kb0_1 kb0_2 kb0_3
      have s13 := (S12.out.below h13).new #[.int .i64 p1, .int .i64 q1] 25
      obtain ⟨kb2_0, kb2_1, _⟩ := (s13.blkAt 0 rfl).c2
      obtain ⟨kb1_0, kb1_1, kb1_2, kb1_3⟩ := (s13.blkAt 1 rfl).c4
      obtain ⟨kb0_0, kb0_1, kb0_2, kb0_3⟩ := (s13.blkAt 2 rfl).c4
      have S13 := Lib.hid s13
      clear h13 s13
      go_wp2_with fail
      refine (Area_any _ _ _ _ _).mono ?_
      rintro e w14 ⟨rfl, h14⟩
      clear kb2_0 kb2_1 kb1_0 kb1_1 kb1_2 kb1_3 kb0_0 kb0_1 kb0_2 kb0_3
      have s14 := S13.out.below h14
      obtain ⟨kb2_0, kb2_1, _⟩ := (s14.blkAt 0 rfl).c2
      obtain ⟨kb1_0, kb1_1, kb1_2, kb1_3⟩ := (s14.blkAt 1 rfl).c4
      obtain ⟨kb0_0, kb0_1, kb0_2, kb0_3⟩ := (s14.blkAt 2 rfl).c4
      have S14 := Lib.hid s14
      clear h14 s14
      go_wp2_with fail
      refine (D21.out _).mono ?_
      rintro e w15 ⟨rfl, h15⟩
      clear kb2_0 kb2_1 kb1_0 kb1_1 kb1_2 kb1_3 kb0_0 kb0_1 kb0_2 kb0_3
      have s15 := (S14.out.below h15).new #[.int .i64 p2, .int .i64 q2] 25
      obtain ⟨kb3_0, kb3_1, _⟩ := (s15.blkAt 0 rfl).c2
      obtain ⟨kb2_0, kb2_1, _⟩ := (s15.blkAt 1 rfl).c2
      obtain ⟨kb1_0, kb1_1, kb1_2, kb1_3⟩ := (s15.blkAt 2 rfl).c4
      obtain ⟨kb0_0, kb0_1, kb0_2, kb0_3⟩ := (s15.blkAt 3 rfl).c4
      have S15 := Lib.hid s15
      clear h15 s15
      go_wp2_with fail
      refine (C44.out _).mono ?_
      rintro e w16 ⟨rfl, h16⟩
      clear kb3_0 kb3_1 kb2_0 kb2_1 kb1_0 kb1_1 kb1_2 kb1_3 kb0_0 kb0_1 kb0_2 kb0_3
      have s16 := S15.out.below h16
      obtain ⟨kb3_0, kb3_1, _⟩ := (s16.blkAt 0 rfl).c2
      obtain ⟨kb2_0, kb2_1, _⟩ := (s16.blkAt 1 rfl).c2
      obtain ⟨kb1_0, kb1_1, kb1_2, kb1_3⟩ := (s16.blkAt 2 rfl).c4
      obtain ⟨kb0_0, kb0_1, kb0_2, kb0_3⟩ := (s16.blkAt 3 rfl).c4
      have S16 := Lib.hid s16
      clear h16 s16
      go_wp2_with fail
      refine (D44.out _).mono ?_
      rintro e w17 ⟨rfl, h17⟩
      clear kb3_0 kb3_1 kb2_0 kb2_1 kb1_0 kb1_1 kb1_2 kb1_3 kb0_0 kb0_1 kb0_2 kb0_3
      have s17 := S16.out.below h17
      obtain ⟨kb3_0, kb3_1, _⟩ := (s17.blkAt 0 rfl).c2
      obtain ⟨kb2_0, kb2_1, _⟩ := (s17.blkAt 1 rfl).c2
      obtain ⟨kb1_0, kb1_1, kb1_2, kb1_3⟩ := (s17.blkAt 2 rfl).c4
      obtain ⟨kb0_0, kb0_1, kb0_2, kb0_3⟩ := (s17.blkAt 3 rfl).c4
      have S17 := Lib.hid s17
      clear h17 s17
      go_wp2_with (first | (go_at_call 24; (with_reducible refine (awake_any _).mono ?_); rintro e w99 ⟨rfl, h99⟩; have S99 := Lib.hid (S17.out.below h99); clear h99))
      go_ret
      exact ⟨rfl, S99.out.bel⟩
theorem MissAll_walk (L M S F b : Int) (w : World) (hb : (Lit.int .u8 b).wf = true) : Calls Try.prog 8 #[areaV L M S F, .int .u8 b] w fun e w' => e = .returned (.bool true) ∧ Below w.heap.size w w' := by
  have hb2 : 0 ≤ b ∧ b ≤ 255 := by simp [Lit.wf] at hb; exact hb
  cases h : areaB L M S F with
  | false => exact MissAll_area L M S F b w h
  | true =>
    obtain ⟨l, m, s, f, rfl, rfl, rfl, rfl, hk⟩ := okA.of h
    have p1 : 0 ≤ b % ((m : Int) + 1) := Int.emod_nonneg _ (by omega)
    have p2 : b % ((m : Int) + 1) < (m : Int) + 1 := Int.emod_lt_of_pos _ (by omega)
    obtain ⟨u, hu⟩ : ∃ u : Nat, b % ((m : Int) + 1) = u := ⟨(b % ((m : Int) + 1)).toNat, by omega⟩
    have hk3 := hk.2.2
    by_cases h1 : f = s
    · exact MissAll_full l m s f u b w hk hb2 hu (by omega) h1
    · exact MissAll_part l m s f u b w hk hb2 hu (by omega) (by omega)
end Go.Proofs.Ytkfobnhnehbkeaa
