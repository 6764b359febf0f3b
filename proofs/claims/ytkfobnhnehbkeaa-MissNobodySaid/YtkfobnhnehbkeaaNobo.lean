/- The walk of the statement on nobody missed. -/
import Derived.Test.YtkfobnhnehbkeaaMiss1
namespace Go.Proofs.Ytkfobnhnehbkeaa
open Go.RowKit Go.Shelf
open Mis (ch sets tot sm low up lower excl rng)

set_option maxRecDepth 100000 in
set_option maxHeartbeats 4000000 in
theorem MissNobody_area (L M S F n d : Int) (w : World) (h : areaB L M S F = false) : Calls Try.prog 14 #[areaV L M S F, fracV n d] w fun e w' => e = .returned (.bool true) ∧ Below w.heap.size w w' := by
  have C42 := Lib.hid (fun w => rIsArea_any L M S F w)
  rw [h] at C42
  have C33 := Lib.hid (fun w => rIsLevel_any n d w)
  clear h
  have s0 := ((KS.start w).new #[.int .i64 L, .int .i64 M, .int .i64 S, .int .i64 F] 23).new #[.int .i64 n, .int .i64 d] 36
  rw [World.size_alloc] at s0
  obtain ⟨kb1_0, kb1_1, _⟩ := (s0.blkAt 0 rfl).c2
  obtain ⟨kb0_0, kb0_1, kb0_2, kb0_3⟩ := (s0.blkAt 1 rfl).c4
  have S0 := Lib.hid s0
  clear s0
  go_enter Try.func14, Try.ntmps14
  go_wp2_with fail
  refine (C42.out _).mono ?_
  rintro e w1 ⟨rfl, h1⟩
  clear kb1_0 kb1_1 kb0_0 kb0_1 kb0_2 kb0_3
  have s1 := S0.out.below h1
  obtain ⟨kb1_0, kb1_1, _⟩ := (s1.blkAt 0 rfl).c2
  obtain ⟨kb0_0, kb0_1, kb0_2, kb0_3⟩ := (s1.blkAt 1 rfl).c4
  have S1 := Lib.hid s1
  clear h1 s1
  go_wp2_with (first | (go_at_call 24; (with_reducible refine (awake_any _).mono ?_); rintro e w99 ⟨rfl, h99⟩; have S99 := Lib.hid (S1.out.below h99); clear h99))
  go_ret
  exact ⟨rfl, S99.out.bel⟩
set_option maxRecDepth 100000 in
set_option maxHeartbeats 4000000 in
theorem MissNobody_level (L M S F n d : Int) (w : World) (h : areaB L M S F = true) (hl : levB n d = false) : Calls Try.prog 14 #[areaV L M S F, fracV n d] w fun e w' => e = .returned (.bool true) ∧ Below w.heap.size w w' := by
  have C42 := Lib.hid (fun w => rIsArea_any L M S F w)
  rw [h] at C42
  have C33 := Lib.hid (fun w => rIsLevel_any n d w)
  rw [hl] at C33
  clear h hl
  have s0 := ((KS.start w).new #[.int .i64 L, .int .i64 M, .int .i64 S, .int .i64 F] 23).new #[.int .i64 n, .int .i64 d] 36
  rw [World.size_alloc] at s0
  obtain ⟨kb1_0, kb1_1, _⟩ := (s0.blkAt 0 rfl).c2
  obtain ⟨kb0_0, kb0_1, kb0_2, kb0_3⟩ := (s0.blkAt 1 rfl).c4
  have S0 := Lib.hid s0
  clear s0
  go_enter Try.func14, Try.ntmps14
  go_wp2_with fail
  refine (C42.out _).mono ?_
  rintro e w1 ⟨rfl, h1⟩
  clear kb1_0 kb1_1 kb0_0 kb0_1 kb0_2 kb0_3
  have s1 := S0.out.below h1
  obtain ⟨kb1_0, kb1_1, _⟩ := (s1.blkAt 0 rfl).c2
  obtain ⟨kb0_0, kb0_1, kb0_2, kb0_3⟩ := (s1.blkAt 1 rfl).c4
  have S1 := Lib.hid s1
  clear h1 s1
  go_wp2_with fail
  refine (C33.out _).mono ?_
  rintro e w2 ⟨rfl, h2⟩
  clear kb1_0 kb1_1 kb0_0 kb0_1 kb0_2 kb0_3
  have s2 := S1.out.below h2
  obtain ⟨kb1_0, kb1_1, _⟩ := (s2.blkAt 0 rfl).c2
  obtain ⟨kb0_0, kb0_1, kb0_2, kb0_3⟩ := (s2.blkAt 1 rfl).c4
  have S2 := Lib.hid s2
  clear h2 s2
  go_wp2_with (first | (go_at_call 24; (with_reducible refine (awake_any _).mono ?_); rintro e w99 ⟨rfl, h99⟩; have S99 := Lib.hid (S2.out.below h99); clear h99))
  go_ret
  exact ⟨rfl, S99.out.bel⟩
set_option maxRecDepth 100000 in
set_option maxHeartbeats 4000000 in
theorem MissNobody_all (l M s f n d : Nat) (w : World) (h : okA l M s f) (hl : levB n d = true) (hfs : f = s) : Calls Try.prog 14 #[areaV l M s f, fracV n d] w fun e w' => e = .returned (.bool true) ∧ Below w.heap.size w w' := by
  have C42 := Lib.hid (fun w => rIsArea_any l M s f w)
  rw [h.b] at C42
  have C33 := Lib.hid (fun w => rIsLevel_any n d w)
  rw [hl] at C33
  obtain ⟨hi, C36⟩ : ∃ hi : Nat, Hid (∀ w, Calls Try.prog 36 #[areaV l M s s, fracV n d] w fun e w' => e = .returned (.tuple #[rangeV 0 (hi : Int), .int .i64 0]) ∧ Below w.heap.size w w') := by
    have hx := excl_all l s n d (lev_of hl).2.2
    cases hr : rangeOf l M s s n d with
    | none => rw [rangeOf_none hr 0 (Nat.zero_le _)] at hx; cases hx
    | some r =>
      obtain ⟨_, _, _, _, h5⟩ := rangeOf_some hr
      have h0 : r.1 = 0 := by have := (h5 0 (Nat.zero_le _) hx).1; omega
      obtain ⟨r1, r2⟩ := r
      obtain rfl : r1 = 0 := h0
      refine ⟨r2, Lib.hid fun w => ?_⟩
      have h1 := Missed_ok (l := l) (M := M) (s := s) (f := s) ⟨h.1, h.2.1, Nat.le_refl _⟩ hl w
      unfold MissedPost at h1
      rw [hr] at h1
      exact h1
  have t1 : ((f : Int) == (s : Int)) = true := by simp; omega
  have t2 : (f == s) = true := by simpa using hfs
  clear h hl hfs
  have s0 := ((KS.start w).new #[.int .i64 l, .int .i64 M, .int .i64 s, .int .i64 f] 23).new #[.int .i64 n, .int .i64 d] 36
  rw [World.size_alloc] at s0
  obtain ⟨kb1_0, kb1_1, _⟩ := (s0.blkAt 0 rfl).c2
  obtain ⟨kb0_0, kb0_1, kb0_2, kb0_3⟩ := (s0.blkAt 1 rfl).c4
  have S0 := Lib.hid s0
  clear s0
  go_enter Try.func14, Try.ntmps14
  go_wp2_with fail
  refine (C42.out _).mono ?_
  rintro e w1 ⟨rfl, h1⟩
  clear kb1_0 kb1_1 kb0_0 kb0_1 kb0_2 kb0_3
  have s1 := S0.out.below h1
  obtain ⟨kb1_0, kb1_1, _⟩ := (s1.blkAt 0 rfl).c2
  obtain ⟨kb0_0, kb0_1, kb0_2, kb0_3⟩ := (s1.blkAt 1 rfl).c4
  have S1 := Lib.hid s1
  clear h1 s1
  go_wp2_with fail
  refine (C33.out _).mono ?_
  rintro e w2 ⟨rfl, h2⟩
  clear kb1_0 kb1_1 kb0_0 kb0_1 kb0_2 kb0_3
  have s2 := S1.out.below h2
  obtain ⟨kb1_0, kb1_1, _⟩ := (s2.blkAt 0 rfl).c2
  obtain ⟨kb0_0, kb0_1, kb0_2, kb0_3⟩ := (s2.blkAt 1 rfl).c4
  have S2 := Lib.hid s2
  clear h2 s2
  have lt0 := S2.out.lt 0 rfl
  have lt1 := S2.out.lt 1 rfl
  go_wp2_with fail
  have s3 := S2.out.new #[.int .i64 l, .int .i64 M, .int .i64 s, .int .i64 s] 23
  clear kb1_0 kb1_1 kb0_0 kb0_1 kb0_2 kb0_3
  obtain ⟨kb2_0, kb2_1, kb2_2, kb2_3⟩ := (s3.blkAt 0 rfl).c4
  obtain ⟨kb1_0, kb1_1, _⟩ := (s3.blkAt 1 rfl).c2
  obtain ⟨kb0_0, kb0_1, kb0_2, kb0_3⟩ := (s3.blkAt 2 rfl).c4
  have S3 := Lib.hid s3
  clear s3
  clear lt0 lt1
  generalize (w2.alloc (.cells #[.int .i64 l, .int .i64 M, .int .i64 s, .int .i64 s] 23)) = V4 at *
  obtain ⟨BS, hBS⟩ : ∃ BS : List (Nat × Array Value × TypeId), BS = [(w2.heap.size, #[.int .i64 l, .int .i64 M, .int .i64 s, .int .i64 s], 23), (w.heap.size + 1, #[.int .i64 n, .int .i64 d], 36), (w.heap.size, #[.int .i64 l, .int .i64 M, .int .i64 s, .int .i64 f], 23)] := ⟨_, rfl⟩
  have hS : KS w BS V4 := by rw [hBS]; exact S3.out
  have K0_0 : ∀ W, KS w BS W → W.cell? ⟨w2.heap.size, 0, none⟩ = some (.int .i64 l) := fun W h => by rw [hBS] at h; exact (h.blkAt 0 rfl).cell 0
  have K0_1 : ∀ W, KS w BS W → W.cell? ⟨w2.heap.size, 1, none⟩ = some (.int .i64 M) := fun W h => by rw [hBS] at h; exact (h.blkAt 0 rfl).cell 1
  have K0_2 : ∀ W, KS w BS W → W.cell? ⟨w2.heap.size, 2, none⟩ = some (.int .i64 s) := fun W h => by rw [hBS] at h; exact (h.blkAt 0 rfl).cell 2
  have K0_3 : ∀ W, KS w BS W → W.cell? ⟨w2.heap.size, 3, none⟩ = some (.int .i64 s) := fun W h => by rw [hBS] at h; exact (h.blkAt 0 rfl).cell 3
  have K1_0 : ∀ W, KS w BS W → W.cell? ⟨w.heap.size + 1, 0, none⟩ = some (.int .i64 n) := fun W h => by rw [hBS] at h; exact (h.blkAt 1 rfl).cell 0
  have K1_1 : ∀ W, KS w BS W → W.cell? ⟨w.heap.size + 1, 1, none⟩ = some (.int .i64 d) := fun W h => by rw [hBS] at h; exact (h.blkAt 1 rfl).cell 1
  have K2_0 : ∀ W, KS w BS W → W.cell? ⟨w.heap.size, 0, none⟩ = some (.int .i64 l) := fun W h => by rw [hBS] at h; exact (h.blkAt 2 rfl).cell 0
  have K2_1 : ∀ W, KS w BS W → W.cell? ⟨w.heap.size, 1, none⟩ = some (.int .i64 M) := fun W h => by rw [hBS] at h; exact (h.blkAt 2 rfl).cell 1
  have K2_2 : ∀ W, KS w BS W → W.cell? ⟨w.heap.size, 2, none⟩ = some (.int .i64 s) := fun W h => by rw [hBS] at h; exact (h.blkAt 2 rfl).cell 2
  have K2_3 : ∀ W, KS w BS W → W.cell? ⟨w.heap.size, 3, none⟩ = some (.int .i64 f) := fun W h => by rw [hBS] at h; exact (h.blkAt 2 rfl).cell 3
  have KZ0 : ∀ W b, KZ w BS b #[.int .i64 0, .int .i64 0] 48 W → W.cell? ⟨b, 0, none⟩ = some (.int .i64 0) := fun W b h => h.c0
  have KZ1 : ∀ W b, KZ w BS b #[.int .i64 0, .int .i64 0] 48 W → W.cell? ⟨b, 1, none⟩ = some (.int .i64 0) := fun W b h => h.c1
  have KF0 : ∀ W b, KZ w BS b #[.int .i64 0, .int .i64 0] 48 W → W.frozen? ⟨b, 0, none⟩ = false := fun W b h => h.f 0
  have KF1 : ∀ W b, KZ w BS b #[.int .i64 0, .int .i64 0] 48 W → W.frozen? ⟨b, 1, none⟩ = false := fun W b h => h.f 1
  have HBS := Lib.hid hBS
  clear hBS kb2_0 kb2_1 kb2_2 kb2_3 kb1_0 kb1_1 kb0_0 kb0_1 kb0_2 kb0_3
  refine wp_join (f := fun a b => ((((((((((a.put (some 24) (.agg #[.int .i64 l, .int .i64 M, .int .i64 s, .int .i64 s])).put (some 25) (.agg #[.int .i64 l, .int .i64 M, .int .i64 s, .int .i64 s])).put (some 26) (.agg #[.int .i64 n, .int .i64 d])).put (some 27) (.agg #[.int .i64 n, .int .i64 d])).put (some 28) (.tuple #[.agg #[.int .i64 0, .int .i64 hi], .int .i64 0])).put (some 23) (.tuple #[.agg #[.int .i64 0, .int .i64 hi], .int .i64 0])).put (some 29) (.agg #[.int .i64 0, .int .i64 hi])).put (some 30) (.int .i64 0)).put (some 7) (.int .i64 0)).put (some 6) (.pointer (some ⟨b, 0, none⟩)))) (mid := fun b W' => KS w ((b, #[.int .i64 0, .int .i64 hi], 48) :: BS) W') ?_ ?_
  · go_region_held3 (KS w BS)
      (first | assumption | exact KS.drew (by assumption) | exact KS.alloc (by assumption) _ | exact KS.drew (KS.alloc (by assumption) _) | exact KS.alloc (KS.drew (by assumption)) _ | exact KZ.ks (by assumption) | exact (KZ.new (by assumption) _ _).ks | exact KZ.keep2 (by assumption) | exact (KZ.keep2 (by assumption)).drew | exact (KZ.drew (by assumption)).keep2 | go_keep)
      (first | (go_at_call 20; (with_reducible refine (Area_any _ _ _ _ _).mono ?_); rintro e wn ⟨rfl, hb⟩; have hSn := KS.below (w := w) (bs := BS) (by first | assumption | exact KS.drew (by assumption)) hb; (first | (have hZ := KZ.below (w := w) (bs := BS) (cs := #[.int .i64 0, .int .i64 0]) (t := 48) (by assumption) hb) | (have hZ := KZ.below (w := w) (bs := BS) (KZ.new (by assumption) #[.int .i64 0, .int .i64 0] 48) hb) | (have hZ := KZ.below (w := w) (bs := BS) (KZ.newD (by assumption) #[.int .i64 0, .int .i64 0] 48) hb) | skip); clear hb) | (go_at_call 25; (with_reducible refine (part_any _ _ _).mono ?_); rintro e wn ⟨rfl, hb⟩; have hSn := KS.below (w := w) (bs := BS) (by first | assumption | exact KS.drew (by assumption)) hb; (first | (have hZ := KZ.below (w := w) (bs := BS) (cs := #[.int .i64 0, .int .i64 0]) (t := 48) (by assumption) hb) | (have hZ := KZ.below (w := w) (bs := BS) (KZ.new (by assumption) #[.int .i64 0, .int .i64 0] 48) hb) | (have hZ := KZ.below (w := w) (bs := BS) (KZ.newD (by assumption) #[.int .i64 0, .int .i64 0] 48) hb) | skip); clear hb) | (go_at_call 36; (with_reducible refine (C36.out _).mono ?_); rintro e wn ⟨rfl, hb⟩; have hSn := KS.below (w := w) (bs := BS) (by first | assumption | exact KS.drew (by assumption)) hb; (first | (have hZ := KZ.below (w := w) (bs := BS) (cs := #[.int .i64 0, .int .i64 0]) (t := 48) (by assumption) hb) | (have hZ := KZ.below (w := w) (bs := BS) (KZ.new (by assumption) #[.int .i64 0, .int .i64 0] 48) hb) | (have hZ := KZ.below (w := w) (bs := BS) (KZ.newD (by assumption) #[.int .i64 0, .int .i64 0] 48) hb) | skip); clear hb))
    all_goals first | exact ⟨rfl, _, rfl, KS.new (by assumption) _ _⟩ | exact ⟨rfl, _, rfl, KZ.set2 (by assumption)⟩ | exact ⟨rfl, _, rfl, KZ.set2D (by assumption)⟩ | exact ⟨rfl, _, rfl, (KZ.set2 (by assumption)).drew⟩
  intro nb4 w4 hM
  simp only [Act.put, List.setIfInBounds_toArray, List.set_cons_zero, List.set_cons_succ]
  have s4 : KS w [(nb4, #[.int .i64 0, .int .i64 hi], 48), (w2.heap.size, #[.int .i64 l, .int .i64 M, .int .i64 s, .int .i64 s], 23), (w.heap.size + 1, #[.int .i64 n, .int .i64 d], 36), (w.heap.size, #[.int .i64 l, .int .i64 M, .int .i64 s, .int .i64 f], 23)] w4 := by have h := hM; rw [HBS.out] at h; exact h
  clear hS hM HBS KZ0 KZ1 KF0 KF1 K0_0 K0_1 K0_2 K0_3 K1_0 K1_1 K2_0 K2_1 K2_2 K2_3
  obtain ⟨kb3_0, kb3_1, _⟩ := (s4.blkAt 0 rfl).c2
  obtain ⟨kb2_0, kb2_1, kb2_2, kb2_3⟩ := (s4.blkAt 1 rfl).c4
  obtain ⟨kb1_0, kb1_1, _⟩ := (s4.blkAt 2 rfl).c2
  obtain ⟨kb0_0, kb0_1, kb0_2, kb0_3⟩ := (s4.blkAt 3 rfl).c4
  have S4 := Lib.hid s4
  clear s4
  go_wp2_with (first | (go_at_call 24; (with_reducible refine (awake_any _).mono ?_); rintro e w99 ⟨rfl, h99⟩; have S99 := Lib.hid (S4.out.below h99); clear h99))
  go_ret
  exact ⟨rfl, S99.out.bel⟩
set_option maxRecDepth 100000 in
set_option maxHeartbeats 4000000 in
theorem MissNobody_zero (l M s f n d : Nat) (w : World) (h : okA l M s f) (hl : levB n d = true) (hfs : f ≠ s) (hn : n = 0) : Calls Try.prog 14 #[areaV l M s f, fracV n d] w fun e w' => e = .returned (.bool true) ∧ Below w.heap.size w w' := by
  have C42 := Lib.hid (fun w => rIsArea_any l M s f w)
  rw [h.b] at C42
  have C33 := Lib.hid (fun w => rIsLevel_any n d w)
  rw [hl] at C33
  obtain ⟨hi, C36⟩ : ∃ hi : Nat, Hid (∀ w, Calls Try.prog 36 #[areaV l M s s, fracV n d] w fun e w' => e = .returned (.tuple #[rangeV 0 (hi : Int), .int .i64 0]) ∧ Below w.heap.size w w') := by
    have hx := excl_all l s n d (lev_of hl).2.2
    cases hr : rangeOf l M s s n d with
    | none => rw [rangeOf_none hr 0 (Nat.zero_le _)] at hx; cases hx
    | some r =>
      obtain ⟨_, _, _, _, h5⟩ := rangeOf_some hr
      have h0 : r.1 = 0 := by have := (h5 0 (Nat.zero_le _) hx).1; omega
      obtain ⟨r1, r2⟩ := r
      obtain rfl : r1 = 0 := h0
      refine ⟨r2, Lib.hid fun w => ?_⟩
      have h1 := Missed_ok (l := l) (M := M) (s := s) (f := s) ⟨h.1, h.2.1, Nat.le_refl _⟩ hl w
      unfold MissedPost at h1
      rw [hr] at h1
      exact h1
  have t1 : ((f : Int) == (s : Int)) = false := by simp; omega
  have t2 : (f == s) = false := by simpa using hfs
  have t3 : ((n : Int) == 0) = true := by simp; omega
  have t4 : (n == 0) = true := by simpa using hn
  clear h hl hfs hn
  have s0 := ((KS.start w).new #[.int .i64 l, .int .i64 M, .int .i64 s, .int .i64 f] 23).new #[.int .i64 n, .int .i64 d] 36
  rw [World.size_alloc] at s0
  obtain ⟨kb1_0, kb1_1, _⟩ := (s0.blkAt 0 rfl).c2
  obtain ⟨kb0_0, kb0_1, kb0_2, kb0_3⟩ := (s0.blkAt 1 rfl).c4
  have S0 := Lib.hid s0
  clear s0
  go_enter Try.func14, Try.ntmps14
  go_wp2_with fail
  refine (C42.out _).mono ?_
  rintro e w1 ⟨rfl, h1⟩
  clear kb1_0 kb1_1 kb0_0 kb0_1 kb0_2 kb0_3
  have s1 := S0.out.below h1
  obtain ⟨kb1_0, kb1_1, _⟩ := (s1.blkAt 0 rfl).c2
  obtain ⟨kb0_0, kb0_1, kb0_2, kb0_3⟩ := (s1.blkAt 1 rfl).c4
  have S1 := Lib.hid s1
  clear h1 s1
  go_wp2_with fail
  refine (C33.out _).mono ?_
  rintro e w2 ⟨rfl, h2⟩
  clear kb1_0 kb1_1 kb0_0 kb0_1 kb0_2 kb0_3
  have s2 := S1.out.below h2
  obtain ⟨kb1_0, kb1_1, _⟩ := (s2.blkAt 0 rfl).c2
  obtain ⟨kb0_0, kb0_1, kb0_2, kb0_3⟩ := (s2.blkAt 1 rfl).c4
  have S2 := Lib.hid s2
  clear h2 s2
  have lt0 := S2.out.lt 0 rfl
  have lt1 := S2.out.lt 1 rfl
  go_wp2_with fail
  have s3 := S2.out.new #[.int .i64 l, .int .i64 M, .int .i64 s, .int .i64 s] 23
  clear kb1_0 kb1_1 kb0_0 kb0_1 kb0_2 kb0_3
  obtain ⟨kb2_0, kb2_1, kb2_2, kb2_3⟩ := (s3.blkAt 0 rfl).c4
  obtain ⟨kb1_0, kb1_1, _⟩ := (s3.blkAt 1 rfl).c2
  obtain ⟨kb0_0, kb0_1, kb0_2, kb0_3⟩ := (s3.blkAt 2 rfl).c4
  have S3 := Lib.hid s3
  clear s3
  clear lt0 lt1
  generalize (w2.alloc (.cells #[.int .i64 l, .int .i64 M, .int .i64 s, .int .i64 s] 23)) = V4 at *
  obtain ⟨BS, hBS⟩ : ∃ BS : List (Nat × Array Value × TypeId), BS = [(w2.heap.size, #[.int .i64 l, .int .i64 M, .int .i64 s, .int .i64 s], 23), (w.heap.size + 1, #[.int .i64 n, .int .i64 d], 36), (w.heap.size, #[.int .i64 l, .int .i64 M, .int .i64 s, .int .i64 f], 23)] := ⟨_, rfl⟩
  have hS : KS w BS V4 := by rw [hBS]; exact S3.out
  have K0_0 : ∀ W, KS w BS W → W.cell? ⟨w2.heap.size, 0, none⟩ = some (.int .i64 l) := fun W h => by rw [hBS] at h; exact (h.blkAt 0 rfl).cell 0
  have K0_1 : ∀ W, KS w BS W → W.cell? ⟨w2.heap.size, 1, none⟩ = some (.int .i64 M) := fun W h => by rw [hBS] at h; exact (h.blkAt 0 rfl).cell 1
  have K0_2 : ∀ W, KS w BS W → W.cell? ⟨w2.heap.size, 2, none⟩ = some (.int .i64 s) := fun W h => by rw [hBS] at h; exact (h.blkAt 0 rfl).cell 2
  have K0_3 : ∀ W, KS w BS W → W.cell? ⟨w2.heap.size, 3, none⟩ = some (.int .i64 s) := fun W h => by rw [hBS] at h; exact (h.blkAt 0 rfl).cell 3
  have K1_0 : ∀ W, KS w BS W → W.cell? ⟨w.heap.size + 1, 0, none⟩ = some (.int .i64 n) := fun W h => by rw [hBS] at h; exact (h.blkAt 1 rfl).cell 0
  have K1_1 : ∀ W, KS w BS W → W.cell? ⟨w.heap.size + 1, 1, none⟩ = some (.int .i64 d) := fun W h => by rw [hBS] at h; exact (h.blkAt 1 rfl).cell 1
  have K2_0 : ∀ W, KS w BS W → W.cell? ⟨w.heap.size, 0, none⟩ = some (.int .i64 l) := fun W h => by rw [hBS] at h; exact (h.blkAt 2 rfl).cell 0
  have K2_1 : ∀ W, KS w BS W → W.cell? ⟨w.heap.size, 1, none⟩ = some (.int .i64 M) := fun W h => by rw [hBS] at h; exact (h.blkAt 2 rfl).cell 1
  have K2_2 : ∀ W, KS w BS W → W.cell? ⟨w.heap.size, 2, none⟩ = some (.int .i64 s) := fun W h => by rw [hBS] at h; exact (h.blkAt 2 rfl).cell 2
  have K2_3 : ∀ W, KS w BS W → W.cell? ⟨w.heap.size, 3, none⟩ = some (.int .i64 f) := fun W h => by rw [hBS] at h; exact (h.blkAt 2 rfl).cell 3
  have KZ0 : ∀ W b, KZ w BS b #[.int .i64 0, .int .i64 0] 48 W → W.cell? ⟨b, 0, none⟩ = some (.int .i64 0) := fun W b h => h.c0
  have KZ1 : ∀ W b, KZ w BS b #[.int .i64 0, .int .i64 0] 48 W → W.cell? ⟨b, 1, none⟩ = some (.int .i64 0) := fun W b h => h.c1
  have KF0 : ∀ W b, KZ w BS b #[.int .i64 0, .int .i64 0] 48 W → W.frozen? ⟨b, 0, none⟩ = false := fun W b h => h.f 0
  have KF1 : ∀ W b, KZ w BS b #[.int .i64 0, .int .i64 0] 48 W → W.frozen? ⟨b, 1, none⟩ = false := fun W b h => h.f 1
  have HBS := Lib.hid hBS
  clear hBS kb2_0 kb2_1 kb2_2 kb2_3 kb1_0 kb1_1 kb0_0 kb0_1 kb0_2 kb0_3
  refine wp_join (f := fun a b => ((((((((((a.put (some 24) (.agg #[.int .i64 l, .int .i64 M, .int .i64 s, .int .i64 s])).put (some 25) (.agg #[.int .i64 l, .int .i64 M, .int .i64 s, .int .i64 s])).put (some 26) (.agg #[.int .i64 n, .int .i64 d])).put (some 27) (.agg #[.int .i64 n, .int .i64 d])).put (some 28) (.tuple #[.agg #[.int .i64 0, .int .i64 hi], .int .i64 0])).put (some 23) (.tuple #[.agg #[.int .i64 0, .int .i64 hi], .int .i64 0])).put (some 29) (.agg #[.int .i64 0, .int .i64 hi])).put (some 30) (.int .i64 0)).put (some 7) (.int .i64 0)).put (some 6) (.pointer (some ⟨b, 0, none⟩)))) (mid := fun b W' => KS w ((b, #[.int .i64 0, .int .i64 hi], 48) :: BS) W') ?_ ?_
  · go_region_held3 (KS w BS)
      (first | assumption | exact KS.drew (by assumption) | exact KS.alloc (by assumption) _ | exact KS.drew (KS.alloc (by assumption) _) | exact KS.alloc (KS.drew (by assumption)) _ | exact KZ.ks (by assumption) | exact (KZ.new (by assumption) _ _).ks | exact KZ.keep2 (by assumption) | exact (KZ.keep2 (by assumption)).drew | exact (KZ.drew (by assumption)).keep2 | go_keep)
      (first | (go_at_call 20; (with_reducible refine (Area_any _ _ _ _ _).mono ?_); rintro e wn ⟨rfl, hb⟩; have hSn := KS.below (w := w) (bs := BS) (by first | assumption | exact KS.drew (by assumption)) hb; (first | (have hZ := KZ.below (w := w) (bs := BS) (cs := #[.int .i64 0, .int .i64 0]) (t := 48) (by assumption) hb) | (have hZ := KZ.below (w := w) (bs := BS) (KZ.new (by assumption) #[.int .i64 0, .int .i64 0] 48) hb) | (have hZ := KZ.below (w := w) (bs := BS) (KZ.newD (by assumption) #[.int .i64 0, .int .i64 0] 48) hb) | skip); clear hb) | (go_at_call 25; (with_reducible refine (part_any _ _ _).mono ?_); rintro e wn ⟨rfl, hb⟩; have hSn := KS.below (w := w) (bs := BS) (by first | assumption | exact KS.drew (by assumption)) hb; (first | (have hZ := KZ.below (w := w) (bs := BS) (cs := #[.int .i64 0, .int .i64 0]) (t := 48) (by assumption) hb) | (have hZ := KZ.below (w := w) (bs := BS) (KZ.new (by assumption) #[.int .i64 0, .int .i64 0] 48) hb) | (have hZ := KZ.below (w := w) (bs := BS) (KZ.newD (by assumption) #[.int .i64 0, .int .i64 0] 48) hb) | skip); clear hb) | (go_at_call 36; (with_reducible refine (C36.out _).mono ?_); rintro e wn ⟨rfl, hb⟩; have hSn := KS.below (w := w) (bs := BS) (by first | assumption | exact KS.drew (by assumption)) hb; (first | (have hZ := KZ.below (w := w) (bs := BS) (cs := #[.int .i64 0, .int .i64 0]) (t := 48) (by assumption) hb) | (have hZ := KZ.below (w := w) (bs := BS) (KZ.new (by assumption) #[.int .i64 0, .int .i64 0] 48) hb) | (have hZ := KZ.below (w := w) (bs := BS) (KZ.newD (by assumption) #[.int .i64 0, .int .i64 0] 48) hb) | skip); clear hb))
    all_goals first | exact ⟨rfl, _, rfl, KS.new (by assumption) _ _⟩ | exact ⟨rfl, _, rfl, KZ.set2 (by assumption)⟩ | exact ⟨rfl, _, rfl, KZ.set2D (by assumption)⟩ | exact ⟨rfl, _, rfl, (KZ.set2 (by assumption)).drew⟩
  intro nb4 w4 hM
  simp only [Act.put, List.setIfInBounds_toArray, List.set_cons_zero, List.set_cons_succ]
  have s4 : KS w [(nb4, #[.int .i64 0, .int .i64 hi], 48), (w2.heap.size, #[.int .i64 l, .int .i64 M, .int .i64 s, .int .i64 s], 23), (w.heap.size + 1, #[.int .i64 n, .int .i64 d], 36), (w.heap.size, #[.int .i64 l, .int .i64 M, .int .i64 s, .int .i64 f], 23)] w4 := by have h := hM; rw [HBS.out] at h; exact h
  clear hS hM HBS KZ0 KZ1 KF0 KF1 K0_0 K0_1 K0_2 K0_3 K1_0 K1_1 K2_0 K2_1 K2_2 K2_3
  obtain ⟨kb3_0, kb3_1, _⟩ := (s4.blkAt 0 rfl).c2
  obtain ⟨kb2_0, kb2_1, kb2_2, kb2_3⟩ := (s4.blkAt 1 rfl).c4
  obtain ⟨kb1_0, kb1_1, _⟩ := (s4.blkAt 2 rfl).c2
  obtain ⟨kb0_0, kb0_1, kb0_2, kb0_3⟩ := (s4.blkAt 3 rfl).c4
  have S4 := Lib.hid s4
  clear s4
  go_wp2_with (first | (go_at_call 24; (with_reducible refine (awake_any _).mono ?_); rintro e w99 ⟨rfl, h99⟩; have S99 := Lib.hid (S4.out.below h99); clear h99))
  go_ret
  exact ⟨rfl, S99.out.bel⟩
set_option maxRecDepth 100000 in
set_option maxHeartbeats 4000000 in
theorem MissNobody_other (l M s f n d : Nat) (w : World) (h : okA l M s f) (hl : levB n d = true) (hfs : f ≠ s) (hn : n ≠ 0) : Calls Try.prog 14 #[areaV l M s f, fracV n d] w fun e w' => e = .returned (.bool true) ∧ Below w.heap.size w w' := by
  have C42 := Lib.hid (fun w => rIsArea_any l M s f w)
  rw [h.b] at C42
  have C33 := Lib.hid (fun w => rIsLevel_any n d w)
  rw [hl] at C33
  obtain ⟨hi, C36⟩ : ∃ hi : Nat, Hid (∀ w, Calls Try.prog 36 #[areaV l M s s, fracV n d] w fun e w' => e = .returned (.tuple #[rangeV 0 (hi : Int), .int .i64 0]) ∧ Below w.heap.size w w') := by
    have hx := excl_all l s n d (lev_of hl).2.2
    cases hr : rangeOf l M s s n d with
    | none => rw [rangeOf_none hr 0 (Nat.zero_le _)] at hx; cases hx
    | some r =>
      obtain ⟨_, _, _, _, h5⟩ := rangeOf_some hr
      have h0 : r.1 = 0 := by have := (h5 0 (Nat.zero_le _) hx).1; omega
      obtain ⟨r1, r2⟩ := r
      obtain rfl : r1 = 0 := h0
      refine ⟨r2, Lib.hid fun w => ?_⟩
      have h1 := Missed_ok (l := l) (M := M) (s := s) (f := s) ⟨h.1, h.2.1, Nat.le_refl _⟩ hl w
      unfold MissedPost at h1
      rw [hr] at h1
      exact h1
  have t1 : ((f : Int) == (s : Int)) = false := by simp; omega
  have t2 : (f == s) = false := by simpa using hfs
  have t3 : ((n : Int) == 0) = false := by simp; omega
  have t4 : (n == 0) = false := by simpa using hn
  have hx0 := excl_none l s f n d (by have := h.2.2; omega) h.2.1 (by omega)
  have D0 := fun w => Missed_ok h hl w
  clear hfs hn hl
  cases hr : rangeOf l M s f n d with
  | none =>
    have D36 := Lib.hid (show ∀ w, Calls Try.prog 36 #[areaV l M s f, fracV n d] w fun e w' => e = .returned (.tuple #[rangeV 0 0, .int .i64 9]) ∧ Below w.heap.size w w' from fun w => by have h1 := D0 w; unfold MissedPost at h1; rw [hr] at h1; exact h1)
    clear h hr hx0 D0
    have s0 := ((KS.start w).new #[.int .i64 l, .int .i64 M, .int .i64 s, .int .i64 f] 23).new #[.int .i64 n, .int .i64 d] 36
    rw [World.size_alloc] at s0
    obtain ⟨kb1_0, kb1_1, _⟩ := (s0.blkAt 0 rfl).c2
    obtain ⟨kb0_0, kb0_1, kb0_2, kb0_3⟩ := (s0.blkAt 1 rfl).c4
    have S0 := Lib.hid s0
    clear s0
    go_enter Try.func14, Try.ntmps14
    go_wp2_with fail
    refine (C42.out _).mono ?_
    rintro e w1 ⟨rfl, h1⟩
    clear kb1_0 kb1_1 kb0_0 kb0_1 kb0_2 kb0_3
    have s1 := S0.out.below h1
    obtain ⟨kb1_0, kb1_1, _⟩ := (s1.blkAt 0 rfl).c2
    obtain ⟨kb0_0, kb0_1, kb0_2, kb0_3⟩ := (s1.blkAt 1 rfl).c4
    have S1 := Lib.hid s1
    clear h1 s1
    go_wp2_with fail
    refine (C33.out _).mono ?_
    rintro e w2 ⟨rfl, h2⟩
    clear kb1_0 kb1_1 kb0_0 kb0_1 kb0_2 kb0_3
    have s2 := S1.out.below h2
    obtain ⟨kb1_0, kb1_1, _⟩ := (s2.blkAt 0 rfl).c2
    obtain ⟨kb0_0, kb0_1, kb0_2, kb0_3⟩ := (s2.blkAt 1 rfl).c4
    have S2 := Lib.hid s2
    clear h2 s2
    have lt0 := S2.out.lt 0 rfl
    have lt1 := S2.out.lt 1 rfl
    go_wp2_with fail
    have s3 := S2.out.new #[.int .i64 l, .int .i64 M, .int .i64 s, .int .i64 s] 23
    clear kb1_0 kb1_1 kb0_0 kb0_1 kb0_2 kb0_3
    obtain ⟨kb2_0, kb2_1, kb2_2, kb2_3⟩ := (s3.blkAt 0 rfl).c4
    obtain ⟨kb1_0, kb1_1, _⟩ := (s3.blkAt 1 rfl).c2
    obtain ⟨kb0_0, kb0_1, kb0_2, kb0_3⟩ := (s3.blkAt 2 rfl).c4
    have S3 := Lib.hid s3
    clear s3
    clear lt0 lt1
    generalize (w2.alloc (.cells #[.int .i64 l, .int .i64 M, .int .i64 s, .int .i64 s] 23)) = V4 at *
    obtain ⟨BS, hBS⟩ : ∃ BS : List (Nat × Array Value × TypeId), BS = [(w2.heap.size, #[.int .i64 l, .int .i64 M, .int .i64 s, .int .i64 s], 23), (w.heap.size + 1, #[.int .i64 n, .int .i64 d], 36), (w.heap.size, #[.int .i64 l, .int .i64 M, .int .i64 s, .int .i64 f], 23)] := ⟨_, rfl⟩
    have hS : KS w BS V4 := by rw [hBS]; exact S3.out
    have K0_0 : ∀ W, KS w BS W → W.cell? ⟨w2.heap.size, 0, none⟩ = some (.int .i64 l) := fun W h => by rw [hBS] at h; exact (h.blkAt 0 rfl).cell 0
    have K0_1 : ∀ W, KS w BS W → W.cell? ⟨w2.heap.size, 1, none⟩ = some (.int .i64 M) := fun W h => by rw [hBS] at h; exact (h.blkAt 0 rfl).cell 1
    have K0_2 : ∀ W, KS w BS W → W.cell? ⟨w2.heap.size, 2, none⟩ = some (.int .i64 s) := fun W h => by rw [hBS] at h; exact (h.blkAt 0 rfl).cell 2
    have K0_3 : ∀ W, KS w BS W → W.cell? ⟨w2.heap.size, 3, none⟩ = some (.int .i64 s) := fun W h => by rw [hBS] at h; exact (h.blkAt 0 rfl).cell 3
    have K1_0 : ∀ W, KS w BS W → W.cell? ⟨w.heap.size + 1, 0, none⟩ = some (.int .i64 n) := fun W h => by rw [hBS] at h; exact (h.blkAt 1 rfl).cell 0
    have K1_1 : ∀ W, KS w BS W → W.cell? ⟨w.heap.size + 1, 1, none⟩ = some (.int .i64 d) := fun W h => by rw [hBS] at h; exact (h.blkAt 1 rfl).cell 1
    have K2_0 : ∀ W, KS w BS W → W.cell? ⟨w.heap.size, 0, none⟩ = some (.int .i64 l) := fun W h => by rw [hBS] at h; exact (h.blkAt 2 rfl).cell 0
    have K2_1 : ∀ W, KS w BS W → W.cell? ⟨w.heap.size, 1, none⟩ = some (.int .i64 M) := fun W h => by rw [hBS] at h; exact (h.blkAt 2 rfl).cell 1
    have K2_2 : ∀ W, KS w BS W → W.cell? ⟨w.heap.size, 2, none⟩ = some (.int .i64 s) := fun W h => by rw [hBS] at h; exact (h.blkAt 2 rfl).cell 2
    have K2_3 : ∀ W, KS w BS W → W.cell? ⟨w.heap.size, 3, none⟩ = some (.int .i64 f) := fun W h => by rw [hBS] at h; exact (h.blkAt 2 rfl).cell 3
    have KZ0 : ∀ W b, KZ w BS b #[.int .i64 0, .int .i64 0] 48 W → W.cell? ⟨b, 0, none⟩ = some (.int .i64 0) := fun W b h => h.c0
    have KZ1 : ∀ W b, KZ w BS b #[.int .i64 0, .int .i64 0] 48 W → W.cell? ⟨b, 1, none⟩ = some (.int .i64 0) := fun W b h => h.c1
    have KF0 : ∀ W b, KZ w BS b #[.int .i64 0, .int .i64 0] 48 W → W.frozen? ⟨b, 0, none⟩ = false := fun W b h => h.f 0
    have KF1 : ∀ W b, KZ w BS b #[.int .i64 0, .int .i64 0] 48 W → W.frozen? ⟨b, 1, none⟩ = false := fun W b h => h.f 1
    have HBS := Lib.hid hBS
    clear hBS kb2_0 kb2_1 kb2_2 kb2_3 kb1_0 kb1_1 kb0_0 kb0_1 kb0_2 kb0_3
    refine wp_join (f := fun a b => ((((((((((a.put (some 24) (.agg #[.int .i64 l, .int .i64 M, .int .i64 s, .int .i64 s])).put (some 25) (.agg #[.int .i64 l, .int .i64 M, .int .i64 s, .int .i64 s])).put (some 26) (.agg #[.int .i64 n, .int .i64 d])).put (some 27) (.agg #[.int .i64 n, .int .i64 d])).put (some 28) (.tuple #[.agg #[.int .i64 0, .int .i64 hi], .int .i64 0])).put (some 23) (.tuple #[.agg #[.int .i64 0, .int .i64 hi], .int .i64 0])).put (some 29) (.agg #[.int .i64 0, .int .i64 hi])).put (some 30) (.int .i64 0)).put (some 7) (.int .i64 0)).put (some 6) (.pointer (some ⟨b, 0, none⟩)))) (mid := fun b W' => KS w ((b, #[.int .i64 0, .int .i64 hi], 48) :: BS) W') ?_ ?_
    · go_region_held3 (KS w BS)
        (first | assumption | exact KS.drew (by assumption) | exact KS.alloc (by assumption) _ | exact KS.drew (KS.alloc (by assumption) _) | exact KS.alloc (KS.drew (by assumption)) _ | exact KZ.ks (by assumption) | exact (KZ.new (by assumption) _ _).ks | exact KZ.keep2 (by assumption) | exact (KZ.keep2 (by assumption)).drew | exact (KZ.drew (by assumption)).keep2 | go_keep)
        (first | (go_at_call 20; (with_reducible refine (Area_any _ _ _ _ _).mono ?_); rintro e wn ⟨rfl, hb⟩; have hSn := KS.below (w := w) (bs := BS) (by first | assumption | exact KS.drew (by assumption)) hb; (first | (have hZ := KZ.below (w := w) (bs := BS) (cs := #[.int .i64 0, .int .i64 0]) (t := 48) (by assumption) hb) | (have hZ := KZ.below (w := w) (bs := BS) (KZ.new (by assumption) #[.int .i64 0, .int .i64 0] 48) hb) | (have hZ := KZ.below (w := w) (bs := BS) (KZ.newD (by assumption) #[.int .i64 0, .int .i64 0] 48) hb) | skip); clear hb) | (go_at_call 25; (with_reducible refine (part_any _ _ _).mono ?_); rintro e wn ⟨rfl, hb⟩; have hSn := KS.below (w := w) (bs := BS) (by first | assumption | exact KS.drew (by assumption)) hb; (first | (have hZ := KZ.below (w := w) (bs := BS) (cs := #[.int .i64 0, .int .i64 0]) (t := 48) (by assumption) hb) | (have hZ := KZ.below (w := w) (bs := BS) (KZ.new (by assumption) #[.int .i64 0, .int .i64 0] 48) hb) | (have hZ := KZ.below (w := w) (bs := BS) (KZ.newD (by assumption) #[.int .i64 0, .int .i64 0] 48) hb) | skip); clear hb) | (go_at_call 36; (with_reducible refine (C36.out _).mono ?_); rintro e wn ⟨rfl, hb⟩; have hSn := KS.below (w := w) (bs := BS) (by first | assumption | exact KS.drew (by assumption)) hb; (first | (have hZ := KZ.below (w := w) (bs := BS) (cs := #[.int .i64 0, .int .i64 0]) (t := 48) (by assumption) hb) | (have hZ := KZ.below (w := w) (bs := BS) (KZ.new (by assumption) #[.int .i64 0, .int .i64 0] 48) hb) | (have hZ := KZ.below (w := w) (bs := BS) (KZ.newD (by assumption) #[.int .i64 0, .int .i64 0] 48) hb) | skip); clear hb))
      all_goals first | exact ⟨rfl, _, rfl, KS.new (by assumption) _ _⟩ | exact ⟨rfl, _, rfl, KZ.set2 (by assumption)⟩ | exact ⟨rfl, _, rfl, KZ.set2D (by assumption)⟩ | exact ⟨rfl, _, rfl, (KZ.set2 (by assumption)).drew⟩
    intro nb4 w4 hM
    simp only [Act.put, List.setIfInBounds_toArray, List.set_cons_zero, List.set_cons_succ]
    have s4 : KS w [(nb4, #[.int .i64 0, .int .i64 hi], 48), (w2.heap.size, #[.int .i64 l, .int .i64 M, .int .i64 s, .int .i64 s], 23), (w.heap.size + 1, #[.int .i64 n, .int .i64 d], 36), (w.heap.size, #[.int .i64 l, .int .i64 M, .int .i64 s, .int .i64 f], 23)] w4 := by have h := hM; rw [HBS.out] at h; exact h
    clear hS hM HBS KZ0 KZ1 KF0 KF1 K0_0 K0_1 K0_2 K0_3 K1_0 K1_1 K2_0 K2_1 K2_2 K2_3
    obtain ⟨kb3_0, kb3_1, _⟩ := (s4.blkAt 0 rfl).c2
    obtain ⟨kb2_0, kb2_1, kb2_2, kb2_3⟩ := (s4.blkAt 1 rfl).c4
    obtain ⟨kb1_0, kb1_1, _⟩ := (s4.blkAt 2 rfl).c2
    obtain ⟨kb0_0, kb0_1, kb0_2, kb0_3⟩ := (s4.blkAt 3 rfl).c4
    have S4 := Lib.hid s4
    clear s4
    go_wp2_with fail
    obtain ⟨BS, hBS⟩ : ∃ BS : List (Nat × Array Value × TypeId), BS = [(nb4, #[.int .i64 0, .int .i64 hi], 48), (w2.heap.size, #[.int .i64 l, .int .i64 M, .int .i64 s, .int .i64 s], 23), (w.heap.size + 1, #[.int .i64 n, .int .i64 d], 36), (w.heap.size, #[.int .i64 l, .int .i64 M, .int .i64 s, .int .i64 f], 23)] := ⟨_, rfl⟩
    have hS : KS w BS w4 := by rw [hBS]; exact S4.out
    have K0_0 : ∀ W, KS w BS W → W.cell? ⟨nb4, 0, none⟩ = some (.int .i64 0) := fun W h => by rw [hBS] at h; exact (h.blkAt 0 rfl).cell 0
    have K0_1 : ∀ W, KS w BS W → W.cell? ⟨nb4, 1, none⟩ = some (.int .i64 hi) := fun W h => by rw [hBS] at h; exact (h.blkAt 0 rfl).cell 1
    have K1_0 : ∀ W, KS w BS W → W.cell? ⟨w2.heap.size, 0, none⟩ = some (.int .i64 l) := fun W h => by rw [hBS] at h; exact (h.blkAt 1 rfl).cell 0
    have K1_1 : ∀ W, KS w BS W → W.cell? ⟨w2.heap.size, 1, none⟩ = some (.int .i64 M) := fun W h => by rw [hBS] at h; exact (h.blkAt 1 rfl).cell 1
    have K1_2 : ∀ W, KS w BS W → W.cell? ⟨w2.heap.size, 2, none⟩ = some (.int .i64 s) := fun W h => by rw [hBS] at h; exact (h.blkAt 1 rfl).cell 2
    have K1_3 : ∀ W, KS w BS W → W.cell? ⟨w2.heap.size, 3, none⟩ = some (.int .i64 s) := fun W h => by rw [hBS] at h; exact (h.blkAt 1 rfl).cell 3
    have K2_0 : ∀ W, KS w BS W → W.cell? ⟨w.heap.size + 1, 0, none⟩ = some (.int .i64 n) := fun W h => by rw [hBS] at h; exact (h.blkAt 2 rfl).cell 0
    have K2_1 : ∀ W, KS w BS W → W.cell? ⟨w.heap.size + 1, 1, none⟩ = some (.int .i64 d) := fun W h => by rw [hBS] at h; exact (h.blkAt 2 rfl).cell 1
    have K3_0 : ∀ W, KS w BS W → W.cell? ⟨w.heap.size, 0, none⟩ = some (.int .i64 l) := fun W h => by rw [hBS] at h; exact (h.blkAt 3 rfl).cell 0
    have K3_1 : ∀ W, KS w BS W → W.cell? ⟨w.heap.size, 1, none⟩ = some (.int .i64 M) := fun W h => by rw [hBS] at h; exact (h.blkAt 3 rfl).cell 1
    have K3_2 : ∀ W, KS w BS W → W.cell? ⟨w.heap.size, 2, none⟩ = some (.int .i64 s) := fun W h => by rw [hBS] at h; exact (h.blkAt 3 rfl).cell 2
    have K3_3 : ∀ W, KS w BS W → W.cell? ⟨w.heap.size, 3, none⟩ = some (.int .i64 f) := fun W h => by rw [hBS] at h; exact (h.blkAt 3 rfl).cell 3
    have KZ0 : ∀ W b, KZ w BS b #[.int .i64 0, .int .i64 0] 48 W → W.cell? ⟨b, 0, none⟩ = some (.int .i64 0) := fun W b h => h.c0
    have KZ1 : ∀ W b, KZ w BS b #[.int .i64 0, .int .i64 0] 48 W → W.cell? ⟨b, 1, none⟩ = some (.int .i64 0) := fun W b h => h.c1
    have KF0 : ∀ W b, KZ w BS b #[.int .i64 0, .int .i64 0] 48 W → W.frozen? ⟨b, 0, none⟩ = false := fun W b h => h.f 0
    have KF1 : ∀ W b, KZ w BS b #[.int .i64 0, .int .i64 0] 48 W → W.frozen? ⟨b, 1, none⟩ = false := fun W b h => h.f 1
    have HBS := Lib.hid hBS
    clear hBS kb3_0 kb3_1 kb2_0 kb2_1 kb2_2 kb2_3 kb1_0 kb1_1 kb0_0 kb0_1 kb0_2 kb0_3
    refine wp_join (f := fun a b => ((((((((((a.put (some 50) (.agg #[.int .i64 l, .int .i64 M, .int .i64 s, .int .i64 f])).put (some 51) (.agg #[.int .i64 l, .int .i64 M, .int .i64 s, .int .i64 f])).put (some 52) (.agg #[.int .i64 n, .int .i64 d])).put (some 53) (.agg #[.int .i64 n, .int .i64 d])).put (some 54) (.tuple #[.agg #[.int .i64 0, .int .i64 0], .int .i64 9])).put (some 49) (.tuple #[.agg #[.int .i64 0, .int .i64 0], .int .i64 9])).put (some 55) (.agg #[.int .i64 0, .int .i64 0])).put (some 56) (.int .i64 9)).put (some 9) (.int .i64 9)).put (some 8) (.pointer (some ⟨b, 0, none⟩)))) (mid := fun b W' => KS w ((b, #[.int .i64 0, .int .i64 0], 48) :: BS) W') ?_ ?_
    · go_region_held3 (KS w BS)
        (first | assumption | exact KS.drew (by assumption) | exact KS.alloc (by assumption) _ | exact KS.drew (KS.alloc (by assumption) _) | exact KS.alloc (KS.drew (by assumption)) _ | exact KZ.ks (by assumption) | exact (KZ.new (by assumption) _ _).ks | exact KZ.keep2 (by assumption) | exact (KZ.keep2 (by assumption)).drew | exact (KZ.drew (by assumption)).keep2 | go_keep)
        (first | (go_at_call 20; (with_reducible refine (Area_any _ _ _ _ _).mono ?_); rintro e wn ⟨rfl, hb⟩; have hSn := KS.below (w := w) (bs := BS) (by first | assumption | exact KS.drew (by assumption)) hb; (first | (have hZ := KZ.below (w := w) (bs := BS) (cs := #[.int .i64 0, .int .i64 0]) (t := 48) (by assumption) hb) | (have hZ := KZ.below (w := w) (bs := BS) (KZ.new (by assumption) #[.int .i64 0, .int .i64 0] 48) hb) | (have hZ := KZ.below (w := w) (bs := BS) (KZ.newD (by assumption) #[.int .i64 0, .int .i64 0] 48) hb) | skip); clear hb) | (go_at_call 25; (with_reducible refine (part_any _ _ _).mono ?_); rintro e wn ⟨rfl, hb⟩; have hSn := KS.below (w := w) (bs := BS) (by first | assumption | exact KS.drew (by assumption)) hb; (first | (have hZ := KZ.below (w := w) (bs := BS) (cs := #[.int .i64 0, .int .i64 0]) (t := 48) (by assumption) hb) | (have hZ := KZ.below (w := w) (bs := BS) (KZ.new (by assumption) #[.int .i64 0, .int .i64 0] 48) hb) | (have hZ := KZ.below (w := w) (bs := BS) (KZ.newD (by assumption) #[.int .i64 0, .int .i64 0] 48) hb) | skip); clear hb) | (go_at_call 36; (with_reducible refine (D36.out _).mono ?_); rintro e wn ⟨rfl, hb⟩; have hSn := KS.below (w := w) (bs := BS) (by first | assumption | exact KS.drew (by assumption)) hb; (first | (have hZ := KZ.below (w := w) (bs := BS) (cs := #[.int .i64 0, .int .i64 0]) (t := 48) (by assumption) hb) | (have hZ := KZ.below (w := w) (bs := BS) (KZ.new (by assumption) #[.int .i64 0, .int .i64 0] 48) hb) | (have hZ := KZ.below (w := w) (bs := BS) (KZ.newD (by assumption) #[.int .i64 0, .int .i64 0] 48) hb) | skip); clear hb))
      all_goals first | exact ⟨rfl, _, rfl, KS.new (by assumption) _ _⟩ | exact ⟨rfl, _, rfl, KZ.set2 (by assumption)⟩ | exact ⟨rfl, _, rfl, KZ.set2D (by assumption)⟩ | exact ⟨rfl, _, rfl, (KZ.set2 (by assumption)).drew⟩
    intro nb5 w5 hM
    simp only [Act.put, List.setIfInBounds_toArray, List.set_cons_zero, List.set_cons_succ]
    have s5 : KS w [(nb5, #[.int .i64 0, .int .i64 0], 48), (nb4, #[.int .i64 0, .int .i64 hi], 48), (w2.heap.size, #[.int .i64 l, .int .i64 M, .int .i64 s, .int .i64 s], 23), (w.heap.size + 1, #[.int .i64 n, .int .i64 d], 36), (w.heap.size, #[.int .i64 l, .int .i64 M, .int .i64 s, .int .i64 f], 23)] w5 := by have h := hM; rw [HBS.out] at h; exact h
    clear hS hM HBS KZ0 KZ1 KF0 KF1 K0_0 K0_1 K1_0 K1_1 K1_2 K1_3 K2_0 K2_1 K3_0 K3_1 K3_2 K3_3
    obtain ⟨kb4_0, kb4_1, _⟩ := (s5.blkAt 0 rfl).c2
    obtain ⟨kb3_0, kb3_1, _⟩ := (s5.blkAt 1 rfl).c2
    obtain ⟨kb2_0, kb2_1, kb2_2, kb2_3⟩ := (s5.blkAt 2 rfl).c4
    obtain ⟨kb1_0, kb1_1, _⟩ := (s5.blkAt 3 rfl).c2
    obtain ⟨kb0_0, kb0_1, kb0_2, kb0_3⟩ := (s5.blkAt 4 rfl).c4
    have S5 := Lib.hid s5
    clear s5
    go_wp2_with (first | (go_at_call 24; (with_reducible refine (awake_any _).mono ?_); rintro e w99 ⟨rfl, h99⟩; have S99 := Lib.hid (S5.out.below h99); clear h99))
    go_ret
    exact ⟨rfl, S99.out.bel⟩
  | some rr =>
    obtain ⟨h5, _⟩ := rangeOf_some hr
    have hpos : 0 < rr.1 := by
      rcases Nat.eq_zero_or_pos rr.1 with h6 | h6
      · rw [h6, hx0] at h5; cases h5
      · exact h6
    have D36 := Lib.hid (show ∀ w, Calls Try.prog 36 #[areaV l M s f, fracV n d] w fun e w' => e = .returned (.tuple #[rangeV (rr.1 : Nat) (rr.2 : Nat), .int .i64 0]) ∧ Below w.heap.size w w' from fun w => by have h1 := D0 w; unfold MissedPost at h1; rw [hr] at h1; exact h1)
    clear h hr hx0 D0 h5
    obtain ⟨lo2, hi2⟩ := rr
    have t5 : decide ((0 : Int) < (lo2 : Int)) = true := by simp; exact hpos
    have t6 : decide (0 < lo2) = true := by simp; exact hpos
    simp only [] at D36 hpos
    have s0 := ((KS.start w).new #[.int .i64 l, .int .i64 M, .int .i64 s, .int .i64 f] 23).new #[.int .i64 n, .int .i64 d] 36
    rw [World.size_alloc] at s0
    obtain ⟨kb1_0, kb1_1, _⟩ := (s0.blkAt 0 rfl).c2
    obtain ⟨kb0_0, kb0_1, kb0_2, kb0_3⟩ := (s0.blkAt 1 rfl).c4
    have S0 := Lib.hid s0
    clear s0
    go_enter Try.func14, Try.ntmps14
    go_wp2_with fail
    refine (C42.out _).mono ?_
    rintro e w1 ⟨rfl, h1⟩
    clear kb1_0 kb1_1 kb0_0 kb0_1 kb0_2 kb0_3
    have s1 := S0.out.below h1
    obtain ⟨kb1_0, kb1_1, _⟩ := (s1.blkAt 0 rfl).c2
    obtain ⟨kb0_0, kb0_1, kb0_2, kb0_3⟩ := (s1.blkAt 1 rfl).c4
    have S1 := Lib.hid s1
    clear h1 s1
    go_wp2_with fail
    refine (C33.out _).mono ?_
    rintro e w2 ⟨rfl, h2⟩
    clear kb1_0 kb1_1 kb0_0 kb0_1 kb0_2 kb0_3
    have s2 := S1.out.below h2
    obtain ⟨kb1_0, kb1_1, _⟩ := (s2.blkAt 0 rfl).c2
    obtain ⟨kb0_0, kb0_1, kb0_2, kb0_3⟩ := (s2.blkAt 1 rfl).c4
    have S2 := Lib.hid s2
    clear h2 s2
    have lt0 := S2.out.lt 0 rfl
    have lt1 := S2.out.lt 1 rfl
    go_wp2_with fail
    have s3 := S2.out.new #[.int .i64 l, .int .i64 M, .int .i64 s, .int .i64 s] 23
    clear kb1_0 kb1_1 kb0_0 kb0_1 kb0_2 kb0_3
    obtain ⟨kb2_0, kb2_1, kb2_2, kb2_3⟩ := (s3.blkAt 0 rfl).c4
    obtain ⟨kb1_0, kb1_1, _⟩ := (s3.blkAt 1 rfl).c2
    obtain ⟨kb0_0, kb0_1, kb0_2, kb0_3⟩ := (s3.blkAt 2 rfl).c4
    have S3 := Lib.hid s3
    clear s3
    clear lt0 lt1
    generalize (w2.alloc (.cells #[.int .i64 l, .int .i64 M, .int .i64 s, .int .i64 s] 23)) = V4 at *
    obtain ⟨BS, hBS⟩ : ∃ BS : List (Nat × Array Value × TypeId), BS = [(w2.heap.size, #[.int .i64 l, .int .i64 M, .int .i64 s, .int .i64 s], 23), (w.heap.size + 1, #[.int .i64 n, .int .i64 d], 36), (w.heap.size, #[.int .i64 l, .int .i64 M, .int .i64 s, .int .i64 f], 23)] := ⟨_, rfl⟩
    have hS : KS w BS V4 := by rw [hBS]; exact S3.out
    have K0_0 : ∀ W, KS w BS W → W.cell? ⟨w2.heap.size, 0, none⟩ = some (.int .i64 l) := fun W h => by rw [hBS] at h; exact (h.blkAt 0 rfl).cell 0
    have K0_1 : ∀ W, KS w BS W → W.cell? ⟨w2.heap.size, 1, none⟩ = some (.int .i64 M) := fun W h => by rw [hBS] at h; exact (h.blkAt 0 rfl).cell 1
    have K0_2 : ∀ W, KS w BS W → W.cell? ⟨w2.heap.size, 2, none⟩ = some (.int .i64 s) := fun W h => by rw [hBS] at h; exact (h.blkAt 0 rfl).cell 2
    have K0_3 : ∀ W, KS w BS W → W.cell? ⟨w2.heap.size, 3, none⟩ = some (.int .i64 s) := fun W h => by rw [hBS] at h; exact (h.blkAt 0 rfl).cell 3
    have K1_0 : ∀ W, KS w BS W → W.cell? ⟨w.heap.size + 1, 0, none⟩ = some (.int .i64 n) := fun W h => by rw [hBS] at h; exact (h.blkAt 1 rfl).cell 0
    have K1_1 : ∀ W, KS w BS W → W.cell? ⟨w.heap.size + 1, 1, none⟩ = some (.int .i64 d) := fun W h => by rw [hBS] at h; exact (h.blkAt 1 rfl).cell 1
    have K2_0 : ∀ W, KS w BS W → W.cell? ⟨w.heap.size, 0, none⟩ = some (.int .i64 l) := fun W h => by rw [hBS] at h; exact (h.blkAt 2 rfl).cell 0
    have K2_1 : ∀ W, KS w BS W → W.cell? ⟨w.heap.size, 1, none⟩ = some (.int .i64 M) := fun W h => by rw [hBS] at h; exact (h.blkAt 2 rfl).cell 1
    have K2_2 : ∀ W, KS w BS W → W.cell? ⟨w.heap.size, 2, none⟩ = some (.int .i64 s) := fun W h => by rw [hBS] at h; exact (h.blkAt 2 rfl).cell 2
    have K2_3 : ∀ W, KS w BS W → W.cell? ⟨w.heap.size, 3, none⟩ = some (.int .i64 f) := fun W h => by rw [hBS] at h; exact (h.blkAt 2 rfl).cell 3
    have KZ0 : ∀ W b, KZ w BS b #[.int .i64 0, .int .i64 0] 48 W → W.cell? ⟨b, 0, none⟩ = some (.int .i64 0) := fun W b h => h.c0
    have KZ1 : ∀ W b, KZ w BS b #[.int .i64 0, .int .i64 0] 48 W → W.cell? ⟨b, 1, none⟩ = some (.int .i64 0) := fun W b h => h.c1
    have KF0 : ∀ W b, KZ w BS b #[.int .i64 0, .int .i64 0] 48 W → W.frozen? ⟨b, 0, none⟩ = false := fun W b h => h.f 0
    have KF1 : ∀ W b, KZ w BS b #[.int .i64 0, .int .i64 0] 48 W → W.frozen? ⟨b, 1, none⟩ = false := fun W b h => h.f 1
    have HBS := Lib.hid hBS
    clear hBS kb2_0 kb2_1 kb2_2 kb2_3 kb1_0 kb1_1 kb0_0 kb0_1 kb0_2 kb0_3
    refine wp_join (f := fun a b => ((((((((((a.put (some 24) (.agg #[.int .i64 l, .int .i64 M, .int .i64 s, .int .i64 s])).put (some 25) (.agg #[.int .i64 l, .int .i64 M, .int .i64 s, .int .i64 s])).put (some 26) (.agg #[.int .i64 n, .int .i64 d])).put (some 27) (.agg #[.int .i64 n, .int .i64 d])).put (some 28) (.tuple #[.agg #[.int .i64 0, .int .i64 hi], .int .i64 0])).put (some 23) (.tuple #[.agg #[.int .i64 0, .int .i64 hi], .int .i64 0])).put (some 29) (.agg #[.int .i64 0, .int .i64 hi])).put (some 30) (.int .i64 0)).put (some 7) (.int .i64 0)).put (some 6) (.pointer (some ⟨b, 0, none⟩)))) (mid := fun b W' => KS w ((b, #[.int .i64 0, .int .i64 hi], 48) :: BS) W') ?_ ?_
    · go_region_held3 (KS w BS)
        (first | assumption | exact KS.drew (by assumption) | exact KS.alloc (by assumption) _ | exact KS.drew (KS.alloc (by assumption) _) | exact KS.alloc (KS.drew (by assumption)) _ | exact KZ.ks (by assumption) | exact (KZ.new (by assumption) _ _).ks | exact KZ.keep2 (by assumption) | exact (KZ.keep2 (by assumption)).drew | exact (KZ.drew (by assumption)).keep2 | go_keep)
        (first | (go_at_call 20; (with_reducible refine (Area_any _ _ _ _ _).mono ?_); rintro e wn ⟨rfl, hb⟩; have hSn := KS.below (w := w) (bs := BS) (by first | assumption | exact KS.drew (by assumption)) hb; (first | (have hZ := KZ.below (w := w) (bs := BS) (cs := #[.int .i64 0, .int .i64 0]) (t := 48) (by assumption) hb) | (have hZ := KZ.below (w := w) (bs := BS) (KZ.new (by assumption) #[.int .i64 0, .int .i64 0] 48) hb) | (have hZ := KZ.below (w := w) (bs := BS) (KZ.newD (by assumption) #[.int .i64 0, .int .i64 0] 48) hb) | skip); clear hb) | (go_at_call 25; (with_reducible refine (part_any _ _ _).mono ?_); rintro e wn ⟨rfl, hb⟩; have hSn := KS.below (w := w) (bs := BS) (by first | assumption | exact KS.drew (by assumption)) hb; (first | (have hZ := KZ.below (w := w) (bs := BS) (cs := #[.int .i64 0, .int .i64 0]) (t := 48) (by assumption) hb) | (have hZ := KZ.below (w := w) (bs := BS) (KZ.new (by assumption) #[.int .i64 0, .int .i64 0] 48) hb) | (have hZ := KZ.below (w := w) (bs := BS) (KZ.newD (by assumption) #[.int .i64 0, .int .i64 0] 48) hb) | skip); clear hb) | (go_at_call 36; (with_reducible refine (C36.out _).mono ?_); rintro e wn ⟨rfl, hb⟩; have hSn := KS.below (w := w) (bs := BS) (by first | assumption | exact KS.drew (by assumption)) hb; (first | (have hZ := KZ.below (w := w) (bs := BS) (cs := #[.int .i64 0, .int .i64 0]) (t := 48) (by assumption) hb) | (have hZ := KZ.below (w := w) (bs := BS) (KZ.new (by assumption) #[.int .i64 0, .int .i64 0] 48) hb) | (have hZ := KZ.below (w := w) (bs := BS) (KZ.newD (by assumption) #[.int .i64 0, .int .i64 0] 48) hb) | skip); clear hb))
      all_goals first | exact ⟨rfl, _, rfl, KS.new (by assumption) _ _⟩ | exact ⟨rfl, _, rfl, KZ.set2 (by assumption)⟩ | exact ⟨rfl, _, rfl, KZ.set2D (by assumption)⟩ | exact ⟨rfl, _, rfl, (KZ.set2 (by assumption)).drew⟩
    intro nb4 w4 hM
    simp only [Act.put, List.setIfInBounds_toArray, List.set_cons_zero, List.set_cons_succ]
    have s4 : KS w [(nb4, #[.int .i64 0, .int .i64 hi], 48), (w2.heap.size, #[.int .i64 l, .int .i64 M, .int .i64 s, .int .i64 s], 23), (w.heap.size + 1, #[.int .i64 n, .int .i64 d], 36), (w.heap.size, #[.int .i64 l, .int .i64 M, .int .i64 s, .int .i64 f], 23)] w4 := by have h := hM; rw [HBS.out] at h; exact h
    clear hS hM HBS KZ0 KZ1 KF0 KF1 K0_0 K0_1 K0_2 K0_3 K1_0 K1_1 K2_0 K2_1 K2_2 K2_3
    obtain ⟨kb3_0, kb3_1, _⟩ := (s4.blkAt 0 rfl).c2
    obtain ⟨kb2_0, kb2_1, kb2_2, kb2_3⟩ := (s4.blkAt 1 rfl).c4
    obtain ⟨kb1_0, kb1_1, _⟩ := (s4.blkAt 2 rfl).c2
    obtain ⟨kb0_0, kb0_1, kb0_2, kb0_3⟩ := (s4.blkAt 3 rfl).c4
    have S4 := Lib.hid s4
    clear s4
    go_wp2_with fail
    obtain ⟨BS, hBS⟩ : ∃ BS : List (Nat × Array Value × TypeId), BS = [(nb4, #[.int .i64 0, .int .i64 hi], 48), (w2.heap.size, #[.int .i64 l, .int .i64 M, .int .i64 s, .int .i64 s], 23), (w.heap.size + 1, #[.int .i64 n, .int .i64 d], 36), (w.heap.size, #[.int .i64 l, .int .i64 M, .int .i64 s, .int .i64 f], 23)] := ⟨_, rfl⟩
    have hS : KS w BS w4 := by rw [hBS]; exact S4.out
    have K0_0 : ∀ W, KS w BS W → W.cell? ⟨nb4, 0, none⟩ = some (.int .i64 0) := fun W h => by rw [hBS] at h; exact (h.blkAt 0 rfl).cell 0
    have K0_1 : ∀ W, KS w BS W → W.cell? ⟨nb4, 1, none⟩ = some (.int .i64 hi) := fun W h => by rw [hBS] at h; exact (h.blkAt 0 rfl).cell 1
    have K1_0 : ∀ W, KS w BS W → W.cell? ⟨w2.heap.size, 0, none⟩ = some (.int .i64 l) := fun W h => by rw [hBS] at h; exact (h.blkAt 1 rfl).cell 0
    have K1_1 : ∀ W, KS w BS W → W.cell? ⟨w2.heap.size, 1, none⟩ = some (.int .i64 M) := fun W h => by rw [hBS] at h; exact (h.blkAt 1 rfl).cell 1
    have K1_2 : ∀ W, KS w BS W → W.cell? ⟨w2.heap.size, 2, none⟩ = some (.int .i64 s) := fun W h => by rw [hBS] at h; exact (h.blkAt 1 rfl).cell 2
    have K1_3 : ∀ W, KS w BS W → W.cell? ⟨w2.heap.size, 3, none⟩ = some (.int .i64 s) := fun W h => by rw [hBS] at h; exact (h.blkAt 1 rfl).cell 3
    have K2_0 : ∀ W, KS w BS W → W.cell? ⟨w.heap.size + 1, 0, none⟩ = some (.int .i64 n) := fun W h => by rw [hBS] at h; exact (h.blkAt 2 rfl).cell 0
    have K2_1 : ∀ W, KS w BS W → W.cell? ⟨w.heap.size + 1, 1, none⟩ = some (.int .i64 d) := fun W h => by rw [hBS] at h; exact (h.blkAt 2 rfl).cell 1
    have K3_0 : ∀ W, KS w BS W → W.cell? ⟨w.heap.size, 0, none⟩ = some (.int .i64 l) := fun W h => by rw [hBS] at h; exact (h.blkAt 3 rfl).cell 0
    have K3_1 : ∀ W, KS w BS W → W.cell? ⟨w.heap.size, 1, none⟩ = some (.int .i64 M) := fun W h => by rw [hBS] at h; exact (h.blkAt 3 rfl).cell 1
    have K3_2 : ∀ W, KS w BS W → W.cell? ⟨w.heap.size, 2, none⟩ = some (.int .i64 s) := fun W h => by rw [hBS] at h; exact (h.blkAt 3 rfl).cell 2
    have K3_3 : ∀ W, KS w BS W → W.cell? ⟨w.heap.size, 3, none⟩ = some (.int .i64 f) := fun W h => by rw [hBS] at h; exact (h.blkAt 3 rfl).cell 3
    have KZ0 : ∀ W b, KZ w BS b #[.int .i64 0, .int .i64 0] 48 W → W.cell? ⟨b, 0, none⟩ = some (.int .i64 0) := fun W b h => h.c0
    have KZ1 : ∀ W b, KZ w BS b #[.int .i64 0, .int .i64 0] 48 W → W.cell? ⟨b, 1, none⟩ = some (.int .i64 0) := fun W b h => h.c1
    have KF0 : ∀ W b, KZ w BS b #[.int .i64 0, .int .i64 0] 48 W → W.frozen? ⟨b, 0, none⟩ = false := fun W b h => h.f 0
    have KF1 : ∀ W b, KZ w BS b #[.int .i64 0, .int .i64 0] 48 W → W.frozen? ⟨b, 1, none⟩ = false := fun W b h => h.f 1
    have HBS := Lib.hid hBS
    clear hBS kb3_0 kb3_1 kb2_0 kb2_1 kb2_2 kb2_3 kb1_0 kb1_1 kb0_0 kb0_1 kb0_2 kb0_3
    refine wp_join (f := fun a b => ((((((((((a.put (some 50) (.agg #[.int .i64 l, .int .i64 M, .int .i64 s, .int .i64 f])).put (some 51) (.agg #[.int .i64 l, .int .i64 M, .int .i64 s, .int .i64 f])).put (some 52) (.agg #[.int .i64 n, .int .i64 d])).put (some 53) (.agg #[.int .i64 n, .int .i64 d])).put (some 54) (.tuple #[.agg #[.int .i64 lo2, .int .i64 hi2], .int .i64 0])).put (some 49) (.tuple #[.agg #[.int .i64 lo2, .int .i64 hi2], .int .i64 0])).put (some 55) (.agg #[.int .i64 lo2, .int .i64 hi2])).put (some 56) (.int .i64 0)).put (some 9) (.int .i64 0)).put (some 8) (.pointer (some ⟨b, 0, none⟩)))) (mid := fun b W' => KS w ((b, #[.int .i64 lo2, .int .i64 hi2], 48) :: BS) W') ?_ ?_
    · go_region_held3 (KS w BS)
        (first | assumption | exact KS.drew (by assumption) | exact KS.alloc (by assumption) _ | exact KS.drew (KS.alloc (by assumption) _) | exact KS.alloc (KS.drew (by assumption)) _ | exact KZ.ks (by assumption) | exact (KZ.new (by assumption) _ _).ks | exact KZ.keep2 (by assumption) | exact (KZ.keep2 (by assumption)).drew | exact (KZ.drew (by assumption)).keep2 | go_keep)
        (first | (go_at_call 20; (with_reducible refine (Area_any _ _ _ _ _).mono ?_); rintro e wn ⟨rfl, hb⟩; have hSn := KS.below (w := w) (bs := BS) (by first | assumption | exact KS.drew (by assumption)) hb; (first | (have hZ := KZ.below (w := w) (bs := BS) (cs := #[.int .i64 0, .int .i64 0]) (t := 48) (by assumption) hb) | (have hZ := KZ.below (w := w) (bs := BS) (KZ.new (by assumption) #[.int .i64 0, .int .i64 0] 48) hb) | (have hZ := KZ.below (w := w) (bs := BS) (KZ.newD (by assumption) #[.int .i64 0, .int .i64 0] 48) hb) | skip); clear hb) | (go_at_call 25; (with_reducible refine (part_any _ _ _).mono ?_); rintro e wn ⟨rfl, hb⟩; have hSn := KS.below (w := w) (bs := BS) (by first | assumption | exact KS.drew (by assumption)) hb; (first | (have hZ := KZ.below (w := w) (bs := BS) (cs := #[.int .i64 0, .int .i64 0]) (t := 48) (by assumption) hb) | (have hZ := KZ.below (w := w) (bs := BS) (KZ.new (by assumption) #[.int .i64 0, .int .i64 0] 48) hb) | (have hZ := KZ.below (w := w) (bs := BS) (KZ.newD (by assumption) #[.int .i64 0, .int .i64 0] 48) hb) | skip); clear hb) | (go_at_call 36; (with_reducible refine (D36.out _).mono ?_); rintro e wn ⟨rfl, hb⟩; have hSn := KS.below (w := w) (bs := BS) (by first | assumption | exact KS.drew (by assumption)) hb; (first | (have hZ := KZ.below (w := w) (bs := BS) (cs := #[.int .i64 0, .int .i64 0]) (t := 48) (by assumption) hb) | (have hZ := KZ.below (w := w) (bs := BS) (KZ.new (by assumption) #[.int .i64 0, .int .i64 0] 48) hb) | (have hZ := KZ.below (w := w) (bs := BS) (KZ.newD (by assumption) #[.int .i64 0, .int .i64 0] 48) hb) | skip); clear hb))
      all_goals first | exact ⟨rfl, _, rfl, KS.new (by assumption) _ _⟩ | exact ⟨rfl, _, rfl, KZ.set2 (by assumption)⟩ | exact ⟨rfl, _, rfl, KZ.set2D (by assumption)⟩ | exact ⟨rfl, _, rfl, (KZ.set2 (by assumption)).drew⟩
    intro nb5 w5 hM
    simp only [Act.put, List.setIfInBounds_toArray, List.set_cons_zero, List.set_cons_succ]
    have s5 : KS w [(nb5, #[.int .i64 lo2, .int .i64 hi2], 48), (nb4, #[.int .i64 0, .int .i64 hi], 48), (w2.heap.size, #[.int .i64 l, .int .i64 M, .int .i64 s, .int .i64 s], 23), (w.heap.size + 1, #[.int .i64 n, .int .i64 d], 36), (w.heap.size, #[.int .i64 l, .int .i64 M, .int .i64 s, .int .i64 f], 23)] w5 := by have h := hM; rw [HBS.out] at h; exact h
    clear hS hM HBS KZ0 KZ1 KF0 KF1 K0_0 K0_1 K1_0 K1_1 K1_2 K1_3 K2_0 K2_1 K3_0 K3_1 K3_2 K3_3
    obtain ⟨kb4_0, kb4_1, _⟩ := (s5.blkAt 0 rfl).c2
    obtain ⟨kb3_0, kb3_1, _⟩ := (s5.blkAt 1 rfl).c2
    obtain ⟨kb2_0, kb2_1, kb2_2, kb2_3⟩ := (s5.blkAt 2 rfl).c4
    obtain ⟨kb1_0, kb1_1, _⟩ := (s5.blkAt 3 rfl).c2
    obtain ⟨kb0_0, kb0_1, kb0_2, kb0_3⟩ := (s5.blkAt 4 rfl).c4
    have S5 := Lib.hid s5
    clear s5
    go_wp2_with (first | (go_at_call 24; (with_reducible refine (awake_any _).mono ?_); rintro e w99 ⟨rfl, h99⟩; have S99 := Lib.hid (S5.out.below h99); clear h99))
    go_ret
    exact ⟨rfl, S99.out.bel⟩
theorem MissNobody_walk (L M S F n d : Int) (w : World) : Calls Try.prog 14 #[areaV L M S F, fracV n d] w fun e w' => e = .returned (.bool true) ∧ Below w.heap.size w w' := by
  cases h : areaB L M S F with
  | false => exact MissNobody_area L M S F n d w h
  | true =>
    cases hl : levB n d with
    | false => exact MissNobody_level L M S F n d w h hl
    | true =>
      obtain ⟨l, m, s, f, rfl, rfl, rfl, rfl, hk⟩ := okA.of h
      obtain ⟨e1, e2, _, _, _⟩ := lev_nat hl
      rw [e1, e2] at hl ⊢
      by_cases h1 : f = s
      · exact MissNobody_all l m s f _ _ w hk hl h1
      · by_cases h2 : n.toNat = 0
        · exact MissNobody_zero l m s f _ _ w hk hl h1 h2
        · exact MissNobody_other l m s f _ _ w hk hl h1 h2
end Go.Proofs.Ytkfobnhnehbkeaa
