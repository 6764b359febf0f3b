/- The statement on levels: both levels leave numbers. -/
import Derived.Test.YtkfobnhnehbkeaaLev1
namespace Go.Proofs.Ytkfobnhnehbkeaa
open Go.RowKit Go.Shelf
open Mis (ch sets tot sm low up lower excl rng)

set_option maxRecDepth 100000 in
set_option maxHeartbeats 16000000 in
theorem MissLevels_ss (l M s f n d x : Nat) (b : Int) (w : World) (h : okA l M s f) (hl : levB n d = true) (hlx : levB x d = true) (hb : 0 ≤ b ∧ b ≤ 65535) (hx : max (0 : Int) ((n : Int) - b) = (x : Int)) (lo1 hi1 lo2 hi2 : Nat) (hr : rangeOf l M s f n d = some (lo1, hi1)) (hq : rangeOf l M s f x d = some (lo2, hi2)) (hlo : lo2 ≤ lo1) (hhi : hi1 ≤ hi2) : Calls Try.prog 11 #[areaV l M s f, fracV n d, .int .u16 b] w fun e w' => e = .returned (.bool true) ∧ Below w.heap.size w w' := by
  have C42 := Lib.hid (fun w => rIsArea_any l M s f w)
  rw [h.b] at C42
  have C33 := Lib.hid (fun w => rIsLevel_any n d w)
  rw [hl] at C33
  obtain ⟨hb1, hb2⟩ := hb
  obtain ⟨g1, g2, g3⟩ := lev_of hl
  have D1 := fun w => Missed_ok h hl w
  have D2 := fun w => Missed_ok h hlx w
  have C36c := Lib.hid (show ∀ w, Calls Try.prog 36 #[areaV l M s f, fracV 0 d] w fun e w' => e = .returned (.tuple #[rangeV 0 M, .int .i64 0]) ∧ Below w.heap.size w w' from fun w => by
    have h1 := Missed_ok (n := 0) h (lev0 g1 g2) w
    unfold MissedPost at h1
    rw [range_zero] at h1
    exact h1)
  have C36a := Lib.hid (show ∀ w, Calls Try.prog 36 #[areaV l M s f, fracV n d] w fun e w' => e = .returned (.tuple #[rangeV lo1 hi1, .int .i64 0]) ∧ Below w.heap.size w w' from fun w => by have h1 := D1 w; unfold MissedPost at h1; rw [hr] at h1; exact h1)
  have C36b := Lib.hid (show ∀ w, Calls Try.prog 36 #[areaV l M s f, fracV x d] w fun e w' => e = .returned (.tuple #[rangeV lo2 hi2, .int .i64 0]) ∧ Below w.heap.size w w' from fun w => by have h1 := D2 w; unfold MissedPost at h1; rw [hq] at h1; exact h1)
  have t1 : decide ((lo2 : Int) ≤ (lo1 : Int)) = true := by simp; exact hlo
  have t2 : decide (lo2 ≤ lo1) = true := by simp; exact hlo
  have t3 : decide ((hi1 : Int) ≤ (hi2 : Int)) = true := by simp; exact hhi
  have t4 : decide (hi1 ≤ hi2) = true := by simp; exact hhi
  clear hr hq hlo hhi
  clear h hl hlx D1 D2 g1
  have s0 := ((KS.start w).new #[.int .i64 l, .int .i64 M, .int .i64 s, .int .i64 f] 23).new #[.int .i64 n, .int .i64 d] 36
  rw [World.size_alloc] at s0
  obtain ⟨kb1_0, kb1_1, _⟩ := (s0.blkAt 0 rfl).c2
  obtain ⟨kb0_0, kb0_1, kb0_2, kb0_3⟩ := (s0.blkAt 1 rfl).c4
  have S0 := Lib.hid s0
  clear s0
  go_enter Try.func11, Try.ntmps11
  go_wp2_with fail
  refine (C42.out _).mono ?_
  rintro e w1 ⟨rfl, h1⟩
  clear kb1_0 kb1_1 kb0_0 kb0_1 kb0_2 kb0_3
  have s1 := S0.out.below h1
  obtain ⟨kb1_0, kb1_1, _⟩ := (s1.blkAt 0 rfl).c2
  obtain ⟨kb0_0, kb0_1, kb0_2, kb0_3⟩ := (s1.blkAt 1 rfl).c4
  have S1 := Lib.hid s1
  clear h1 s1
  go_wp2_with fail
  refine (C33.out _).mono ?_
  rintro e w2 ⟨rfl, h2⟩
  clear kb1_0 kb1_1 kb0_0 kb0_1 kb0_2 kb0_3
  have s2 := S1.out.below h2
  obtain ⟨kb1_0, kb1_1, _⟩ := (s2.blkAt 0 rfl).c2
  obtain ⟨kb0_0, kb0_1, kb0_2, kb0_3⟩ := (s2.blkAt 1 rfl).c4
  have S2 := Lib.hid s2
  clear h2 s2
  have lt0 := S2.out.lt 0 rfl
  have lt1 := S2.out.lt 1 rfl
  go_wp2_with fail
  have s3 := S2.out.new #[.int .i64 x, .int .i64 d] 36
  clear kb1_0 kb1_1 kb0_0 kb0_1 kb0_2 kb0_3
  obtain ⟨kb2_0, kb2_1, _⟩ := (s3.blkAt 0 rfl).c2
  obtain ⟨kb1_0, kb1_1, _⟩ := (s3.blkAt 1 rfl).c2
  obtain ⟨kb0_0, kb0_1, kb0_2, kb0_3⟩ := (s3.blkAt 2 rfl).c4
  have S3 := Lib.hid s3
  clear s3
  clear lt0 lt1
  generalize (w2.alloc (.cells #[.int .i64 x, .int .i64 d] 36)) = V4 at *
  obtain ⟨BS, hBS⟩ : ∃ BS : List (Nat × Array Value × TypeId), BS = [(w2.heap.size, #[.int .i64 x, .int .i64 d], 36), (w.heap.size + 1, #[.int .i64 n, .int .i64 d], 36), (w.heap.size, #[.int .i64 l, .int .i64 M, .int .i64 s, .int .i64 f], 23)] := ⟨_, rfl⟩
  have hS : KS w BS V4 := by rw [hBS]; exact S3.out
  have K1_0 : ∀ W, KS w BS W → W.cell? ⟨w.heap.size + 1, 0, none⟩ = some (.int .i64 n) := fun W h => by rw [hBS] at h; exact (h.blkAt 1 rfl).cell 0
  have K1_1 : ∀ W, KS w BS W → W.cell? ⟨w.heap.size + 1, 1, none⟩ = some (.int .i64 d) := fun W h => by rw [hBS] at h; exact (h.blkAt 1 rfl).cell 1
  have K2_0 : ∀ W, KS w BS W → W.cell? ⟨w.heap.size, 0, none⟩ = some (.int .i64 l) := fun W h => by rw [hBS] at h; exact (h.blkAt 2 rfl).cell 0
  have K2_1 : ∀ W, KS w BS W → W.cell? ⟨w.heap.size, 1, none⟩ = some (.int .i64 M) := fun W h => by rw [hBS] at h; exact (h.blkAt 2 rfl).cell 1
  have K2_2 : ∀ W, KS w BS W → W.cell? ⟨w.heap.size, 2, none⟩ = some (.int .i64 s) := fun W h => by rw [hBS] at h; exact (h.blkAt 2 rfl).cell 2
  have K2_3 : ∀ W, KS w BS W → W.cell? ⟨w.heap.size, 3, none⟩ = some (.int .i64 f) := fun W h => by rw [hBS] at h; exact (h.blkAt 2 rfl).cell 3
  have KZ0 : ∀ W b, KZ w BS b #[.int .i64 0, .int .i64 0] 48 W → W.cell? ⟨b, 0, none⟩ = some (.int .i64 0) := fun W b h => h.c0
  have KZ1 : ∀ W b, KZ w BS b #[.int .i64 0, .int .i64 0] 48 W → W.cell? ⟨b, 1, none⟩ = some (.int .i64 0) := fun W b h => h.c1
  have KF0 : ∀ W b, KZ w BS b #[.int .i64 0, .int .i64 0] 48 W → W.frozen? ⟨b, 0, none⟩ = false := fun W b h => h.f 0
  have KF1 : ∀ W b, KZ w BS b #[.int .i64 0, .int .i64 0] 48 W → W.frozen? ⟨b, 1, none⟩ = false := fun W b h => h.f 1
  have HBS := Lib.hid hBS
  clear hBS kb2_0 kb2_1 kb1_0 kb1_1 kb0_0 kb0_1 kb0_2 kb0_3
  refine wp_join (f := fun a b => ((((((((((a.put (some 32) (.agg #[.int .i64 l, .int .i64 M, .int .i64 s, .int .i64 f])).put (some 33) (.agg #[.int .i64 l, .int .i64 M, .int .i64 s, .int .i64 f])).put (some 34) (.agg #[.int .i64 n, .int .i64 d])).put (some 35) (.agg #[.int .i64 n, .int .i64 d])).put (some 36) (.tuple #[.agg #[.int .i64 lo1, .int .i64 hi1], .int .i64 0])).put (some 31) (.tuple #[.agg #[.int .i64 lo1, .int .i64 hi1], .int .i64 0])).put (some 37) (.agg #[.int .i64 lo1, .int .i64 hi1])).put (some 38) (.int .i64 0)).put (some 9) (.int .i64 0)).put (some 8) (.pointer (some ⟨b, 0, none⟩)))) (mid := fun b W' => KS w ((b, #[.int .i64 lo1, .int .i64 hi1], 48) :: BS) W') ?_ ?_
  · go_region_held3 (KS w BS)
      (first | assumption | exact KS.drew (by assumption) | exact KS.alloc (by assumption) _ | exact KS.drew (KS.alloc (by assumption) _) | exact KS.alloc (KS.drew (by assumption)) _ | exact KZ.ks (by assumption) | exact (KZ.new (by assumption) _ _).ks | exact KZ.keep2 (by assumption) | exact (KZ.keep2 (by assumption)).drew | exact (KZ.drew (by assumption)).keep2 | go_keep)
      (first | (go_at_call 20; (with_reducible refine (Area_any _ _ _ _ _).mono ?_); rintro e wn ⟨rfl, hb⟩; have hSn := KS.below (w := w) (bs := BS) (by first | assumption | exact KS.drew (by assumption)) hb; (first | (have hZ := KZ.below (w := w) (bs := BS) (cs := #[.int .i64 0, .int .i64 0]) (t := 48) (by assumption) hb) | (have hZ := KZ.below (w := w) (bs := BS) (KZ.new (by assumption) #[.int .i64 0, .int .i64 0] 48) hb) | (have hZ := KZ.below (w := w) (bs := BS) (KZ.newD (by assumption) #[.int .i64 0, .int .i64 0] 48) hb) | skip); clear hb) | (go_at_call 25; (with_reducible refine (part_any _ _ _).mono ?_); rintro e wn ⟨rfl, hb⟩; have hSn := KS.below (w := w) (bs := BS) (by first | assumption | exact KS.drew (by assumption)) hb; (first | (have hZ := KZ.below (w := w) (bs := BS) (cs := #[.int .i64 0, .int .i64 0]) (t := 48) (by assumption) hb) | (have hZ := KZ.below (w := w) (bs := BS) (KZ.new (by assumption) #[.int .i64 0, .int .i64 0] 48) hb) | (have hZ := KZ.below (w := w) (bs := BS) (KZ.newD (by assumption) #[.int .i64 0, .int .i64 0] 48) hb) | skip); clear hb) | (go_at_call 36; (with_reducible refine (C36a.out _).mono ?_); rintro e wn ⟨rfl, hb⟩; have hSn := KS.below (w := w) (bs := BS) (by first | assumption | exact KS.drew (by assumption)) hb; (first | (have hZ := KZ.below (w := w) (bs := BS) (cs := #[.int .i64 0, .int .i64 0]) (t := 48) (by assumption) hb) | (have hZ := KZ.below (w := w) (bs := BS) (KZ.new (by assumption) #[.int .i64 0, .int .i64 0] 48) hb) | (have hZ := KZ.below (w := w) (bs := BS) (KZ.newD (by assumption) #[.int .i64 0, .int .i64 0] 48) hb) | skip); clear hb))
    all_goals first | exact ⟨rfl, _, rfl, KS.new (by assumption) _ _⟩ | exact ⟨rfl, _, rfl, KZ.set2 (by assumption)⟩ | exact ⟨rfl, _, rfl, KZ.set2D (by assumption)⟩ | exact ⟨rfl, _, rfl, (KZ.set2 (by assumption)).drew⟩
  intro nb4 w4 hM
  simp only [Act.put, List.setIfInBounds_toArray, List.set_cons_zero, List.set_cons_succ]
  have s4 : KS w [(nb4, #[.int .i64 lo1, .int .i64 hi1], 48), (w2.heap.size, #[.int .i64 x, .int .i64 d], 36), (w.heap.size + 1, #[.int .i64 n, .int .i64 d], 36), (w.heap.size, #[.int .i64 l, .int .i64 M, .int .i64 s, .int .i64 f], 23)] w4 := by have h := hM; rw [HBS.out] at h; exact h
  clear hS hM HBS KZ0 KZ1 KF0 KF1 K1_0 K1_1 K2_0 K2_1 K2_2 K2_3
  obtain ⟨kb3_0, kb3_1, _⟩ := (s4.blkAt 0 rfl).c2
  obtain ⟨kb2_0, kb2_1, _⟩ := (s4.blkAt 1 rfl).c2
  obtain ⟨kb1_0, kb1_1, _⟩ := (s4.blkAt 2 rfl).c2
  obtain ⟨kb0_0, kb0_1, kb0_2, kb0_3⟩ := (s4.blkAt 3 rfl).c4
  have S4 := Lib.hid s4
  clear s4
  go_wp2_with fail
  obtain ⟨BS, hBS⟩ : ∃ BS : List (Nat × Array Value × TypeId), BS = [(nb4, #[.int .i64 lo1, .int .i64 hi1], 48), (w2.heap.size, #[.int .i64 x, .int .i64 d], 36), (w.heap.size + 1, #[.int .i64 n, .int .i64 d], 36), (w.heap.size, #[.int .i64 l, .int .i64 M, .int .i64 s, .int .i64 f], 23)] := ⟨_, rfl⟩
  have hS : KS w BS w4 := by rw [hBS]; exact S4.out
  have K1_0 : ∀ W, KS w BS W → W.cell? ⟨w2.heap.size, 0, none⟩ = some (.int .i64 x) := fun W h => by rw [hBS] at h; exact (h.blkAt 1 rfl).cell 0
  have K1_1 : ∀ W, KS w BS W → W.cell? ⟨w2.heap.size, 1, none⟩ = some (.int .i64 d) := fun W h => by rw [hBS] at h; exact (h.blkAt 1 rfl).cell 1
  have K3_0 : ∀ W, KS w BS W → W.cell? ⟨w.heap.size, 0, none⟩ = some (.int .i64 l) := fun W h => by rw [hBS] at h; exact (h.blkAt 3 rfl).cell 0
  have K3_1 : ∀ W, KS w BS W → W.cell? ⟨w.heap.size, 1, none⟩ = some (.int .i64 M) := fun W h => by rw [hBS] at h; exact (h.blkAt 3 rfl).cell 1
  have K3_2 : ∀ W, KS w BS W → W.cell? ⟨w.heap.size, 2, none⟩ = some (.int .i64 s) := fun W h => by rw [hBS] at h; exact (h.blkAt 3 rfl).cell 2
  have K3_3 : ∀ W, KS w BS W → W.cell? ⟨w.heap.size, 3, none⟩ = some (.int .i64 f) := fun W h => by rw [hBS] at h; exact (h.blkAt 3 rfl).cell 3
  have KZ0 : ∀ W b, KZ w BS b #[.int .i64 0, .int .i64 0] 48 W → W.cell? ⟨b, 0, none⟩ = some (.int .i64 0) := fun W b h => h.c0
  have KZ1 : ∀ W b, KZ w BS b #[.int .i64 0, .int .i64 0] 48 W → W.cell? ⟨b, 1, none⟩ = some (.int .i64 0) := fun W b h => h.c1
  have KF0 : ∀ W b, KZ w BS b #[.int .i64 0, .int .i64 0] 48 W → W.frozen? ⟨b, 0, none⟩ = false := fun W b h => h.f 0
  have KF1 : ∀ W b, KZ w BS b #[.int .i64 0, .int .i64 0] 48 W → W.frozen? ⟨b, 1, none⟩ = false := fun W b h => h.f 1
  have HBS := Lib.hid hBS
  clear hBS kb3_0 kb3_1 kb2_0 kb2_1 kb1_0 kb1_1 kb0_0 kb0_1 kb0_2 kb0_3
  refine wp_join (f := fun a b => ((((((((((a.put (some 40) (.agg #[.int .i64 l, .int .i64 M, .int .i64 s, .int .i64 f])).put (some 41) (.agg #[.int .i64 l, .int .i64 M, .int .i64 s, .int .i64 f])).put (some 42) (.agg #[.int .i64 x, .int .i64 d])).put (some 43) (.agg #[.int .i64 x, .int .i64 d])).put (some 44) (.tuple #[.agg #[.int .i64 lo2, .int .i64 hi2], .int .i64 0])).put (some 39) (.tuple #[.agg #[.int .i64 lo2, .int .i64 hi2], .int .i64 0])).put (some 45) (.agg #[.int .i64 lo2, .int .i64 hi2])).put (some 46) (.int .i64 0)).put (some 11) (.int .i64 0)).put (some 10) (.pointer (some ⟨b, 0, none⟩)))) (mid := fun b W' => KS w ((b, #[.int .i64 lo2, .int .i64 hi2], 48) :: BS) W') ?_ ?_
  · go_region_held3 (KS w BS)
      (first | assumption | exact KS.drew (by assumption) | exact KS.alloc (by assumption) _ | exact KS.drew (KS.alloc (by assumption) _) | exact KS.alloc (KS.drew (by assumption)) _ | exact KZ.ks (by assumption) | exact (KZ.new (by assumption) _ _).ks | exact KZ.keep2 (by assumption) | exact (KZ.keep2 (by assumption)).drew | exact (KZ.drew (by assumption)).keep2 | go_keep)
      (first | (go_at_call 20; (with_reducible refine (Area_any _ _ _ _ _).mono ?_); rintro e wn ⟨rfl, hb⟩; have hSn := KS.below (w := w) (bs := BS) (by first | assumption | exact KS.drew (by assumption)) hb; (first | (have hZ := KZ.below (w := w) (bs := BS) (cs := #[.int .i64 0, .int .i64 0]) (t := 48) (by assumption) hb) | (have hZ := KZ.below (w := w) (bs := BS) (KZ.new (by assumption) #[.int .i64 0, .int .i64 0] 48) hb) | (have hZ := KZ.below (w := w) (bs := BS) (KZ.newD (by assumption) #[.int .i64 0, .int .i64 0] 48) hb) | skip); clear hb) | (go_at_call 25; (with_reducible refine (part_any _ _ _).mono ?_); rintro e wn ⟨rfl, hb⟩; have hSn := KS.below (w := w) (bs := BS) (by first | assumption | exact KS.drew (by assumption)) hb; (first | (have hZ := KZ.below (w := w) (bs := BS) (cs := #[.int .i64 0, .int .i64 0]) (t := 48) (by assumption) hb) | (have hZ := KZ.below (w := w) (bs := BS) (KZ.new (by assumption) #[.int .i64 0, .int .i64 0] 48) hb) | (have hZ := KZ.below (w := w) (bs := BS) (KZ.newD (by assumption) #[.int .i64 0, .int .i64 0] 48) hb) | skip); clear hb) | (go_at_call 36; (with_reducible refine (C36b.out _).mono ?_); rintro e wn ⟨rfl, hb⟩; have hSn := KS.below (w := w) (bs := BS) (by first | assumption | exact KS.drew (by assumption)) hb; (first | (have hZ := KZ.below (w := w) (bs := BS) (cs := #[.int .i64 0, .int .i64 0]) (t := 48) (by assumption) hb) | (have hZ := KZ.below (w := w) (bs := BS) (KZ.new (by assumption) #[.int .i64 0, .int .i64 0] 48) hb) | (have hZ := KZ.below (w := w) (bs := BS) (KZ.newD (by assumption) #[.int .i64 0, .int .i64 0] 48) hb) | skip); clear hb))
    all_goals first | exact ⟨rfl, _, rfl, KS.new (by assumption) _ _⟩ | exact ⟨rfl, _, rfl, KZ.set2 (by assumption)⟩ | exact ⟨rfl, _, rfl, KZ.set2D (by assumption)⟩ | exact ⟨rfl, _, rfl, (KZ.set2 (by assumption)).drew⟩
  intro nb5 w5 hM
  simp only [Act.put, List.setIfInBounds_toArray, List.set_cons_zero, List.set_cons_succ]
  have s5 : KS w [(nb5, #[.int .i64 lo2, .int .i64 hi2], 48), (nb4, #[.int .i64 lo1, .int .i64 hi1], 48), (w2.heap.size, #[.int .i64 x, .int .i64 d], 36), (w.heap.size + 1, #[.int .i64 n, .int .i64 d], 36), (w.heap.size, #[.int .i64 l, .int .i64 M, .int .i64 s, .int .i64 f], 23)] w5 := by have h := hM; rw [HBS.out] at h; exact h
  clear hS hM HBS KZ0 KZ1 KF0 KF1 K1_0 K1_1 K3_0 K3_1 K3_2 K3_3
  obtain ⟨kb4_0, kb4_1, _⟩ := (s5.blkAt 0 rfl).c2
  obtain ⟨kb3_0, kb3_1, _⟩ := (s5.blkAt 1 rfl).c2
  obtain ⟨kb2_0, kb2_1, _⟩ := (s5.blkAt 2 rfl).c2
  obtain ⟨kb1_0, kb1_1, _⟩ := (s5.blkAt 3 rfl).c2
  obtain ⟨kb0_0, kb0_1, kb0_2, kb0_3⟩ := (s5.blkAt 4 rfl).c4
  have S5 := Lib.hid s5
  clear s5
  go_wp2_with fail
  obtain ⟨BS, hBS⟩ : ∃ BS : List (Nat × Array Value × TypeId), BS = [(nb5, #[.int .i64 lo2, .int .i64 hi2], 48), (nb4, #[.int .i64 lo1, .int .i64 hi1], 48), (w2.heap.size, #[.int .i64 x, .int .i64 d], 36), (w.heap.size + 1, #[.int .i64 n, .int .i64 d], 36), (w.heap.size, #[.int .i64 l, .int .i64 M, .int .i64 s, .int .i64 f], 23)] := ⟨_, rfl⟩
  have hS : KS w BS w5 := by rw [hBS]; exact S5.out
  have K3_0 : ∀ W, KS w BS W → W.cell? ⟨w.heap.size + 1, 0, none⟩ = some (.int .i64 n) := fun W h => by rw [hBS] at h; exact (h.blkAt 3 rfl).cell 0
  have K3_1 : ∀ W, KS w BS W → W.cell? ⟨w.heap.size + 1, 1, none⟩ = some (.int .i64 d) := fun W h => by rw [hBS] at h; exact (h.blkAt 3 rfl).cell 1
  have K4_0 : ∀ W, KS w BS W → W.cell? ⟨w.heap.size, 0, none⟩ = some (.int .i64 l) := fun W h => by rw [hBS] at h; exact (h.blkAt 4 rfl).cell 0
  have K4_1 : ∀ W, KS w BS W → W.cell? ⟨w.heap.size, 1, none⟩ = some (.int .i64 M) := fun W h => by rw [hBS] at h; exact (h.blkAt 4 rfl).cell 1
  have K4_2 : ∀ W, KS w BS W → W.cell? ⟨w.heap.size, 2, none⟩ = some (.int .i64 s) := fun W h => by rw [hBS] at h; exact (h.blkAt 4 rfl).cell 2
  have K4_3 : ∀ W, KS w BS W → W.cell? ⟨w.heap.size, 3, none⟩ = some (.int .i64 f) := fun W h => by rw [hBS] at h; exact (h.blkAt 4 rfl).cell 3
  have KZ0 : ∀ W b, KZ w BS b #[.int .i64 0, .int .i64 0] 48 W → W.cell? ⟨b, 0, none⟩ = some (.int .i64 0) := fun W b h => h.c0
  have KZ1 : ∀ W b, KZ w BS b #[.int .i64 0, .int .i64 0] 48 W → W.cell? ⟨b, 1, none⟩ = some (.int .i64 0) := fun W b h => h.c1
  have KF0 : ∀ W b, KZ w BS b #[.int .i64 0, .int .i64 0] 48 W → W.frozen? ⟨b, 0, none⟩ = false := fun W b h => h.f 0
  have KF1 : ∀ W b, KZ w BS b #[.int .i64 0, .int .i64 0] 48 W → W.frozen? ⟨b, 1, none⟩ = false := fun W b h => h.f 1
  have HBS := Lib.hid hBS
  clear hBS kb4_0 kb4_1 kb3_0 kb3_1 kb2_0 kb2_1 kb1_0 kb1_1 kb0_0 kb0_1 kb0_2 kb0_3
  refine wp_join (f := fun a b => (((((((((((a.put (some 48) (.agg #[.int .i64 l, .int .i64 M, .int .i64 s, .int .i64 f])).put (some 49) (.agg #[.int .i64 l, .int .i64 M, .int .i64 s, .int .i64 f])).put (some 50) (.pointer (some ⟨w.heap.size + 1, 1, none⟩))).put (some 51) (.int .i64 d)).put (some 52) (.agg #[.int .i64 0, .int .i64 d])).put (some 53) (.tuple #[.agg #[.int .i64 0, .int .i64 M], .int .i64 0])).put (some 47) (.tuple #[.agg #[.int .i64 0, .int .i64 M], .int .i64 0])).put (some 54) (.agg #[.int .i64 0, .int .i64 M])).put (some 55) (.int .i64 0)).put (some 13) (.int .i64 0)).put (some 12) (.pointer (some ⟨b, 0, none⟩)))) (mid := fun b W' => KS w ((b, #[.int .i64 0, .int .i64 M], 48) :: BS) W') ?_ ?_
  · go_region_held3 (KS w BS)
      (first | assumption | exact KS.drew (by assumption) | exact KS.alloc (by assumption) _ | exact KS.drew (KS.alloc (by assumption) _) | exact KS.alloc (KS.drew (by assumption)) _ | exact KZ.ks (by assumption) | exact (KZ.new (by assumption) _ _).ks | exact KZ.keep2 (by assumption) | exact (KZ.keep2 (by assumption)).drew | exact (KZ.drew (by assumption)).keep2 | go_keep)
      (first | (go_at_call 20; (with_reducible refine (Area_any _ _ _ _ _).mono ?_); rintro e wn ⟨rfl, hb⟩; have hSn := KS.below (w := w) (bs := BS) (by first | assumption | exact KS.drew (by assumption)) hb; (first | (have hZ := KZ.below (w := w) (bs := BS) (cs := #[.int .i64 0, .int .i64 0]) (t := 48) (by assumption) hb) | (have hZ := KZ.below (w := w) (bs := BS) (KZ.new (by assumption) #[.int .i64 0, .int .i64 0] 48) hb) | (have hZ := KZ.below (w := w) (bs := BS) (KZ.newD (by assumption) #[.int .i64 0, .int .i64 0] 48) hb) | skip); clear hb) | (go_at_call 46; (with_reducible refine (over_any _ _ _).mono ?_); rintro e wn ⟨rfl, hb⟩; have hSn := KS.below (w := w) (bs := BS) (by first | assumption | exact KS.drew (by assumption)) hb; (first | (have hZ := KZ.below (w := w) (bs := BS) (cs := #[.int .i64 0, .int .i64 0]) (t := 48) (by assumption) hb) | (have hZ := KZ.below (w := w) (bs := BS) (KZ.new (by assumption) #[.int .i64 0, .int .i64 0] 48) hb) | (have hZ := KZ.below (w := w) (bs := BS) (KZ.newD (by assumption) #[.int .i64 0, .int .i64 0] 48) hb) | skip); clear hb) | (go_at_call 36; (with_reducible refine (C36c.out _).mono ?_); rintro e wn ⟨rfl, hb⟩; have hSn := KS.below (w := w) (bs := BS) (by first | assumption | exact KS.drew (by assumption)) hb; (first | (have hZ := KZ.below (w := w) (bs := BS) (cs := #[.int .i64 0, .int .i64 0]) (t := 48) (by assumption) hb) | (have hZ := KZ.below (w := w) (bs := BS) (KZ.new (by assumption) #[.int .i64 0, .int .i64 0] 48) hb) | (have hZ := KZ.below (w := w) (bs := BS) (KZ.newD (by assumption) #[.int .i64 0, .int .i64 0] 48) hb) | skip); clear hb))
    all_goals first | exact ⟨rfl, _, rfl, KS.new (by assumption) _ _⟩ | exact ⟨rfl, _, rfl, KZ.set2 (by assumption)⟩ | exact ⟨rfl, _, rfl, KZ.set2D (by assumption)⟩ | exact ⟨rfl, _, rfl, (KZ.set2 (by assumption)).drew⟩
  intro nb6 w6 hM
  simp only [Act.put, List.setIfInBounds_toArray, List.set_cons_zero, List.set_cons_succ]
  have s6 : KS w [(nb6, #[.int .i64 0, .int .i64 M], 48), (nb5, #[.int .i64 lo2, .int .i64 hi2], 48), (nb4, #[.int .i64 lo1, .int .i64 hi1], 48), (w2.heap.size, #[.int .i64 x, .int .i64 d], 36), (w.heap.size + 1, #[.int .i64 n, .int .i64 d], 36), (w.heap.size, #[.int .i64 l, .int .i64 M, .int .i64 s, .int .i64 f], 23)] w6 := by have h := hM; rw [HBS.out] at h; exact h
  clear hS hM HBS KZ0 KZ1 KF0 KF1 K3_0 K3_1 K4_0 K4_1 K4_2 K4_3
  obtain ⟨kb5_0, kb5_1, _⟩ := (s6.blkAt 0 rfl).c2
  obtain ⟨kb4_0, kb4_1, _⟩ := (s6.blkAt 1 rfl).c2
  obtain ⟨kb3_0, kb3_1, _⟩ := (s6.blkAt 2 rfl).c2
  obtain ⟨kb2_0, kb2_1, _⟩ := (s6.blkAt 3 rfl).c2
  obtain ⟨kb1_0, kb1_1, _⟩ := (s6.blkAt 4 rfl).c2
  obtain ⟨kb0_0, kb0_1, kb0_2, kb0_3⟩ := (s6.blkAt 5 rfl).c4
  have S6 := Lib.hid s6
  clear s6
  go_wp2_with fail
  obtain ⟨BS, hBS⟩ : ∃ BS : List (Nat × Array Value × TypeId), BS = [(nb6, #[.int .i64 0, .int .i64 M], 48), (nb5, #[.int .i64 lo2, .int .i64 hi2], 48), (nb4, #[.int .i64 lo1, .int .i64 hi1], 48), (w2.heap.size, #[.int .i64 x, .int .i64 d], 36), (w.heap.size + 1, #[.int .i64 n, .int .i64 d], 36), (w.heap.size, #[.int .i64 l, .int .i64 M, .int .i64 s, .int .i64 f], 23)] := ⟨_, rfl⟩
  have hS : KS w BS w6 := by rw [hBS]; exact S6.out
  have K0_0 : ∀ W, KS w BS W → W.cell? ⟨nb6, 0, none⟩ = some (.int .i64 0) := fun W h => by rw [hBS] at h; exact (h.blkAt 0 rfl).cell 0
  have K0_1 : ∀ W, KS w BS W → W.cell? ⟨nb6, 1, none⟩ = some (.int .i64 M) := fun W h => by rw [hBS] at h; exact (h.blkAt 0 rfl).cell 1
  have K1_0 : ∀ W, KS w BS W → W.cell? ⟨nb5, 0, none⟩ = some (.int .i64 lo2) := fun W h => by rw [hBS] at h; exact (h.blkAt 1 rfl).cell 0
  have K1_1 : ∀ W, KS w BS W → W.cell? ⟨nb5, 1, none⟩ = some (.int .i64 hi2) := fun W h => by rw [hBS] at h; exact (h.blkAt 1 rfl).cell 1
  have K2_0 : ∀ W, KS w BS W → W.cell? ⟨nb4, 0, none⟩ = some (.int .i64 lo1) := fun W h => by rw [hBS] at h; exact (h.blkAt 2 rfl).cell 0
  have K2_1 : ∀ W, KS w BS W → W.cell? ⟨nb4, 1, none⟩ = some (.int .i64 hi1) := fun W h => by rw [hBS] at h; exact (h.blkAt 2 rfl).cell 1
  have K3_0 : ∀ W, KS w BS W → W.cell? ⟨w2.heap.size, 0, none⟩ = some (.int .i64 x) := fun W h => by rw [hBS] at h; exact (h.blkAt 3 rfl).cell 0
  have K3_1 : ∀ W, KS w BS W → W.cell? ⟨w2.heap.size, 1, none⟩ = some (.int .i64 d) := fun W h => by rw [hBS] at h; exact (h.blkAt 3 rfl).cell 1
  have K4_0 : ∀ W, KS w BS W → W.cell? ⟨w.heap.size + 1, 0, none⟩ = some (.int .i64 n) := fun W h => by rw [hBS] at h; exact (h.blkAt 4 rfl).cell 0
  have K4_1 : ∀ W, KS w BS W → W.cell? ⟨w.heap.size + 1, 1, none⟩ = some (.int .i64 d) := fun W h => by rw [hBS] at h; exact (h.blkAt 4 rfl).cell 1
  have K5_0 : ∀ W, KS w BS W → W.cell? ⟨w.heap.size, 0, none⟩ = some (.int .i64 l) := fun W h => by rw [hBS] at h; exact (h.blkAt 5 rfl).cell 0
  have K5_1 : ∀ W, KS w BS W → W.cell? ⟨w.heap.size, 1, none⟩ = some (.int .i64 M) := fun W h => by rw [hBS] at h; exact (h.blkAt 5 rfl).cell 1
  have K5_2 : ∀ W, KS w BS W → W.cell? ⟨w.heap.size, 2, none⟩ = some (.int .i64 s) := fun W h => by rw [hBS] at h; exact (h.blkAt 5 rfl).cell 2
  have K5_3 : ∀ W, KS w BS W → W.cell? ⟨w.heap.size, 3, none⟩ = some (.int .i64 f) := fun W h => by rw [hBS] at h; exact (h.blkAt 5 rfl).cell 3
  have HBS := Lib.hid hBS
  clear hBS
  clear kb5_0 kb5_1 kb4_0 kb4_1 kb3_0 kb3_1 kb2_0 kb2_1 kb1_0 kb1_1 kb0_0 kb0_1 kb0_2 kb0_3
  refine wp_region_held_drew (S := KS w BS) (by kernel_rfl) hS.drew (fun hHeld => ?_)
  refine wpAnyH_take (i := 0) (v := ?_) rfl (by kernel_rfl) (by kernel_rfl) (by kernel_rfl) (fun _ _ _ h => h) (Or.inl ⟨by rfl, ?h0⟩) hHeld ?_
  case h0 =>
    intro w' hSw
    (try dsimp only at hSw)
    go_simp
    (try with_reducible rfl)
  (try simp only [Act.put, List.setIfInBounds_toArray, List.set_cons_zero, List.set_cons_succ])
  refine wpAnyH_take (i := 1) (v := ?_) rfl (by kernel_rfl) (by kernel_rfl) (by kernel_rfl) (fun _ _ _ h => h) (Or.inl ⟨by rfl, ?h1⟩) hHeld ?_
  case h1 =>
    intro w' hSw
    (try dsimp only at hSw)
    go_simp
    (try with_reducible rfl)
  (try simp only [Act.put, List.setIfInBounds_toArray, List.set_cons_zero, List.set_cons_succ])
  refine wpAnyH_take (i := 2) (v := ?_) rfl (by kernel_rfl) (by kernel_rfl) (by kernel_rfl) (fun _ _ _ h => h) (Or.inl ⟨by rfl, ?h2⟩) hHeld ?_
  case h2 =>
    intro w' hSw
    (try dsimp only at hSw)
    go_simp
    (try with_reducible rfl)
  (try simp only [Act.put, List.setIfInBounds_toArray, List.set_cons_zero, List.set_cons_succ])
  refine wpAnyH_take (i := 3) (v := ?_) rfl (by kernel_rfl) (by kernel_rfl) (by kernel_rfl) (fun _ _ _ h => h) (Or.inl ⟨by rfl, ?h3⟩) hHeld ?_
  case h3 =>
    intro w' hSw
    (try dsimp only at hSw)
    go_simp
    (try with_reducible rfl)
  (try simp only [Act.put, List.setIfInBounds_toArray, List.set_cons_zero, List.set_cons_succ])
  refine wpAnyH_take (i := 4) (v := ?_) rfl (by kernel_rfl) (by kernel_rfl) (by kernel_rfl) (fun _ _ _ h => h) (Or.inl ⟨by rfl, ?h4⟩) hHeld ?_
  case h4 =>
    intro w' hSw
    (try dsimp only at hSw)
    go_simp
    (try with_reducible rfl)
  (try simp only [Act.put, List.setIfInBounds_toArray, List.set_cons_zero, List.set_cons_succ])
  refine wpAnyH_take (i := 5) (v := ?_) rfl (by kernel_rfl) (by kernel_rfl) (by kernel_rfl) (fun _ _ _ h => h) (Or.inl ⟨by rfl, ?h5⟩) hHeld ?_
  case h5 =>
    intro w' hSw
    (try dsimp only at hSw)
    go_simp
    (try with_reducible rfl)
  (try simp only [Act.put, List.setIfInBounds_toArray, List.set_cons_zero, List.set_cons_succ])
  refine wpAnyH_ready (rs := [6]) (by kernel_rfl) (by simp) ?_
  refine AllReadyH.cons rfl (fun K hK => ?_) AllReadyH.nil
  go_simp
  (with_reducible refine (between_any _ _ _).mono ?_)
  rintro e wn ⟨rfl, hb⟩
  have hSn := KS.below hHeld hb
  clear hb hHeld
  (try go_wp2_with fail)
  refine hK.out _ _ hSn (fun hHeld => ?_)
  clear hK K hSn
  (try simp only [Act.put, List.setIfInBounds_toArray, List.set_cons_zero, List.set_cons_succ])
  refine wpAnyH_take (i := 7) (v := ?_) rfl (by kernel_rfl) (by kernel_rfl) (by kernel_rfl) (fun _ _ _ h => h) (Or.inl ⟨by rfl, ?h7⟩) hHeld ?_
  case h7 =>
    intro w' hSw
    (try dsimp only at hSw)
    go_simp
    (try with_reducible rfl)
  (try simp only [Act.put, List.setIfInBounds_toArray, List.set_cons_zero, List.set_cons_succ])
  refine wpAnyH_take (i := 8) (v := ?_) rfl (by kernel_rfl) (by kernel_rfl) (by kernel_rfl) (fun _ _ _ h => h) (Or.inl ⟨by rfl, ?h8⟩) hHeld ?_
  case h8 =>
    intro w' hSw
    (try dsimp only at hSw)
    go_simp
    (try with_reducible rfl)
  (try simp only [Act.put, List.setIfInBounds_toArray, List.set_cons_zero, List.set_cons_succ])
  refine wpAnyH_take (i := 9) (v := ?_) rfl (by kernel_rfl) (by kernel_rfl) (by kernel_rfl) (fun _ _ _ h => h) (Or.inl ⟨by rfl, ?h9⟩) hHeld ?_
  case h9 =>
    intro w' hSw
    (try dsimp only at hSw)
    go_simp
    (try with_reducible rfl)
  (try simp only [Act.put, List.setIfInBounds_toArray, List.set_cons_zero, List.set_cons_succ])
  refine wpAnyH_take (i := 10) (v := ?_) rfl (by kernel_rfl) (by kernel_rfl) (by kernel_rfl) (fun _ _ _ h => h) (Or.inl ⟨by rfl, ?h10⟩) hHeld ?_
  case h10 =>
    intro w' hSw
    (try dsimp only at hSw)
    go_simp
    (try with_reducible rfl)
  (try simp only [Act.put, List.setIfInBounds_toArray, List.set_cons_zero, List.set_cons_succ])
  refine wpAnyH_take (i := 11) (v := ?_) rfl (by kernel_rfl) (by kernel_rfl) (by kernel_rfl) (fun _ _ _ h => h) (Or.inl ⟨by rfl, ?h11⟩) hHeld ?_
  case h11 =>
    intro w' hSw
    (try dsimp only at hSw)
    go_simp
    (try with_reducible rfl)
  (try simp only [Act.put, List.setIfInBounds_toArray, List.set_cons_zero, List.set_cons_succ])
  refine wpAnyH_take (i := 12) (v := ?_) rfl (by kernel_rfl) (by kernel_rfl) (by kernel_rfl) (fun _ _ _ h => h) (Or.inl ⟨by rfl, ?h12⟩) hHeld ?_
  case h12 =>
    intro w' hSw
    (try dsimp only at hSw)
    go_simp
    (try with_reducible rfl)
  (try simp only [Act.put, List.setIfInBounds_toArray, List.set_cons_zero, List.set_cons_succ])
  refine wpAnyH_take (i := 13) (v := undef) rfl (by kernel_rfl) (by kernel_rfl) (by kernel_rfl) (fun _ _ _ h => h) (Or.inr ⟨by kernel_rfl, rfl⟩) hHeld ?_
  (try simp only [Act.put, List.setIfInBounds_toArray, List.set_cons_zero, List.set_cons_succ])
  refine wpAnyH_take (i := 14) (v := undef) rfl (by kernel_rfl) (by kernel_rfl) (by kernel_rfl) (fun _ _ _ h => h) (Or.inr ⟨by kernel_rfl, rfl⟩) hHeld ?_
  (try simp only [Act.put, List.setIfInBounds_toArray, List.set_cons_zero, List.set_cons_succ])
  refine wpAnyH_ready (rs := [15]) (by kernel_rfl) (by simp) ?_
  refine AllReadyH.cons rfl (fun K hK => ?_) AllReadyH.nil
  go_simp
  refine hK.out _ _ hHeld (fun hHeld => ?_)
  clear hK K
  (try simp only [Act.put, List.setIfInBounds_toArray, List.set_cons_zero, List.set_cons_succ])
  refine wpAnyH_ready (rs := [16]) (by kernel_rfl) (by simp) ?_
  refine AllReadyH.cons rfl (fun K hK => ?_) AllReadyH.nil
  go_simp
  refine hK.out _ _ hHeld (fun hHeld => ?_)
  clear hK K
  (try simp only [Act.put, List.setIfInBounds_toArray, List.set_cons_zero, List.set_cons_succ])
  refine wpAnyH_done (by kernel_rfl) ?_ _
  have c0 := K1_0 _ hHeld
  have c1 := K1_1 _ hHeld
  have c2 := K2_0 _ hHeld
  have c3 := K2_1 _ hHeld
  clear K0_0 K0_1 K1_0 K1_1 K2_0 K2_1 K3_0 K3_1 K4_0 K4_1 K5_0 K5_1 K5_2 K5_3
  go_wp2_with (first | (go_at_call 24; (with_reducible refine (awake_any _).mono ?_); rintro e w99 ⟨rfl, h99⟩; have S99 := Lib.hid (KS.below (w := w) (bs := BS) hHeld h99); clear h99))
  go_ret
  exact ⟨rfl, S99.out.bel⟩
end Go.Proofs.Ytkfobnhnehbkeaa
