/- The statement on rises: a number that is excluded. -/
import Derived.Test.YtkfobnhnehbkeaaRis1
namespace Go.Proofs.Ytkfobnhnehbkeaa
open Go.RowKit Go.Shelf
open Mis (ch sets tot sm low up lower excl rng)

set_option maxRecDepth 100000 in
set_option maxHeartbeats 16000000 in
theorem MissRises_some_t (l M s f n d u : Nat) (b : Int) (w : World) (h : okA l M s f) (hl : levB n d = true) (hM : 0 < M) (hb : 0 ≤ b ∧ b ≤ 255) (e1 : b % (M : Int) = u) (hu : u + 1 ≤ M) (hT1 : lower (Mis.low l u s f) (tot l u s) n d = true) (lo hi : Nat) (hr : rangeOf l M s f n d = some (lo, hi)) (hlh : lo ≤ hi) (hout : u < lo ∨ hi < u) : Calls Try.prog 10 #[areaV l M s f, .int .u8 b, fracV n d] w fun e w' => e = .returned (.bool true) ∧ Below w.heap.size w w' := by
  have C42 := Lib.hid (fun w => rIsArea_any l M s f w)
  rw [h.b] at C42
  have C33 := Lib.hid (fun w => rIsLevel_any n d w)
  rw [hl] at C33
  obtain ⟨hb1, hb2⟩ := hb
  obtain ⟨g1, g2, g3⟩ := lev_of hl
  have g0 : (0 : Int) < (M : Int) := by omega
  have t0 : ((M : Int) == 0) = false := by simp; omega
  have t00 : (M == 0) = false := by simp; omega
  have hM50 : M ≤ 50 := by obtain ⟨h1, _, _⟩ := h; omega
  have hu1 : u ≤ M := by omega
  have C21 := Lib.hid (fun w => Most_ok h hu1 w)
  have D21 := Lib.hid (show ∀ w, Calls Try.prog 21 #[areaV l M s f, .int .i64 ((u : Int) + 1), .bool true] w (ChPost (Mis.low l (u + 1) s f) (tot l (u + 1) s) w) from fun w => Most_ok h hu w)
  have E21 := Lib.hid (fun w => Least_ok h hu1 w)
  have F21 := Lib.hid (show ∀ w, Calls Try.prog 21 #[areaV l M s f, .int .i64 ((u : Int) + 1), .bool false] w (ChPost (Mis.up l (u + 1) s f) (tot l (u + 1) s) w) from fun w => Least_ok h hu w)
  have x1 : lower (Mis.low l (u + 1) s f) (tot l (u + 1) s) (Mis.low l u s f) (tot l u s) = false := by rw [Mis.lower_no]; exact Mis.low_rises l u s f h.2.2
  have x2 : lower (Mis.up l u s f) (tot l u s) (Mis.up l (u + 1) s f) (tot l (u + 1) s) = false := by rw [Mis.lower_no]; exact Mis.up_falls l u s f h.2.2
  have C45 := Lib.hid (fun w => lower45_two (N := Mis.low l (u + 1) s f) (D := tot l (u + 1) s) (P := Mis.low l u s f) (Q := tot l u s) w (h.pos _) (h.low hu) (h.big hu) (h.pos _) (h.low hu1) (h.big hu1))
  have D45 := Lib.hid (fun w => lower45_two (N := Mis.up l u s f) (D := tot l u s) (P := Mis.up l (u + 1) s f) (Q := tot l (u + 1) s) w (h.pos _) (h.up hu1) (h.big hu1) (h.pos _) (h.up hu) (h.big hu))
  have E45 := Lib.hid (fun w => lower45_level (N := Mis.low l u s f) (D := tot l u s) (n := n) (d := d) w (h.pos _) (h.low hu1) (h.big hu1) g1 g2 g3)
  have F45 := Lib.hid (fun w => lower45_level (N := Mis.up l u s f) (D := tot l u s) (n := n) (d := d) w (h.pos _) (h.up hu1) (h.big hu1) g1 g2 g3)
  rw [x1] at C45
  rw [x2] at D45
  rw [hT1] at E45
  have C36 := Lib.hid (show ∀ w, Calls Try.prog 36 #[areaV l M s f, fracV n d] w fun e w' => e = .returned (.tuple #[rangeV lo hi, .int .i64 0]) ∧ Below w.heap.size w w' from fun w => by have h1 := Missed_ok h hl w; unfold MissedPost at h1; rw [hr] at h1; exact h1)
  clear hr
  unfold ChPost at C21 D21 E21 F21
  unfold lowV at C21 D21 E21 F21 C45 D45 E45 F45
  clear x1 x2 hT1 h hl g1
  generalize Mis.low l u s f / Nat.gcd (Mis.low l u s f) (tot l u s) = p1 at *
  generalize tot l u s / Nat.gcd (Mis.low l u s f) (tot l u s) = q1 at *
  generalize Mis.low l (u + 1) s f / Nat.gcd (Mis.low l (u + 1) s f) (tot l (u + 1) s) = p2 at *
  generalize tot l (u + 1) s / Nat.gcd (Mis.low l (u + 1) s f) (tot l (u + 1) s) = q2 at *
  generalize Mis.up l u s f / Nat.gcd (Mis.up l u s f) (tot l u s) = p3 at *
  generalize tot l u s / Nat.gcd (Mis.up l u s f) (tot l u s) = q3 at *
  generalize Mis.up l (u + 1) s f / Nat.gcd (Mis.up l (u + 1) s f) (tot l (u + 1) s) = p4 at *
  generalize tot l (u + 1) s / Nat.gcd (Mis.up l (u + 1) s f) (tot l (u + 1) s) = q4 at *
  have s0 := ((KS.start w).new #[.int .i64 l, .int .i64 M, .int .i64 s, .int .i64 f] 23).new #[.int .i64 n, .int .i64 d] 36
  rw [World.size_alloc] at s0
  obtain ⟨kb1_0, kb1_1, _⟩ := (s0.blkAt 0 rfl).c2
  obtain ⟨kb0_0, kb0_1, kb0_2, kb0_3⟩ := (s0.blkAt 1 rfl).c4
  have S0 := Lib.hid s0
  clear s0
  go_enter Try.func10, Try.ntmps10
  go_wp2_with fail
  refine (C42.out _).mono ?_
  rintro e w1 ⟨rfl, h1⟩
  clear kb1_0 kb1_1 kb0_0 kb0_1 kb0_2 kb0_3
  have s1 := S0.out.below h1
  obtain ⟨kb1_0, kb1_1, _⟩ := (s1.blkAt 0 rfl).c2
  obtain ⟨kb0_0, kb0_1, kb0_2, kb0_3⟩ := (s1.blkAt 1 rfl).c4
  have S1 := Lib.hid s1
  clear h1 s1
  go_wp2_with fail
  refine (C33.out _).mono ?_
  rintro e w2 ⟨rfl, h2⟩
  clear kb1_0 kb1_1 kb0_0 kb0_1 kb0_2 kb0_3
  have s2 := S1.out.below h2
  obtain ⟨kb1_0, kb1_1, _⟩ := (s2.blkAt 0 rfl).c2
  obtain ⟨kb0_0, kb0_1, kb0_2, kb0_3⟩ := (s2.blkAt 1 rfl).c4
  have S2 := Lib.hid s2
  clear h2 s2
  go_wp2_with fail
  refine (Area_any _ _ _ _ _).mono ?_
  rintro e w3 ⟨rfl, h3⟩
  clear kb1_0 kb1_1 kb0_0 kb0_1 kb0_2 kb0_3
  have s3 := S2.out.below h3
  obtain ⟨kb1_0, kb1_1, _⟩ := (s3.blkAt 0 rfl).c2
  obtain ⟨kb0_0, kb0_1, kb0_2, kb0_3⟩ := (s3.blkAt 1 rfl).c4
  have S3 := Lib.hid s3
  clear h3 s3
  go_wp2_with fail
  refine (C21.out _).mono ?_
  rintro e w4 ⟨rfl, h4⟩
  clear kb1_0 kb1_1 kb0_0 kb0_1 kb0_2 kb0_3
  have s4 := (S3.out.below h4).new #[.int .i64 p1, .int .i64 q1] 25
  obtain ⟨kb2_0, kb2_1, _⟩ := (s4.blkAt 0 rfl).c2
  obtain ⟨kb1_0, kb1_1, _⟩ := (s4.blkAt 1 rfl).c2
  obtain ⟨kb0_0, kb0_1, kb0_2, kb0_3⟩ := (s4.blkAt 2 rfl).c4
  have S4 := Lib.hid s4
  clear h4 s4
  go_wp2_with fail
  refine (Area_any _ _ _ _ _).mono ?_
  rintro e w5 ⟨rfl, h5⟩
  clear kb2_0 kb2_1 kb1_0 kb1_1 kb0_0 kb0_1 kb0_2 kb0_3
  have s5 := S4.out.below h5
  obtain ⟨kb2_0, kb2_1, _⟩ := (s5.blkAt 0 rfl).c2
  obtain ⟨kb1_0, kb1_1, _⟩ := (s5.blkAt 1 rfl).c2
  obtain ⟨kb0_0, kb0_1, kb0_2, kb0_3⟩ := (s5.blkAt 2 rfl).c4
  have S5 := Lib.hid s5
  clear h5 s5
  go_wp2_with fail
  refine (D21.out _).mono ?_
  rintro e w6 ⟨rfl, h6⟩
  clear kb2_0 kb2_1 kb1_0 kb1_1 kb0_0 kb0_1 kb0_2 kb0_3
  have s6 := (S5.out.below h6).new #[.int .i64 p2, .int .i64 q2] 25
  obtain ⟨kb3_0, kb3_1, _⟩ := (s6.blkAt 0 rfl).c2
  obtain ⟨kb2_0, kb2_1, _⟩ := (s6.blkAt 1 rfl).c2
  obtain ⟨kb1_0, kb1_1, _⟩ := (s6.blkAt 2 rfl).c2
  obtain ⟨kb0_0, kb0_1, kb0_2, kb0_3⟩ := (s6.blkAt 3 rfl).c4
  have S6 := Lib.hid s6
  clear h6 s6
  go_wp2_with fail
  refine (Area_any _ _ _ _ _).mono ?_
  rintro e w7 ⟨rfl, h7⟩
  clear kb3_0 kb3_1 kb2_0 kb2_1 kb1_0 kb1_1 kb0_0 kb0_1 kb0_2 kb0_3
  have s7 := S6.out.below h7
  obtain ⟨kb3_0, kb3_1, _⟩ := (s7.blkAt 0 rfl).c2
  obtain ⟨kb2_0, kb2_1, _⟩ := (s7.blkAt 1 rfl).c2
  obtain ⟨kb1_0, kb1_1, _⟩ := (s7.blkAt 2 rfl).c2
  obtain ⟨kb0_0, kb0_1, kb0_2, kb0_3⟩ := (s7.blkAt 3 rfl).c4
  have S7 := Lib.hid s7
  clear h7 s7
  go_wp2_with fail
  refine (E21.out _).mono ?_
  rintro e w8 ⟨rfl, h8⟩
  clear kb3_0 kb3_1 kb2_0 kb2_1 kb1_0 kb1_1 kb0_0 kb0_1 kb0_2 kb0_3
  have s8 := (S7.out.below h8).new #[.int .i64 p3, .int .i64 q3] 25
  obtain ⟨kb4_0, kb4_1, _⟩ := (s8.blkAt 0 rfl).c2
  obtain ⟨kb3_0, kb3_1, _⟩ := (s8.blkAt 1 rfl).c2
  obtain ⟨kb2_0, kb2_1, _⟩ := (s8.blkAt 2 rfl).c2
  obtain ⟨kb1_0, kb1_1, _⟩ := (s8.blkAt 3 rfl).c2
  obtain ⟨kb0_0, kb0_1, kb0_2, kb0_3⟩ := (s8.blkAt 4 rfl).c4
  have S8 := Lib.hid s8
  clear h8 s8
  go_wp2_with fail
  refine (Area_any _ _ _ _ _).mono ?_
  rintro e w9 ⟨rfl, h9⟩
  clear kb4_0 kb4_1 kb3_0 kb3_1 kb2_0 kb2_1 kb1_0 kb1_1 kb0_0 kb0_1 kb0_2 kb0_3
  have s9 := S8.out.below h9
  obtain ⟨kb4_0, kb4_1, _⟩ := (s9.blkAt 0 rfl).c2
  obtain ⟨kb3_0, kb3_1, _⟩ := (s9.blkAt 1 rfl).c2
  obtain ⟨kb2_0, kb2_1, _⟩ := (s9.blkAt 2 rfl).c2
  obtain ⟨kb1_0, kb1_1, _⟩ := (s9.blkAt 3 rfl).c2
  obtain ⟨kb0_0, kb0_1, kb0_2, kb0_3⟩ := (s9.blkAt 4 rfl).c4
  have S9 := Lib.hid s9
  clear h9 s9
  go_wp2_with fail
  refine (F21.out _).mono ?_
  rintro e w10 ⟨rfl, h10⟩
  clear kb4_0 kb4_1 kb3_0 kb3_1 kb2_0 kb2_1 kb1_0 kb1_1 kb0_0 kb0_1 kb0_2 kb0_3
  have s10 := (S9.out.below h10).new #[.int .i64 p4, .int .i64 q4] 25
  obtain ⟨kb5_0, kb5_1, _⟩ := (s10.blkAt 0 rfl).c2
  obtain ⟨kb4_0, kb4_1, _⟩ := (s10.blkAt 1 rfl).c2
  obtain ⟨kb3_0, kb3_1, _⟩ := (s10.blkAt 2 rfl).c2
  obtain ⟨kb2_0, kb2_1, _⟩ := (s10.blkAt 3 rfl).c2
  obtain ⟨kb1_0, kb1_1, _⟩ := (s10.blkAt 4 rfl).c2
  obtain ⟨kb0_0, kb0_1, kb0_2, kb0_3⟩ := (s10.blkAt 5 rfl).c4
  have S10 := Lib.hid s10
  clear h10 s10
  go_wp2_with fail
  refine (C45.out _).mono ?_
  rintro e w11 ⟨rfl, h11⟩
  clear kb5_0 kb5_1 kb4_0 kb4_1 kb3_0 kb3_1 kb2_0 kb2_1 kb1_0 kb1_1 kb0_0 kb0_1 kb0_2 kb0_3
  have s11 := S10.out.below h11
  obtain ⟨kb5_0, kb5_1, _⟩ := (s11.blkAt 0 rfl).c2
  obtain ⟨kb4_0, kb4_1, _⟩ := (s11.blkAt 1 rfl).c2
  obtain ⟨kb3_0, kb3_1, _⟩ := (s11.blkAt 2 rfl).c2
  obtain ⟨kb2_0, kb2_1, _⟩ := (s11.blkAt 3 rfl).c2
  obtain ⟨kb1_0, kb1_1, _⟩ := (s11.blkAt 4 rfl).c2
  obtain ⟨kb0_0, kb0_1, kb0_2, kb0_3⟩ := (s11.blkAt 5 rfl).c4
  have S11 := Lib.hid s11
  clear h11 s11
  go_wp2_with fail
  refine (D45.out _).mono ?_
  rintro e w12 ⟨rfl, h12⟩
  clear kb5_0 kb5_1 kb4_0 kb4_1 kb3_0 kb3_1 kb2_0 kb2_1 kb1_0 kb1_1 kb0_0 kb0_1 kb0_2 kb0_3
  have s12 := S11.out.below h12
  obtain ⟨kb5_0, kb5_1, _⟩ := (s12.blkAt 0 rfl).c2
  obtain ⟨kb4_0, kb4_1, _⟩ := (s12.blkAt 1 rfl).c2
  obtain ⟨kb3_0, kb3_1, _⟩ := (s12.blkAt 2 rfl).c2
  obtain ⟨kb2_0, kb2_1, _⟩ := (s12.blkAt 3 rfl).c2
  obtain ⟨kb1_0, kb1_1, _⟩ := (s12.blkAt 4 rfl).c2
  obtain ⟨kb0_0, kb0_1, kb0_2, kb0_3⟩ := (s12.blkAt 5 rfl).c4
  have S12 := Lib.hid s12
  clear h12 s12
  go_wp2_with fail
  obtain ⟨BS, hBS⟩ : ∃ BS : List (Nat × Array Value × TypeId), BS = [(w10.heap.size, #[.int .i64 p4, .int .i64 q4], 25), (w8.heap.size, #[.int .i64 p3, .int .i64 q3], 25), (w6.heap.size, #[.int .i64 p2, .int .i64 q2], 25), (w4.heap.size, #[.int .i64 p1, .int .i64 q1], 25), (w.heap.size + 1, #[.int .i64 n, .int .i64 d], 36), (w.heap.size, #[.int .i64 l, .int .i64 M, .int .i64 s, .int .i64 f], 23)] := ⟨_, rfl⟩
  have hS : KS w BS w12 := by rw [hBS]; exact S12.out
  have K4_0 : ∀ W, KS w BS W → W.cell? ⟨w.heap.size + 1, 0, none⟩ = some (.int .i64 n) := fun W h => by rw [hBS] at h; exact (h.blkAt 4 rfl).cell 0
  have K4_1 : ∀ W, KS w BS W → W.cell? ⟨w.heap.size + 1, 1, none⟩ = some (.int .i64 d) := fun W h => by rw [hBS] at h; exact (h.blkAt 4 rfl).cell 1
  have K5_0 : ∀ W, KS w BS W → W.cell? ⟨w.heap.size, 0, none⟩ = some (.int .i64 l) := fun W h => by rw [hBS] at h; exact (h.blkAt 5 rfl).cell 0
  have K5_1 : ∀ W, KS w BS W → W.cell? ⟨w.heap.size, 1, none⟩ = some (.int .i64 M) := fun W h => by rw [hBS] at h; exact (h.blkAt 5 rfl).cell 1
  have K5_2 : ∀ W, KS w BS W → W.cell? ⟨w.heap.size, 2, none⟩ = some (.int .i64 s) := fun W h => by rw [hBS] at h; exact (h.blkAt 5 rfl).cell 2
  have K5_3 : ∀ W, KS w BS W → W.cell? ⟨w.heap.size, 3, none⟩ = some (.int .i64 f) := fun W h => by rw [hBS] at h; exact (h.blkAt 5 rfl).cell 3
  have KZ0 : ∀ W b, KZ w BS b #[.int .i64 0, .int .i64 0] 48 W → W.cell? ⟨b, 0, none⟩ = some (.int .i64 0) := fun W b h => h.c0
  have KZ1 : ∀ W b, KZ w BS b #[.int .i64 0, .int .i64 0] 48 W → W.cell? ⟨b, 1, none⟩ = some (.int .i64 0) := fun W b h => h.c1
  have KF0 : ∀ W b, KZ w BS b #[.int .i64 0, .int .i64 0] 48 W → W.frozen? ⟨b, 0, none⟩ = false := fun W b h => h.f 0
  have KF1 : ∀ W b, KZ w BS b #[.int .i64 0, .int .i64 0] 48 W → W.frozen? ⟨b, 1, none⟩ = false := fun W b h => h.f 1
  have HBS := Lib.hid hBS
  clear hBS kb5_0 kb5_1 kb4_0 kb4_1 kb3_0 kb3_1 kb2_0 kb2_1 kb1_0 kb1_1 kb0_0 kb0_1 kb0_2 kb0_3
  refine wp_join (f := fun a b => ((((((((((a.put (some 93) (.agg #[.int .i64 l, .int .i64 M, .int .i64 s, .int .i64 f])).put (some 94) (.agg #[.int .i64 l, .int .i64 M, .int .i64 s, .int .i64 f])).put (some 95) (.agg #[.int .i64 n, .int .i64 d])).put (some 96) (.agg #[.int .i64 n, .int .i64 d])).put (some 97) (.tuple #[.agg #[.int .i64 lo, .int .i64 hi], .int .i64 0])).put (some 92) (.tuple #[.agg #[.int .i64 lo, .int .i64 hi], .int .i64 0])).put (some 98) (.agg #[.int .i64 lo, .int .i64 hi])).put (some 99) (.int .i64 0)).put (some 17) (.int .i64 0)).put (some 16) (.pointer (some ⟨b, 0, none⟩)))) (mid := fun b W' => KS w ((b, #[.int .i64 lo, .int .i64 hi], 48) :: BS) W') ?_ ?_
  · go_region_held3 (KS w BS)
      (first | assumption | exact KS.drew (by assumption) | exact KS.alloc (by assumption) _ | exact KS.drew (KS.alloc (by assumption) _) | exact KS.alloc (KS.drew (by assumption)) _ | exact KZ.ks (by assumption) | exact (KZ.new (by assumption) _ _).ks | exact KZ.keep2 (by assumption) | exact (KZ.keep2 (by assumption)).drew | exact (KZ.drew (by assumption)).keep2 | go_keep)
      (first | (go_at_call 20; (with_reducible refine (Area_any _ _ _ _ _).mono ?_); rintro e wn ⟨rfl, hb⟩; have hSn := KS.below (w := w) (bs := BS) (by first | assumption | exact KS.drew (by assumption)) hb; (first | (have hZ := KZ.below (w := w) (bs := BS) (cs := #[.int .i64 0, .int .i64 0]) (t := 48) (by assumption) hb) | (have hZ := KZ.below (w := w) (bs := BS) (KZ.new (by assumption) #[.int .i64 0, .int .i64 0] 48) hb) | (have hZ := KZ.below (w := w) (bs := BS) (KZ.newD (by assumption) #[.int .i64 0, .int .i64 0] 48) hb) | skip); clear hb) | (go_at_call 25; (with_reducible refine (part_any _ _ _).mono ?_); rintro e wn ⟨rfl, hb⟩; have hSn := KS.below (w := w) (bs := BS) (by first | assumption | exact KS.drew (by assumption)) hb; (first | (have hZ := KZ.below (w := w) (bs := BS) (cs := #[.int .i64 0, .int .i64 0]) (t := 48) (by assumption) hb) | (have hZ := KZ.below (w := w) (bs := BS) (KZ.new (by assumption) #[.int .i64 0, .int .i64 0] 48) hb) | (have hZ := KZ.below (w := w) (bs := BS) (KZ.newD (by assumption) #[.int .i64 0, .int .i64 0] 48) hb) | skip); clear hb) | (go_at_call 36; (with_reducible refine (C36.out _).mono ?_); rintro e wn ⟨rfl, hb⟩; have hSn := KS.below (w := w) (bs := BS) (by first | assumption | exact KS.drew (by assumption)) hb; (first | (have hZ := KZ.below (w := w) (bs := BS) (cs := #[.int .i64 0, .int .i64 0]) (t := 48) (by assumption) hb) | (have hZ := KZ.below (w := w) (bs := BS) (KZ.new (by assumption) #[.int .i64 0, .int .i64 0] 48) hb) | (have hZ := KZ.below (w := w) (bs := BS) (KZ.newD (by assumption) #[.int .i64 0, .int .i64 0] 48) hb) | skip); clear hb))
    all_goals first | exact ⟨rfl, _, rfl, KS.new (by assumption) _ _⟩ | exact ⟨rfl, _, rfl, KZ.set2 (by assumption)⟩ | exact ⟨rfl, _, rfl, KZ.set2D (by assumption)⟩ | exact ⟨rfl, _, rfl, (KZ.set2 (by assumption)).drew⟩
  intro nb13 w13 hM
  simp only [Act.put, List.setIfInBounds_toArray, List.set_cons_zero, List.set_cons_succ]
  have s13 : KS w [(nb13, #[.int .i64 lo, .int .i64 hi], 48), (w10.heap.size, #[.int .i64 p4, .int .i64 q4], 25), (w8.heap.size, #[.int .i64 p3, .int .i64 q3], 25), (w6.heap.size, #[.int .i64 p2, .int .i64 q2], 25), (w4.heap.size, #[.int .i64 p1, .int .i64 q1], 25), (w.heap.size + 1, #[.int .i64 n, .int .i64 d], 36), (w.heap.size, #[.int .i64 l, .int .i64 M, .int .i64 s, .int .i64 f], 23)] w13 := by have h := hM; rw [HBS.out] at h; exact h
  clear hS hM HBS KZ0 KZ1 KF0 KF1 K4_0 K4_1 K5_0 K5_1 K5_2 K5_3
  obtain ⟨kb6_0, kb6_1, _⟩ := (s13.blkAt 0 rfl).c2
  obtain ⟨kb5_0, kb5_1, _⟩ := (s13.blkAt 1 rfl).c2
  obtain ⟨kb4_0, kb4_1, _⟩ := (s13.blkAt 2 rfl).c2
  obtain ⟨kb3_0, kb3_1, _⟩ := (s13.blkAt 3 rfl).c2
  obtain ⟨kb2_0, kb2_1, _⟩ := (s13.blkAt 4 rfl).c2
  obtain ⟨kb1_0, kb1_1, _⟩ := (s13.blkAt 5 rfl).c2
  obtain ⟨kb0_0, kb0_1, kb0_2, kb0_3⟩ := (s13.blkAt 6 rfl).c4
  have S13 := Lib.hid s13
  clear s13
  go_wp2_with fail
  obtain ⟨BS, hBS⟩ : ∃ BS : List (Nat × Array Value × TypeId), BS = [(nb13, #[.int .i64 lo, .int .i64 hi], 48), (w10.heap.size, #[.int .i64 p4, .int .i64 q4], 25), (w8.heap.size, #[.int .i64 p3, .int .i64 q3], 25), (w6.heap.size, #[.int .i64 p2, .int .i64 q2], 25), (w4.heap.size, #[.int .i64 p1, .int .i64 q1], 25), (w.heap.size + 1, #[.int .i64 n, .int .i64 d], 36), (w.heap.size, #[.int .i64 l, .int .i64 M, .int .i64 s, .int .i64 f], 23)] := ⟨_, rfl⟩
  have hS : KS w BS w13 := by rw [hBS]; exact S13.out
  have K0_0 : ∀ W, KS w BS W → W.cell? ⟨nb13, 0, none⟩ = some (.int .i64 lo) := fun W h => by rw [hBS] at h; exact (h.blkAt 0 rfl).cell 0
  have K0_1 : ∀ W, KS w BS W → W.cell? ⟨nb13, 1, none⟩ = some (.int .i64 hi) := fun W h => by rw [hBS] at h; exact (h.blkAt 0 rfl).cell 1
  have K2_0 : ∀ W, KS w BS W → W.cell? ⟨w8.heap.size, 0, none⟩ = some (.int .i64 p3) := fun W h => by rw [hBS] at h; exact (h.blkAt 2 rfl).cell 0
  have K2_1 : ∀ W, KS w BS W → W.cell? ⟨w8.heap.size, 1, none⟩ = some (.int .i64 q3) := fun W h => by rw [hBS] at h; exact (h.blkAt 2 rfl).cell 1
  have K4_0 : ∀ W, KS w BS W → W.cell? ⟨w4.heap.size, 0, none⟩ = some (.int .i64 p1) := fun W h => by rw [hBS] at h; exact (h.blkAt 4 rfl).cell 0
  have K4_1 : ∀ W, KS w BS W → W.cell? ⟨w4.heap.size, 1, none⟩ = some (.int .i64 q1) := fun W h => by rw [hBS] at h; exact (h.blkAt 4 rfl).cell 1
  have K5_0 : ∀ W, KS w BS W → W.cell? ⟨w.heap.size + 1, 0, none⟩ = some (.int .i64 n) := fun W h => by rw [hBS] at h; exact (h.blkAt 5 rfl).cell 0
  have K5_1 : ∀ W, KS w BS W → W.cell? ⟨w.heap.size + 1, 1, none⟩ = some (.int .i64 d) := fun W h => by rw [hBS] at h; exact (h.blkAt 5 rfl).cell 1
  have HBS := Lib.hid hBS
  clear hBS kb6_0 kb6_1 kb5_0 kb5_1 kb4_0 kb4_1 kb3_0 kb3_1 kb2_0 kb2_1 kb1_0 kb1_1 kb0_0 kb0_1 kb0_2 kb0_3
  refine wp_region_held_drew (S := KS w BS) (by kernel_rfl) hS.drew (fun hHeld => ?_)
  refine wpAnyH_take (i := 0) (v := ?_) rfl (by kernel_rfl) (by kernel_rfl) (by kernel_rfl) (fun _ _ _ h => h) (Or.inl ⟨by rfl, ?h0⟩) hHeld ?_
  case h0 =>
    intro w' hSw
    (try dsimp only at hSw)
    go_simp
    (try with_reducible rfl)
  (try simp only [Act.put, List.setIfInBounds_toArray, List.set_cons_zero, List.set_cons_succ])
  refine wpAnyH_take (i := 1) (v := ?_) rfl (by kernel_rfl) (by kernel_rfl) (by kernel_rfl) (fun _ _ _ h => h) (Or.inl ⟨by rfl, ?h1⟩) hHeld ?_
  case h1 =>
    intro w' hSw
    (try dsimp only at hSw)
    go_simp
    (try with_reducible rfl)
  (try simp only [Act.put, List.setIfInBounds_toArray, List.set_cons_zero, List.set_cons_succ])
  refine wpAnyH_ready (rs := [2]) (by kernel_rfl) (by simp) ?_
  refine AllReadyH.cons rfl (fun K hK => ?_) AllReadyH.nil
  go_simp
  (with_reducible refine (part_any _ _ _).mono ?_)
  rintro e wn ⟨rfl, hb⟩
  have hSn := KS.below hHeld hb
  clear hb hHeld
  (try go_wp2_with fail)
  refine hK.out _ _ hSn (fun hHeld => ?_)
  clear hK K hSn
  (try simp only [Act.put, List.setIfInBounds_toArray, List.set_cons_zero, List.set_cons_succ])
  refine wpAnyH_ready (rs := [3]) (by kernel_rfl) (by simp) ?_
  refine AllReadyH.cons rfl (fun K hK => ?_) AllReadyH.nil
  go_simp
  (with_reducible refine (E45.out _).mono ?_)
  rintro e wn ⟨rfl, hb⟩
  have hSn := KS.below hHeld hb
  clear hb hHeld
  (try go_wp2_with fail)
  refine hK.out _ _ hSn (fun hHeld => ?_)
  clear hK K hSn
  (try simp only [Act.put, List.setIfInBounds_toArray, List.set_cons_zero, List.set_cons_succ])
  refine wpAnyH_take (i := 4) (v := ?_) rfl (by kernel_rfl) (by kernel_rfl) (by kernel_rfl) (fun _ _ _ h => h) (Or.inl ⟨by rfl, ?h4⟩) hHeld ?_
  case h4 =>
    intro w' hSw
    (try dsimp only at hSw)
    go_simp
    (try with_reducible rfl)
  (try simp only [Act.put, List.setIfInBounds_toArray, List.set_cons_zero, List.set_cons_succ])
  refine wpAnyH_take (i := 5) (v := undef) rfl (by kernel_rfl) (by kernel_rfl) (by kernel_rfl) (fun _ _ _ h => h) (Or.inr ⟨by kernel_rfl, rfl⟩) hHeld ?_
  (try simp only [Act.put, List.setIfInBounds_toArray, List.set_cons_zero, List.set_cons_succ])
  refine wpAnyH_take (i := 6) (v := undef) rfl (by kernel_rfl) (by kernel_rfl) (by kernel_rfl) (fun _ _ _ h => h) (Or.inr ⟨by kernel_rfl, rfl⟩) hHeld ?_
  (try simp only [Act.put, List.setIfInBounds_toArray, List.set_cons_zero, List.set_cons_succ])
  refine wpAnyH_take (i := 7) (v := undef) rfl (by kernel_rfl) (by kernel_rfl) (by kernel_rfl) (fun _ _ _ h => h) (Or.inr ⟨by kernel_rfl, rfl⟩) hHeld ?_
  (try simp only [Act.put, List.setIfInBounds_toArray, List.set_cons_zero, List.set_cons_succ])
  refine wpAnyH_take (i := 8) (v := undef) rfl (by kernel_rfl) (by kernel_rfl) (by kernel_rfl) (fun _ _ _ h => h) (Or.inr ⟨by kernel_rfl, rfl⟩) hHeld ?_
  (try simp only [Act.put, List.setIfInBounds_toArray, List.set_cons_zero, List.set_cons_succ])
  refine wpAnyH_ready (rs := [9]) (by kernel_rfl) (by simp) ?_
  refine AllReadyH.cons rfl (fun K hK => ?_) AllReadyH.nil
  go_simp
  refine hK.out _ _ hHeld (fun hHeld => ?_)
  clear hK K
  (try simp only [Act.put, List.setIfInBounds_toArray, List.set_cons_zero, List.set_cons_succ])
  refine wpAnyH_ready (rs := [10]) (by kernel_rfl) (by simp) ?_
  refine AllReadyH.cons rfl (fun K hK => ?_) AllReadyH.nil
  go_simp
  refine hK.out _ _ hHeld (fun hHeld => ?_)
  clear hK K
  (try simp only [Act.put, List.setIfInBounds_toArray, List.set_cons_zero, List.set_cons_succ])
  refine wpAnyH_done (by kernel_rfl) ?_ _
  have c0 := K0_0 _ hHeld
  have c1 := K0_1 _ hHeld
  clear K0_0 K0_1 K2_0 K2_1 K4_0 K4_1 K5_0 K5_1
  have y1 : decide ((lo : Int) ≤ (hi : Int)) = true := by simp; exact hlh
  have y2 : decide (lo ≤ hi) = true := by simp; exact hlh
  by_cases hlo : u < lo
  · have z0 : decide ((u : Int) < (lo : Int)) = true := by simp; omega
    have z1 : decide (u < lo) = true := by simp; omega
    clear hlo hlh hout
    go_wp2_with (first | (go_at_call 24; (with_reducible refine (awake_any _).mono ?_); rintro e w99 ⟨rfl, h99⟩; have S99 := Lib.hid (KS.below (w := w) (bs := BS) hHeld h99); clear h99))
    go_ret
    exact ⟨rfl, S99.out.bel⟩
  · have hhi : hi < u := by omega
    have z0 : decide ((u : Int) < (lo : Int)) = false := by simp; omega
    have z1 : decide (u < lo) = false := by simp; omega
    have z2 : decide ((hi : Int) < (u : Int)) = true := by simp; omega
    have z3 : decide (hi < u) = true := by simp; omega
    clear hlo hlh hout hhi
    go_wp2_with (first | (go_at_call 24; (with_reducible refine (awake_any _).mono ?_); rintro e w99 ⟨rfl, h99⟩; have S99 := Lib.hid (KS.below (w := w) (bs := BS) hHeld h99); clear h99))
    go_ret
    exact ⟨rfl, S99.out.bel⟩
set_option maxRecDepth 100000 in
set_option maxHeartbeats 16000000 in
theorem MissRises_some_f (l M s f n d u : Nat) (b : Int) (w : World) (h : okA l M s f) (hl : levB n d = true) (hM : 0 < M) (hb : 0 ≤ b ∧ b ≤ 255) (e1 : b % (M : Int) = u) (hu : u + 1 ≤ M) (hT1 : lower (Mis.low l u s f) (tot l u s) n d = false) (hT2 : lower (Mis.up l u s f) (tot l u s) n d = true) (lo hi : Nat) (hr : rangeOf l M s f n d = some (lo, hi)) (hlh : lo ≤ hi) (hout : u < lo ∨ hi < u) : Calls Try.prog 10 #[areaV l M s f, .int .u8 b, fracV n d] w fun e w' => e = .returned (.bool true) ∧ Below w.heap.size w w' := by
  have C42 := Lib.hid (fun w => rIsArea_any l M s f w)
  rw [h.b] at C42
  have C33 := Lib.hid (fun w => rIsLevel_any n d w)
  rw [hl] at C33
  obtain ⟨hb1, hb2⟩ := hb
  obtain ⟨g1, g2, g3⟩ := lev_of hl
  have g0 : (0 : Int) < (M : Int) := by omega
  have t0 : ((M : Int) == 0) = false := by simp; omega
  have t00 : (M == 0) = false := by simp; omega
  have hM50 : M ≤ 50 := by obtain ⟨h1, _, _⟩ := h; omega
  have hu1 : u ≤ M := by omega
  have C21 := Lib.hid (fun w => Most_ok h hu1 w)
  have D21 := Lib.hid (show ∀ w, Calls Try.prog 21 #[areaV l M s f, .int .i64 ((u : Int) + 1), .bool true] w (ChPost (Mis.low l (u + 1) s f) (tot l (u + 1) s) w) from fun w => Most_ok h hu w)
  have E21 := Lib.hid (fun w => Least_ok h hu1 w)
  have F21 := Lib.hid (show ∀ w, Calls Try.prog 21 #[areaV l M s f, .int .i64 ((u : Int) + 1), .bool false] w (ChPost (Mis.up l (u + 1) s f) (tot l (u + 1) s) w) from fun w => Least_ok h hu w)
  have x1 : lower (Mis.low l (u + 1) s f) (tot l (u + 1) s) (Mis.low l u s f) (tot l u s) = false := by rw [Mis.lower_no]; exact Mis.low_rises l u s f h.2.2
  have x2 : lower (Mis.up l u s f) (tot l u s) (Mis.up l (u + 1) s f) (tot l (u + 1) s) = false := by rw [Mis.lower_no]; exact Mis.up_falls l u s f h.2.2
  have C45 := Lib.hid (fun w => lower45_two (N := Mis.low l (u + 1) s f) (D := tot l (u + 1) s) (P := Mis.low l u s f) (Q := tot l u s) w (h.pos _) (h.low hu) (h.big hu) (h.pos _) (h.low hu1) (h.big hu1))
  have D45 := Lib.hid (fun w => lower45_two (N := Mis.up l u s f) (D := tot l u s) (P := Mis.up l (u + 1) s f) (Q := tot l (u + 1) s) w (h.pos _) (h.up hu1) (h.big hu1) (h.pos _) (h.up hu) (h.big hu))
  have E45 := Lib.hid (fun w => lower45_level (N := Mis.low l u s f) (D := tot l u s) (n := n) (d := d) w (h.pos _) (h.low hu1) (h.big hu1) g1 g2 g3)
  have F45 := Lib.hid (fun w => lower45_level (N := Mis.up l u s f) (D := tot l u s) (n := n) (d := d) w (h.pos _) (h.up hu1) (h.big hu1) g1 g2 g3)
  rw [x1] at C45
  rw [x2] at D45
  rw [hT1] at E45
  rw [hT2] at F45
  have C36 := Lib.hid (show ∀ w, Calls Try.prog 36 #[areaV l M s f, fracV n d] w fun e w' => e = .returned (.tuple #[rangeV lo hi, .int .i64 0]) ∧ Below w.heap.size w w' from fun w => by have h1 := Missed_ok h hl w; unfold MissedPost at h1; rw [hr] at h1; exact h1)
  clear hr
  unfold ChPost at C21 D21 E21 F21
  unfold lowV at C21 D21 E21 F21 C45 D45 E45 F45
  clear x1 x2 hT1 hT2 h hl g1
  generalize Mis.low l u s f / Nat.gcd (Mis.low l u s f) (tot l u s) = p1 at *
  generalize tot l u s / Nat.gcd (Mis.low l u s f) (tot l u s) = q1 at *
  generalize Mis.low l (u + 1) s f / Nat.gcd (Mis.low l (u + 1) s f) (tot l (u + 1) s) = p2 at *
  generalize tot l (u + 1) s / Nat.gcd (Mis.low l (u + 1) s f) (tot l (u + 1) s) = q2 at *
  generalize Mis.up l u s f / Nat.gcd (Mis.up l u s f) (tot l u s) = p3 at *
  generalize tot l u s / Nat.gcd (Mis.up l u s f) (tot l u s) = q3 at *
  generalize Mis.up l (u + 1) s f / Nat.gcd (Mis.up l (u + 1) s f) (tot l (u + 1) s) = p4 at *
  generalize tot l (u + 1) s / Nat.gcd (Mis.up l (u + 1) s f) (tot l (u + 1) s) = q4 at *
  have s0 := ((KS.start w).new #[.int .i64 l, .int .i64 M, .int .i64 s, .int .i64 f] 23).new #[.int .i64 n, .int .i64 d] 36
  rw [World.size_alloc] at s0
  obtain ⟨kb1_0, kb1_1, _⟩ := (s0.blkAt 0 rfl).c2
  obtain ⟨kb0_0, kb0_1, kb0_2, kb0_3⟩ := (s0.blkAt 1 rfl).c4
  have S0 := Lib.hid s0
  clear s0
  go_enter Try.func10, Try.ntmps10
  go_wp2_with fail
  refine (C42.out _).mono ?_
  rintro e w1 ⟨rfl, h1⟩
  clear kb1_0 kb1_1 kb0_0 kb0_1 kb0_2 kb0_3
  have s1 := S0.out.below h1
  obtain ⟨kb1_0, kb1_1, _⟩ := (s1.blkAt 0 rfl).c2
  obtain ⟨kb0_0, kb0_1, kb0_2, kb0_3⟩ := (s1.blkAt 1 rfl).c4
  have S1 := Lib.hid s1
  clear h1 s1
  go_wp2_with fail
  refine (C33.out _).mono ?_
  rintro e w2 ⟨rfl, h2⟩
  clear kb1_0 kb1_1 kb0_0 kb0_1 kb0_2 kb0_3
  have s2 := S1.out.below h2
  obtain ⟨kb1_0, kb1_1, _⟩ := (s2.blkAt 0 rfl).c2
  obtain ⟨kb0_0, kb0_1, kb0_2, kb0_3⟩ := (s2.blkAt 1 rfl).c4
  have S2 := Lib.hid s2
  clear h2 s2
  go_wp2_with fail
  refine (Area_any _ _ _ _ _).mono ?_
  rintro e w3 ⟨rfl, h3⟩
  clear kb1_0 kb1_1 kb0_0 kb0_1 kb0_2 kb0_3
  have s3 := S2.out.below h3
  obtain ⟨kb1_0, kb1_1, _⟩ := (s3.blkAt 0 rfl).c2
  obtain ⟨kb0_0, kb0_1, kb0_2, kb0_3⟩ := (s3.blkAt 1 rfl).c4
  have S3 := Lib.hid s3
  clear h3 s3
  go_wp2_with fail
  refine (C21.out _).mono ?_
  rintro e w4 ⟨rfl, h4⟩
  clear kb1_0 kb1_1 kb0_0 kb0_1 kb0_2 kb0_3
  have s4 := (S3.out.below h4).new #[.int .i64 p1, .int .i64 q1] 25
  obtain ⟨kb2_0, kb2_1, _⟩ := (s4.blkAt 0 rfl).c2
  obtain ⟨kb1_0, kb1_1, _⟩ := (s4.blkAt 1 rfl).c2
  obtain ⟨kb0_0, kb0_1, kb0_2, kb0_3⟩ := (s4.blkAt 2 rfl).c4
  have S4 := Lib.hid s4
  clear h4 s4
  go_wp2_with fail
  refine (Area_any _ _ _ _ _).mono ?_
  rintro e w5 ⟨rfl, h5⟩
  clear kb2_0 kb2_1 kb1_0 kb1_1 kb0_0 kb0_1 kb0_2 kb0_3
  have s5 := S4.out.below h5
  obtain ⟨kb2_0, kb2_1, _⟩ := (s5.blkAt 0 rfl).c2
  obtain ⟨kb1_0, kb1_1, _⟩ := (s5.blkAt 1 rfl).c2
  obtain ⟨kb0_0, kb0_1, kb0_2, kb0_3⟩ := (s5.blkAt 2 rfl).c4
  have S5 := Lib.hid s5
  clear h5 s5
  go_wp2_with fail
  refine (D21.out _).mono ?_
  rintro e w6 ⟨rfl, h6⟩
  clear kb2_0 kb2_1 kb1_0 kb1_1 kb0_0 kb0_1 kb0_2 kb0_3
  have s6 := (S5.out.below h6).new #[.int .i64 p2, .int .i64 q2] 25
  obtain ⟨kb3_0, kb3_1, _⟩ := (s6.blkAt 0 rfl).c2
  obtain ⟨kb2_0, kb2_1, _⟩ := (s6.blkAt 1 rfl).c2
  obtain ⟨kb1_0, kb1_1, _⟩ := (s6.blkAt 2 rfl).c2
  obtain ⟨kb0_0, kb0_1, kb0_2, kb0_3⟩ := (s6.blkAt 3 rfl).c4
  have S6 := Lib.hid s6
  clear h6 s6
  go_wp2_with fail
  refine (Area_any _ _ _ _ _).mono ?_
  rintro e w7 ⟨rfl, h7⟩
  clear kb3_0 kb3_1 kb2_0 kb2_1 kb1_0 kb1_1 kb0_0 kb0_1 kb0_2 kb0_3
  have s7 := S6.out.below h7
  obtain ⟨kb3_0, kb3_1, _⟩ := (s7.blkAt 0 rfl).c2
  obtain ⟨kb2_0, kb2_1, _⟩ := (s7.blkAt 1 rfl).c2
  obtain ⟨kb1_0, kb1_1, _⟩ := (s7.blkAt 2 rfl).c2
  obtain ⟨kb0_0, kb0_1, kb0_2, kb0_3⟩ := (s7.blkAt 3 rfl).c4
  have S7 := Lib.hid s7
  clear h7 s7
  go_wp2_with fail
  refine (E21.out _).mono ?_
  rintro e w8 ⟨rfl, h8⟩
  clear kb3_0 kb3_1 kb2_0 kb2_1 kb1_0 kb1_1 kb0_0 kb0_1 kb0_2 kb0_3
  have s8 := (S7.out.below h8).new #[.int .i64 p3, .int .i64 q3] 25
  obtain ⟨kb4_0, kb4_1, _⟩ := (s8.blkAt 0 rfl).c2
  obtain ⟨kb3_0, kb3_1, _⟩ := (s8.blkAt 1 rfl).c2
  obtain ⟨kb2_0, kb2_1, _⟩ := (s8.blkAt 2 rfl).c2
  obtain ⟨kb1_0, kb1_1, _⟩ := (s8.blkAt 3 rfl).c2
  obtain ⟨kb0_0, kb0_1, kb0_2, kb0_3⟩ := (s8.blkAt 4 rfl).c4
  have S8 := Lib.hid s8
  clear h8 s8
  go_wp2_with fail
  refine (Area_any _ _ _ _ _).mono ?_
  rintro e w9 ⟨rfl, h9⟩
  clear kb4_0 kb4_1 kb3_0 kb3_1 kb2_0 kb2_1 kb1_0 kb1_1 kb0_0 kb0_1 kb0_2 kb0_3
  have s9 := S8.out.below h9
  obtain ⟨kb4_0, kb4_1, _⟩ := (s9.blkAt 0 rfl).c2
  obtain ⟨kb3_0, kb3_1, _⟩ := (s9.blkAt 1 rfl).c2
  obtain ⟨kb2_0, kb2_1, _⟩ := (s9.blkAt 2 rfl).c2
  obtain ⟨kb1_0, kb1_1, _⟩ := (s9.blkAt 3 rfl).c2
  obtain ⟨kb0_0, kb0_1, kb0_2, kb0_3⟩ := (s9.blkAt 4 rfl).c4
  have S9 := Lib.hid s9
  clear h9 s9
  go_wp2_with fail
  refine (F21.out _).mono ?_
  rintro e w10 ⟨rfl, h10⟩
  clear kb4_0 kb4_1 kb3_0 kb3_1 kb2_0 kb2_1 kb1_0 kb1_1 kb0_0 kb0_1 kb0_2 kb0_3
  have s10 := (S9.out.below h10).new #[.int .i64 p4, .int .i64 q4] 25
  obtain ⟨kb5_0, kb5_1, _⟩ := (s10.blkAt 0 rfl).c2
  obtain ⟨kb4_0, kb4_1, _⟩ := (s10.blkAt 1 rfl).c2
  obtain ⟨kb3_0, kb3_1, _⟩ := (s10.blkAt 2 rfl).c2
  obtain ⟨kb2_0, kb2_1, _⟩ := (s10.blkAt 3 rfl).c2
  obtain ⟨kb1_0, kb1_1, _⟩ := (s10.blkAt 4 rfl).c2
  obtain ⟨kb0_0, kb0_1, kb0_2, kb0_3⟩ := (s10.blkAt 5 rfl).c4
  have S10 := Lib.hid s10
  clear h10 s10
  go_wp2_with fail
  refine (C45.out _).mono ?_
  rintro e w11 ⟨rfl, h11⟩
  clear kb5_0 kb5_1 kb4_0 kb4_1 kb3_0 kb3_1 kb2_0 kb2_1 kb1_0 kb1_1 kb0_0 kb0_1 kb0_2 kb0_3
  have s11 := S10.out.below h11
  obtain ⟨kb5_0, kb5_1, _⟩ := (s11.blkAt 0 rfl).c2
  obtain ⟨kb4_0, kb4_1, _⟩ := (s11.blkAt 1 rfl).c2
  obtain ⟨kb3_0, kb3_1, _⟩ := (s11.blkAt 2 rfl).c2
  obtain ⟨kb2_0, kb2_1, _⟩ := (s11.blkAt 3 rfl).c2
  obtain ⟨kb1_0, kb1_1, _⟩ := (s11.blkAt 4 rfl).c2
  obtain ⟨kb0_0, kb0_1, kb0_2, kb0_3⟩ := (s11.blkAt 5 rfl).c4
  have S11 := Lib.hid s11
  clear h11 s11
  go_wp2_with fail
  refine (D45.out _).mono ?_
  rintro e w12 ⟨rfl, h12⟩
  clear kb5_0 kb5_1 kb4_0 kb4_1 kb3_0 kb3_1 kb2_0 kb2_1 kb1_0 kb1_1 kb0_0 kb0_1 kb0_2 kb0_3
  have s12 := S11.out.below h12
  obtain ⟨kb5_0, kb5_1, _⟩ := (s12.blkAt 0 rfl).c2
  obtain ⟨kb4_0, kb4_1, _⟩ := (s12.blkAt 1 rfl).c2
  obtain ⟨kb3_0, kb3_1, _⟩ := (s12.blkAt 2 rfl).c2
  obtain ⟨kb2_0, kb2_1, _⟩ := (s12.blkAt 3 rfl).c2
  obtain ⟨kb1_0, kb1_1, _⟩ := (s12.blkAt 4 rfl).c2
  obtain ⟨kb0_0, kb0_1, kb0_2, kb0_3⟩ := (s12.blkAt 5 rfl).c4
  have S12 := Lib.hid s12
  clear h12 s12
  go_wp2_with fail
  obtain ⟨BS, hBS⟩ : ∃ BS : List (Nat × Array Value × TypeId), BS = [(w10.heap.size, #[.int .i64 p4, .int .i64 q4], 25), (w8.heap.size, #[.int .i64 p3, .int .i64 q3], 25), (w6.heap.size, #[.int .i64 p2, .int .i64 q2], 25), (w4.heap.size, #[.int .i64 p1, .int .i64 q1], 25), (w.heap.size + 1, #[.int .i64 n, .int .i64 d], 36), (w.heap.size, #[.int .i64 l, .int .i64 M, .int .i64 s, .int .i64 f], 23)] := ⟨_, rfl⟩
  have hS : KS w BS w12 := by rw [hBS]; exact S12.out
  have K4_0 : ∀ W, KS w BS W → W.cell? ⟨w.heap.size + 1, 0, none⟩ = some (.int .i64 n) := fun W h => by rw [hBS] at h; exact (h.blkAt 4 rfl).cell 0
  have K4_1 : ∀ W, KS w BS W → W.cell? ⟨w.heap.size + 1, 1, none⟩ = some (.int .i64 d) := fun W h => by rw [hBS] at h; exact (h.blkAt 4 rfl).cell 1
  have K5_0 : ∀ W, KS w BS W → W.cell? ⟨w.heap.size, 0, none⟩ = some (.int .i64 l) := fun W h => by rw [hBS] at h; exact (h.blkAt 5 rfl).cell 0
  have K5_1 : ∀ W, KS w BS W → W.cell? ⟨w.heap.size, 1, none⟩ = some (.int .i64 M) := fun W h => by rw [hBS] at h; exact (h.blkAt 5 rfl).cell 1
  have K5_2 : ∀ W, KS w BS W → W.cell? ⟨w.heap.size, 2, none⟩ = some (.int .i64 s) := fun W h => by rw [hBS] at h; exact (h.blkAt 5 rfl).cell 2
  have K5_3 : ∀ W, KS w BS W → W.cell? ⟨w.heap.size, 3, none⟩ = some (.int .i64 f) := fun W h => by rw [hBS] at h; exact (h.blkAt 5 rfl).cell 3
  have KZ0 : ∀ W b, KZ w BS b #[.int .i64 0, .int .i64 0] 48 W → W.cell? ⟨b, 0, none⟩ = some (.int .i64 0) := fun W b h => h.c0
  have KZ1 : ∀ W b, KZ w BS b #[.int .i64 0, .int .i64 0] 48 W → W.cell? ⟨b, 1, none⟩ = some (.int .i64 0) := fun W b h => h.c1
  have KF0 : ∀ W b, KZ w BS b #[.int .i64 0, .int .i64 0] 48 W → W.frozen? ⟨b, 0, none⟩ = false := fun W b h => h.f 0
  have KF1 : ∀ W b, KZ w BS b #[.int .i64 0, .int .i64 0] 48 W → W.frozen? ⟨b, 1, none⟩ = false := fun W b h => h.f 1
  have HBS := Lib.hid hBS
  clear hBS kb5_0 kb5_1 kb4_0 kb4_1 kb3_0 kb3_1 kb2_0 kb2_1 kb1_0 kb1_1 kb0_0 kb0_1 kb0_2 kb0_3
  refine wp_join (f := fun a b => ((((((((((a.put (some 93) (.agg #[.int .i64 l, .int .i64 M, .int .i64 s, .int .i64 f])).put (some 94) (.agg #[.int .i64 l, .int .i64 M, .int .i64 s, .int .i64 f])).put (some 95) (.agg #[.int .i64 n, .int .i64 d])).put (some 96) (.agg #[.int .i64 n, .int .i64 d])).put (some 97) (.tuple #[.agg #[.int .i64 lo, .int .i64 hi], .int .i64 0])).put (some 92) (.tuple #[.agg #[.int .i64 lo, .int .i64 hi], .int .i64 0])).put (some 98) (.agg #[.int .i64 lo, .int .i64 hi])).put (some 99) (.int .i64 0)).put (some 17) (.int .i64 0)).put (some 16) (.pointer (some ⟨b, 0, none⟩)))) (mid := fun b W' => KS w ((b, #[.int .i64 lo, .int .i64 hi], 48) :: BS) W') ?_ ?_
  · go_region_held3 (KS w BS)
      (first | assumption | exact KS.drew (by assumption) | exact KS.alloc (by assumption) _ | exact KS.drew (KS.alloc (by assumption) _) | exact KS.alloc (KS.drew (by assumption)) _ | exact KZ.ks (by assumption) | exact (KZ.new (by assumption) _ _).ks | exact KZ.keep2 (by assumption) | exact (KZ.keep2 (by assumption)).drew | exact (KZ.drew (by assumption)).keep2 | go_keep)
      (first | (go_at_call 20; (with_reducible refine (Area_any _ _ _ _ _).mono ?_); rintro e wn ⟨rfl, hb⟩; have hSn := KS.below (w := w) (bs := BS) (by first | assumption | exact KS.drew (by assumption)) hb; (first | (have hZ := KZ.below (w := w) (bs := BS) (cs := #[.int .i64 0, .int .i64 0]) (t := 48) (by assumption) hb) | (have hZ := KZ.below (w := w) (bs := BS) (KZ.new (by assumption) #[.int .i64 0, .int .i64 0] 48) hb) | (have hZ := KZ.below (w := w) (bs := BS) (KZ.newD (by assumption) #[.int .i64 0, .int .i64 0] 48) hb) | skip); clear hb) | (go_at_call 25; (with_reducible refine (part_any _ _ _).mono ?_); rintro e wn ⟨rfl, hb⟩; have hSn := KS.below (w := w) (bs := BS) (by first | assumption | exact KS.drew (by assumption)) hb; (first | (have hZ := KZ.below (w := w) (bs := BS) (cs := #[.int .i64 0, .int .i64 0]) (t := 48) (by assumption) hb) | (have hZ := KZ.below (w := w) (bs := BS) (KZ.new (by assumption) #[.int .i64 0, .int .i64 0] 48) hb) | (have hZ := KZ.below (w := w) (bs := BS) (KZ.newD (by assumption) #[.int .i64 0, .int .i64 0] 48) hb) | skip); clear hb) | (go_at_call 36; (with_reducible refine (C36.out _).mono ?_); rintro e wn ⟨rfl, hb⟩; have hSn := KS.below (w := w) (bs := BS) (by first | assumption | exact KS.drew (by assumption)) hb; (first | (have hZ := KZ.below (w := w) (bs := BS) (cs := #[.int .i64 0, .int .i64 0]) (t := 48) (by assumption) hb) | (have hZ := KZ.below (w := w) (bs := BS) (KZ.new (by assumption) #[.int .i64 0, .int .i64 0] 48) hb) | (have hZ := KZ.below (w := w) (bs := BS) (KZ.newD (by assumption) #[.int .i64 0, .int .i64 0] 48) hb) | skip); clear hb))
    all_goals first | exact ⟨rfl, _, rfl, KS.new (by assumption) _ _⟩ | exact ⟨rfl, _, rfl, KZ.set2 (by assumption)⟩ | exact ⟨rfl, _, rfl, KZ.set2D (by assumption)⟩ | exact ⟨rfl, _, rfl, (KZ.set2 (by assumption)).drew⟩
  intro nb13 w13 hM
  simp only [Act.put, List.setIfInBounds_toArray, List.set_cons_zero, List.set_cons_succ]
  have s13 : KS w [(nb13, #[.int .i64 lo, .int .i64 hi], 48), (w10.heap.size, #[.int .i64 p4, .int .i64 q4], 25), (w8.heap.size, #[.int .i64 p3, .int .i64 q3], 25), (w6.heap.size, #[.int .i64 p2, .int .i64 q2], 25), (w4.heap.size, #[.int .i64 p1, .int .i64 q1], 25), (w.heap.size + 1, #[.int .i64 n, .int .i64 d], 36), (w.heap.size, #[.int .i64 l, .int .i64 M, .int .i64 s, .int .i64 f], 23)] w13 := by have h := hM; rw [HBS.out] at h; exact h
  clear hS hM HBS KZ0 KZ1 KF0 KF1 K4_0 K4_1 K5_0 K5_1 K5_2 K5_3
  obtain ⟨kb6_0, kb6_1, _⟩ := (s13.blkAt 0 rfl).c2
  obtain ⟨kb5_0, kb5_1, _⟩ := (s13.blkAt 1 rfl).c2
  obtain ⟨kb4_0, kb4_1, _⟩ := (s13.blkAt 2 rfl).c2
  obtain ⟨kb3_0, kb3_1, _⟩ := (s13.blkAt 3 rfl).c2
  obtain ⟨kb2_0, kb2_1, _⟩ := (s13.blkAt 4 rfl).c2
  obtain ⟨kb1_0, kb1_1, _⟩ := (s13.blkAt 5 rfl).c2
  obtain ⟨kb0_0, kb0_1, kb0_2, kb0_3⟩ := (s13.blkAt 6 rfl).c4
  have S13 := Lib.hid s13
  clear s13
  go_wp2_with fail
  obtain ⟨BS, hBS⟩ : ∃ BS : List (Nat × Array Value × TypeId), BS = [(nb13, #[.int .i64 lo, .int .i64 hi], 48), (w10.heap.size, #[.int .i64 p4, .int .i64 q4], 25), (w8.heap.size, #[.int .i64 p3, .int .i64 q3], 25), (w6.heap.size, #[.int .i64 p2, .int .i64 q2], 25), (w4.heap.size, #[.int .i64 p1, .int .i64 q1], 25), (w.heap.size + 1, #[.int .i64 n, .int .i64 d], 36), (w.heap.size, #[.int .i64 l, .int .i64 M, .int .i64 s, .int .i64 f], 23)] := ⟨_, rfl⟩
  have hS : KS w BS w13 := by rw [hBS]; exact S13.out
  have K0_0 : ∀ W, KS w BS W → W.cell? ⟨nb13, 0, none⟩ = some (.int .i64 lo) := fun W h => by rw [hBS] at h; exact (h.blkAt 0 rfl).cell 0
  have K0_1 : ∀ W, KS w BS W → W.cell? ⟨nb13, 1, none⟩ = some (.int .i64 hi) := fun W h => by rw [hBS] at h; exact (h.blkAt 0 rfl).cell 1
  have K2_0 : ∀ W, KS w BS W → W.cell? ⟨w8.heap.size, 0, none⟩ = some (.int .i64 p3) := fun W h => by rw [hBS] at h; exact (h.blkAt 2 rfl).cell 0
  have K2_1 : ∀ W, KS w BS W → W.cell? ⟨w8.heap.size, 1, none⟩ = some (.int .i64 q3) := fun W h => by rw [hBS] at h; exact (h.blkAt 2 rfl).cell 1
  have K4_0 : ∀ W, KS w BS W → W.cell? ⟨w4.heap.size, 0, none⟩ = some (.int .i64 p1) := fun W h => by rw [hBS] at h; exact (h.blkAt 4 rfl).cell 0
  have K4_1 : ∀ W, KS w BS W → W.cell? ⟨w4.heap.size, 1, none⟩ = some (.int .i64 q1) := fun W h => by rw [hBS] at h; exact (h.blkAt 4 rfl).cell 1
  have K5_0 : ∀ W, KS w BS W → W.cell? ⟨w.heap.size + 1, 0, none⟩ = some (.int .i64 n) := fun W h => by rw [hBS] at h; exact (h.blkAt 5 rfl).cell 0
  have K5_1 : ∀ W, KS w BS W → W.cell? ⟨w.heap.size + 1, 1, none⟩ = some (.int .i64 d) := fun W h => by rw [hBS] at h; exact (h.blkAt 5 rfl).cell 1
  have HBS := Lib.hid hBS
  clear hBS kb6_0 kb6_1 kb5_0 kb5_1 kb4_0 kb4_1 kb3_0 kb3_1 kb2_0 kb2_1 kb1_0 kb1_1 kb0_0 kb0_1 kb0_2 kb0_3
  go_region_held3 (KS w BS)
    (first | assumption | exact KS.drew (by assumption) | exact KS.alloc (by assumption) _ | exact KS.drew (KS.alloc (by assumption) _) | exact KS.alloc (KS.drew (by assumption)) _ | go_keep)
    (first | (go_at_call 25; (with_reducible refine (part_any _ _ _).mono ?_); rintro e wn ⟨rfl, hb⟩; have hSn := KS.below (by first | assumption | exact KS.drew (by assumption)) hb; clear hb) | (go_at_call 45; (with_reducible refine (E45.out _).mono ?_); rintro e wn ⟨rfl, hb⟩; have hSn := KS.below (by first | assumption | exact KS.drew (by assumption)) hb; clear hb) | (go_at_call 45; (with_reducible refine (F45.out _).mono ?_); rintro e wn ⟨rfl, hb⟩; have hSn := KS.below (by first | assumption | exact KS.drew (by assumption)) hb; clear hb))
  all_goals
    have c0 := K0_0 _ (by first | assumption | exact KS.drew (by assumption))
    have c1 := K0_1 _ (by first | assumption | exact KS.drew (by assumption))
    clear K0_0 K0_1 K2_0 K2_1 K4_0 K4_1 K5_0 K5_1
    have y1 : decide ((lo : Int) ≤ (hi : Int)) = true := by simp; exact hlh
    have y2 : decide (lo ≤ hi) = true := by simp; exact hlh
    by_cases hlo : u < lo
    · have z0 : decide ((u : Int) < (lo : Int)) = true := by simp; omega
      have z1 : decide (u < lo) = true := by simp; omega
      clear hlo hlh hout
      go_wp2_with (first | (go_at_call 24; (with_reducible refine (awake_any _).mono ?_); rintro e w99 ⟨rfl, h99⟩; have S99 := Lib.hid (KS.below (w := w) (bs := BS) (by first | assumption | exact KS.drew (by assumption)) h99); clear h99))
      go_ret
      exact ⟨rfl, S99.out.bel⟩
    · have hhi : hi < u := by omega
      have z0 : decide ((u : Int) < (lo : Int)) = false := by simp; omega
      have z1 : decide (u < lo) = false := by simp; omega
      have z2 : decide ((hi : Int) < (u : Int)) = true := by simp; omega
      have z3 : decide (hi < u) = true := by simp; omega
      clear hlo hlh hout hhi
      go_wp2_with (first | (go_at_call 24; (with_reducible refine (awake_any _).mono ?_); rintro e w99 ⟨rfl, h99⟩; have S99 := Lib.hid (KS.below (w := w) (bs := BS) (by first | assumption | exact KS.drew (by assumption)) h99); clear h99))
      go_ret
      exact ⟨rfl, S99.out.bel⟩
end Go.Proofs.Ytkfobnhnehbkeaa
