/- The walk of the statement on the smallest sample. -/
import Derived.Test.YtkfobnhnehbkeaaSuff
import Derived.Test.YtkfobnhnehbkeaaLev1
namespace Go.Proofs.Ytkfobnhnehbkeaa
open Go.RowKit Go.Shelf
open Mis (ch sets tot sm low up lower excl rng)

theorem enoughB_mono {l u s x n d : Nat} (h : x ≤ n) (he : enoughB l u s n d = true) : enoughB l u s x d = true := by
  unfold enoughB at *
  cases h1 : lower (tot l u s - sets l u s s) (tot l u s) x d with
  | false => rfl
  | true => rw [lower_mono h h1] at he; cases he
theorem sufB_get {l M u n d s : Nat} (h : sufB l M u n d s = true) : ∀ x, u ≤ x → x ≤ M → enoughB l x s n d = true := by
  intro x h1 h2
  unfold sufB at h
  rw [List.all_eq_true] at h
  have h3 := h x (List.mem_range.2 (by omega))
  have h4 : decide (x < u) = false := by simp; omega
  rw [h4] at h3
  simpa using h3
theorem sufB_mono {l M u v x n d s : Nat} (h : x ≤ n) (hv : u ≤ v) (he : sufB l M u n d s = true) : sufB l M v x d s = true :=
  sufB_from fun y h1 h2 => enoughB_mono h (sufB_get he y (by omega) h2)
/-- the least sample, and the code -/
def enV : Option Nat → Nat | none => 0 | some s => s
def enC : Option Nat → Nat | none => 9 | some _ => 0
theorem Enough_nat (l M u n d : Nat) (w : World) (hl : l + M ≤ 50) (hu : u ≤ M) (hv : levB n d = true) :
    Calls Try.prog 37 #[.int .i64 l, .int .i64 M, .int .i64 u, fracV n d] w fun e w' => e = .returned (.tuple #[.int .i64 (enV (Mis.first (sufB l M u n d) 0 (l + 1)) : Nat), .int .i64 (enC (Mis.first (sufB l M u n d) 0 (l + 1)) : Nat)]) ∧ Below w.heap.size w w' := by
  obtain ⟨g1, g2, g3⟩ := lev_of hv
  refine (Enough_ok l M u n d w hl hu g1 g2 g3).mono ?_
  rintro e w' ⟨⟨v, r, rfl, h⟩, hb⟩
  cases hf : Mis.first (sufB l M u n d) 0 (l + 1) with
  | none => rw [hf] at h; obtain ⟨rfl, rfl⟩ := h; exact ⟨rfl, hb⟩
  | some s => rw [hf] at h; obtain ⟨rfl, rfl⟩ := h; exact ⟨rfl, hb⟩

set_option maxRecDepth 100000 in
set_option maxHeartbeats 4000000 in
theorem MissSmallest_no0 (a b c m k : Int) (l M u q u2 n d x : Nat) (w : World) (ha : 0 ≤ a ∧ a ≤ 255) (hb : 0 ≤ b ∧ b ≤ 255) (hc : 0 ≤ c ∧ c ≤ 255) (hm : 0 ≤ m ∧ m ≤ 255) (hk : 0 ≤ k ∧ k ≤ 255) (e1 : a % 51 = l) (e2 : b % (51 - (l : Int)) = M) (e3 : c % ((M : Int) + 1) = u) (e4 : m % 9 = q) (e5 : min (M : Int) ((u : Int) + (q : Int)) = u2) (e6 : max (0 : Int) ((n : Int) - k) = x) (hl : l + M ≤ 50) (hu : u ≤ M) (hu2 : u2 ≤ M) (_hq : q ≤ 8) (hv : levB n d = true) (hvx : levB x d = true) (hf1 : Mis.first (sufB l M u n d) 0 (l + 1) = none) (v2 : Nat) (hf2 : Mis.first (sufB l M u2 x d) 0 (l + 1) = some v2) : Calls Try.prog 12 #[.int .u8 a, .int .u8 b, .int .u8 c, fracV n d, .int .u8 m, .int .u8 k] w fun e w' => e = .returned (.bool true) ∧ Below w.heap.size w w' := by
  obtain ⟨ha1, ha2⟩ := ha
  obtain ⟨hb1, hb2⟩ := hb
  obtain ⟨hc1, hc2⟩ := hc
  obtain ⟨hm1, hm2⟩ := hm
  obtain ⟨hk1, hk2⟩ := hk
  obtain ⟨g1, g2, g3⟩ := lev_of hv
  have C33 := Lib.hid (fun w => rIsLevel_any n d w)
  rw [hv] at C33
  have C37 := Lib.hid (fun w => Enough_nat l M u n d w hl hu hv)
  have D37 := Lib.hid (fun w => Enough_nat l M u2 x d w hl hu2 hvx)
  have C39 := Lib.hid (fun w => rSuff_any l M u l n d w hl (Nat.le_refl _) (by omega) g1 g2 g3)
  rw [(Mis.first_none _ _ _).1 hf1 l (Nat.zero_le _) (by omega)] at C39
  rw [hf1] at C37
  have C37 := Lib.hid (show ∀ w, Calls Try.prog 37 #[.int .i64 l, .int .i64 M, .int .i64 u, fracV n d] w fun e w' => e = .returned (.tuple #[.int .i64 0, .int .i64 9]) ∧ Below w.heap.size w w' from C37.out)
  rw [hf2] at D37
  have D37 := Lib.hid (show ∀ w, Calls Try.prog 37 #[.int .i64 l, .int .i64 M, .int .i64 u2, fracV x d] w fun e w' => e = .returned (.tuple #[.int .i64 v2, .int .i64 0]) ∧ Below w.heap.size w w' from D37.out)
  clear hf1 hf2
  clear hv hvx g1
  have s0 := (KS.start w).new #[.int .i64 n, .int .i64 d] 36
  obtain ⟨kb0_0, kb0_1, _⟩ := (s0.blkAt 0 rfl).c2
  have S0 := Lib.hid s0
  clear s0
  go_enter Try.func12, Try.ntmps12
  go_wp2_with fail
  refine (C33.out _).mono ?_
  rintro e w1 ⟨rfl, h1⟩
  clear kb0_0 kb0_1
  have s1 := S0.out.below h1
  obtain ⟨kb0_0, kb0_1, _⟩ := (s1.blkAt 0 rfl).c2
  have S1 := Lib.hid s1
  clear h1 s1
  go_wp2_with fail
  refine (part_any _ _ _).mono ?_
  rintro e w2 ⟨rfl, h2⟩
  clear kb0_0 kb0_1
  have s2 := S1.out.below h2
  obtain ⟨kb0_0, kb0_1, _⟩ := (s2.blkAt 0 rfl).c2
  have S2 := Lib.hid s2
  clear h2 s2
  go_wp2_with fail
  refine (C37.out _).mono ?_
  rintro e w3 ⟨rfl, h3⟩
  clear kb0_0 kb0_1
  have s3 := S2.out.below h3
  obtain ⟨kb0_0, kb0_1, _⟩ := (s3.blkAt 0 rfl).c2
  have S3 := Lib.hid s3
  clear h3 s3
  have lt0 := S3.out.lt 0 rfl
  go_wp2_with fail
  have s4 := S3.out.new #[.int .i64 x, .int .i64 d] 36
  clear kb0_0 kb0_1
  obtain ⟨kb1_0, kb1_1, _⟩ := (s4.blkAt 0 rfl).c2
  obtain ⟨kb0_0, kb0_1, _⟩ := (s4.blkAt 1 rfl).c2
  have S4 := Lib.hid s4
  clear s4
  clear lt0
  refine (part_any _ _ _).mono ?_
  rintro e w5 ⟨rfl, h5⟩
  clear kb1_0 kb1_1 kb0_0 kb0_1
  have s5 := S4.out.below h5
  obtain ⟨kb1_0, kb1_1, _⟩ := (s5.blkAt 0 rfl).c2
  obtain ⟨kb0_0, kb0_1, _⟩ := (s5.blkAt 1 rfl).c2
  have S5 := Lib.hid s5
  clear h5 s5
  go_wp2_with fail
  refine (D37.out _).mono ?_
  rintro e w6 ⟨rfl, h6⟩
  clear kb1_0 kb1_1 kb0_0 kb0_1
  have s6 := S5.out.below h6
  obtain ⟨kb1_0, kb1_1, _⟩ := (s6.blkAt 0 rfl).c2
  obtain ⟨kb0_0, kb0_1, _⟩ := (s6.blkAt 1 rfl).c2
  have S6 := Lib.hid s6
  clear h6 s6
  go_wp2_with (first | (go_at_call 39; (with_reducible refine (C39.out _).mono ?_); rintro e v0 ⟨rfl, h70⟩; have T0 := Lib.hid (S6.out.below h70); obtain ⟨z0, z1, _⟩ := (T0.out.blkAt 1 rfl).c2; clear h70) | (go_at_call 24; (with_reducible refine (awake_any _).mono ?_); rintro e w99 ⟨rfl, h99⟩; have S99 := Lib.hid (T0.out.below h99); clear h99))
  go_ret
  exact ⟨rfl, S99.out.bel⟩
set_option maxRecDepth 100000 in
set_option maxHeartbeats 4000000 in
theorem MissSmallest_no9 (a b c m k : Int) (l M u q u2 n d x : Nat) (w : World) (ha : 0 ≤ a ∧ a ≤ 255) (hb : 0 ≤ b ∧ b ≤ 255) (hc : 0 ≤ c ∧ c ≤ 255) (hm : 0 ≤ m ∧ m ≤ 255) (hk : 0 ≤ k ∧ k ≤ 255) (e1 : a % 51 = l) (e2 : b % (51 - (l : Int)) = M) (e3 : c % ((M : Int) + 1) = u) (e4 : m % 9 = q) (e5 : min (M : Int) ((u : Int) + (q : Int)) = u2) (e6 : max (0 : Int) ((n : Int) - k) = x) (hl : l + M ≤ 50) (hu : u ≤ M) (hu2 : u2 ≤ M) (_hq : q ≤ 8) (hv : levB n d = true) (hvx : levB x d = true) (hf1 : Mis.first (sufB l M u n d) 0 (l + 1) = none) (hf2 : Mis.first (sufB l M u2 x d) 0 (l + 1) = none) : Calls Try.prog 12 #[.int .u8 a, .int .u8 b, .int .u8 c, fracV n d, .int .u8 m, .int .u8 k] w fun e w' => e = .returned (.bool true) ∧ Below w.heap.size w w' := by
  obtain ⟨ha1, ha2⟩ := ha
  obtain ⟨hb1, hb2⟩ := hb
  obtain ⟨hc1, hc2⟩ := hc
  obtain ⟨hm1, hm2⟩ := hm
  obtain ⟨hk1, hk2⟩ := hk
  obtain ⟨g1, g2, g3⟩ := lev_of hv
  have C33 := Lib.hid (fun w => rIsLevel_any n d w)
  rw [hv] at C33
  have C37 := Lib.hid (fun w => Enough_nat l M u n d w hl hu hv)
  have D37 := Lib.hid (fun w => Enough_nat l M u2 x d w hl hu2 hvx)
  have C39 := Lib.hid (fun w => rSuff_any l M u l n d w hl (Nat.le_refl _) (by omega) g1 g2 g3)
  rw [(Mis.first_none _ _ _).1 hf1 l (Nat.zero_le _) (by omega)] at C39
  rw [hf1] at C37
  have C37 := Lib.hid (show ∀ w, Calls Try.prog 37 #[.int .i64 l, .int .i64 M, .int .i64 u, fracV n d] w fun e w' => e = .returned (.tuple #[.int .i64 0, .int .i64 9]) ∧ Below w.heap.size w w' from C37.out)
  rw [hf2] at D37
  have D37 := Lib.hid (show ∀ w, Calls Try.prog 37 #[.int .i64 l, .int .i64 M, .int .i64 u2, fracV x d] w fun e w' => e = .returned (.tuple #[.int .i64 0, .int .i64 9]) ∧ Below w.heap.size w w' from D37.out)
  clear hf1 hf2
  clear hv hvx g1
  have s0 := (KS.start w).new #[.int .i64 n, .int .i64 d] 36
  obtain ⟨kb0_0, kb0_1, _⟩ := (s0.blkAt 0 rfl).c2
  have S0 := Lib.hid s0
  clear s0
  go_enter Try.func12, Try.ntmps12
  go_wp2_with fail
  refine (C33.out _).mono ?_
  rintro e w1 ⟨rfl, h1⟩
  clear kb0_0 kb0_1
  have s1 := S0.out.below h1
  obtain ⟨kb0_0, kb0_1, _⟩ := (s1.blkAt 0 rfl).c2
  have S1 := Lib.hid s1
  clear h1 s1
  go_wp2_with fail
  refine (part_any _ _ _).mono ?_
  rintro e w2 ⟨rfl, h2⟩
  clear kb0_0 kb0_1
  have s2 := S1.out.below h2
  obtain ⟨kb0_0, kb0_1, _⟩ := (s2.blkAt 0 rfl).c2
  have S2 := Lib.hid s2
  clear h2 s2
  go_wp2_with fail
  refine (C37.out _).mono ?_
  rintro e w3 ⟨rfl, h3⟩
  clear kb0_0 kb0_1
  have s3 := S2.out.below h3
  obtain ⟨kb0_0, kb0_1, _⟩ := (s3.blkAt 0 rfl).c2
  have S3 := Lib.hid s3
  clear h3 s3
  have lt0 := S3.out.lt 0 rfl
  go_wp2_with fail
  have s4 := S3.out.new #[.int .i64 x, .int .i64 d] 36
  clear kb0_0 kb0_1
  obtain ⟨kb1_0, kb1_1, _⟩ := (s4.blkAt 0 rfl).c2
  obtain ⟨kb0_0, kb0_1, _⟩ := (s4.blkAt 1 rfl).c2
  have S4 := Lib.hid s4
  clear s4
  clear lt0
  refine (part_any _ _ _).mono ?_
  rintro e w5 ⟨rfl, h5⟩
  clear kb1_0 kb1_1 kb0_0 kb0_1
  have s5 := S4.out.below h5
  obtain ⟨kb1_0, kb1_1, _⟩ := (s5.blkAt 0 rfl).c2
  obtain ⟨kb0_0, kb0_1, _⟩ := (s5.blkAt 1 rfl).c2
  have S5 := Lib.hid s5
  clear h5 s5
  go_wp2_with fail
  refine (D37.out _).mono ?_
  rintro e w6 ⟨rfl, h6⟩
  clear kb1_0 kb1_1 kb0_0 kb0_1
  have s6 := S5.out.below h6
  obtain ⟨kb1_0, kb1_1, _⟩ := (s6.blkAt 0 rfl).c2
  obtain ⟨kb0_0, kb0_1, _⟩ := (s6.blkAt 1 rfl).c2
  have S6 := Lib.hid s6
  clear h6 s6
  go_wp2_with (first | (go_at_call 39; (with_reducible refine (C39.out _).mono ?_); rintro e v0 ⟨rfl, h70⟩; have T0 := Lib.hid (S6.out.below h70); obtain ⟨z0, z1, _⟩ := (T0.out.blkAt 1 rfl).c2; clear h70) | (go_at_call 24; (with_reducible refine (awake_any _).mono ?_); rintro e w99 ⟨rfl, h99⟩; have S99 := Lib.hid (T0.out.below h99); clear h99))
  go_ret
  exact ⟨rfl, S99.out.bel⟩
set_option maxRecDepth 100000 in
set_option maxHeartbeats 4000000 in
theorem MissSmallest_zero (a b c m k : Int) (l M u q u2 n d x : Nat) (w : World) (ha : 0 ≤ a ∧ a ≤ 255) (hb : 0 ≤ b ∧ b ≤ 255) (hc : 0 ≤ c ∧ c ≤ 255) (hm : 0 ≤ m ∧ m ≤ 255) (hk : 0 ≤ k ∧ k ≤ 255) (e1 : a % 51 = l) (e2 : b % (51 - (l : Int)) = M) (e3 : c % ((M : Int) + 1) = u) (e4 : m % 9 = q) (e5 : min (M : Int) ((u : Int) + (q : Int)) = u2) (e6 : max (0 : Int) ((n : Int) - k) = x) (hl : l + M ≤ 50) (hu : u ≤ M) (hu2 : u2 ≤ M) (_hq : q ≤ 8) (hv : levB n d = true) (hvx : levB x d = true) (v1 v2 : Nat) (hf1 : Mis.first (sufB l M u n d) 0 (l + 1) = some v1) (hf2 : Mis.first (sufB l M u2 x d) 0 (l + 1) = some v2) (h21 : v2 ≤ v1) (h0 : v1 = 0) : Calls Try.prog 12 #[.int .u8 a, .int .u8 b, .int .u8 c, fracV n d, .int .u8 m, .int .u8 k] w fun e w' => e = .returned (.bool true) ∧ Below w.heap.size w w' := by
  obtain ⟨ha1, ha2⟩ := ha
  obtain ⟨hb1, hb2⟩ := hb
  obtain ⟨hc1, hc2⟩ := hc
  obtain ⟨hm1, hm2⟩ := hm
  obtain ⟨hk1, hk2⟩ := hk
  obtain ⟨g1, g2, g3⟩ := lev_of hv
  have C33 := Lib.hid (fun w => rIsLevel_any n d w)
  rw [hv] at C33
  have C37 := Lib.hid (fun w => Enough_nat l M u n d w hl hu hv)
  have D37 := Lib.hid (fun w => Enough_nat l M u2 x d w hl hu2 hvx)
  obtain ⟨_, hv1, hs1, hs2⟩ := (Mis.first_some _ _ _ v1).1 hf1
  have hv1 : v1 ≤ l := by omega
  have t1 : decide ((v2 : Int) ≤ (v1 : Int)) = true := by simp; exact h21
  have t2 : decide (v2 ≤ v1) = true := by simp; exact h21
  have t3 : decide ((v1 : Int) ≤ (l : Int)) = true := by simp; exact hv1
  have t4 : decide (v1 ≤ l) = true := by simp; exact hv1
  have t5 : ((v1 : Int) == 0) = true := by simp; exact h0
  have C39 := Lib.hid (fun w => rSuff_any l M u v1 n d w hl hv1 (by omega) g1 g2 g3)
  rw [hs1] at C39
  rw [hf1] at C37
  have C37 := Lib.hid (show ∀ w, Calls Try.prog 37 #[.int .i64 l, .int .i64 M, .int .i64 u, fracV n d] w fun e w' => e = .returned (.tuple #[.int .i64 v1, .int .i64 0]) ∧ Below w.heap.size w w' from C37.out)
  rw [hf2] at D37
  have D37 := Lib.hid (show ∀ w, Calls Try.prog 37 #[.int .i64 l, .int .i64 M, .int .i64 u2, fracV x d] w fun e w' => e = .returned (.tuple #[.int .i64 v2, .int .i64 0]) ∧ Below w.heap.size w w' from D37.out)
  clear hf1 hf2 hs1 hs2 h0
  clear hv hvx g1
  have s0 := (KS.start w).new #[.int .i64 n, .int .i64 d] 36
  obtain ⟨kb0_0, kb0_1, _⟩ := (s0.blkAt 0 rfl).c2
  have S0 := Lib.hid s0
  clear s0
  go_enter Try.func12, Try.ntmps12
  go_wp2_with fail
  refine (C33.out _).mono ?_
  rintro e w1 ⟨rfl, h1⟩
  clear kb0_0 kb0_1
  have s1 := S0.out.below h1
  obtain ⟨kb0_0, kb0_1, _⟩ := (s1.blkAt 0 rfl).c2
  have S1 := Lib.hid s1
  clear h1 s1
  go_wp2_with fail
  refine (part_any _ _ _).mono ?_
  rintro e w2 ⟨rfl, h2⟩
  clear kb0_0 kb0_1
  have s2 := S1.out.below h2
  obtain ⟨kb0_0, kb0_1, _⟩ := (s2.blkAt 0 rfl).c2
  have S2 := Lib.hid s2
  clear h2 s2
  go_wp2_with fail
  refine (C37.out _).mono ?_
  rintro e w3 ⟨rfl, h3⟩
  clear kb0_0 kb0_1
  have s3 := S2.out.below h3
  obtain ⟨kb0_0, kb0_1, _⟩ := (s3.blkAt 0 rfl).c2
  have S3 := Lib.hid s3
  clear h3 s3
  have lt0 := S3.out.lt 0 rfl
  go_wp2_with fail
  have s4 := S3.out.new #[.int .i64 x, .int .i64 d] 36
  clear kb0_0 kb0_1
  obtain ⟨kb1_0, kb1_1, _⟩ := (s4.blkAt 0 rfl).c2
  obtain ⟨kb0_0, kb0_1, _⟩ := (s4.blkAt 1 rfl).c2
  have S4 := Lib.hid s4
  clear s4
  clear lt0
  refine (part_any _ _ _).mono ?_
  rintro e w5 ⟨rfl, h5⟩
  clear kb1_0 kb1_1 kb0_0 kb0_1
  have s5 := S4.out.below h5
  obtain ⟨kb1_0, kb1_1, _⟩ := (s5.blkAt 0 rfl).c2
  obtain ⟨kb0_0, kb0_1, _⟩ := (s5.blkAt 1 rfl).c2
  have S5 := Lib.hid s5
  clear h5 s5
  go_wp2_with fail
  refine (D37.out _).mono ?_
  rintro e w6 ⟨rfl, h6⟩
  clear kb1_0 kb1_1 kb0_0 kb0_1
  have s6 := S5.out.below h6
  obtain ⟨kb1_0, kb1_1, _⟩ := (s6.blkAt 0 rfl).c2
  obtain ⟨kb0_0, kb0_1, _⟩ := (s6.blkAt 1 rfl).c2
  have S6 := Lib.hid s6
  clear h6 s6
  go_wp2_with (first | (go_at_call 39; (with_reducible refine (C39.out _).mono ?_); rintro e v0 ⟨rfl, h70⟩; have T0 := Lib.hid (S6.out.below h70); obtain ⟨z0, z1, _⟩ := (T0.out.blkAt 1 rfl).c2; clear h70) | (go_at_call 24; (with_reducible refine (awake_any _).mono ?_); rintro e w99 ⟨rfl, h99⟩; have S99 := Lib.hid (T0.out.below h99); clear h99))
  go_ret
  exact ⟨rfl, S99.out.bel⟩
set_option maxRecDepth 100000 in
set_option maxHeartbeats 4000000 in
theorem MissSmallest_some (a b c m k : Int) (l M u q u2 n d x : Nat) (w : World) (ha : 0 ≤ a ∧ a ≤ 255) (hb : 0 ≤ b ∧ b ≤ 255) (hc : 0 ≤ c ∧ c ≤ 255) (hm : 0 ≤ m ∧ m ≤ 255) (hk : 0 ≤ k ∧ k ≤ 255) (e1 : a % 51 = l) (e2 : b % (51 - (l : Int)) = M) (e3 : c % ((M : Int) + 1) = u) (e4 : m % 9 = q) (e5 : min (M : Int) ((u : Int) + (q : Int)) = u2) (e6 : max (0 : Int) ((n : Int) - k) = x) (hl : l + M ≤ 50) (hu : u ≤ M) (hu2 : u2 ≤ M) (_hq : q ≤ 8) (hv : levB n d = true) (hvx : levB x d = true) (v1 v2 : Nat) (hf1 : Mis.first (sufB l M u n d) 0 (l + 1) = some v1) (hf2 : Mis.first (sufB l M u2 x d) 0 (l + 1) = some v2) (h21 : v2 ≤ v1) (h0 : 0 < v1) : Calls Try.prog 12 #[.int .u8 a, .int .u8 b, .int .u8 c, fracV n d, .int .u8 m, .int .u8 k] w fun e w' => e = .returned (.bool true) ∧ Below w.heap.size w w' := by
  obtain ⟨ha1, ha2⟩ := ha
  obtain ⟨hb1, hb2⟩ := hb
  obtain ⟨hc1, hc2⟩ := hc
  obtain ⟨hm1, hm2⟩ := hm
  obtain ⟨hk1, hk2⟩ := hk
  obtain ⟨g1, g2, g3⟩ := lev_of hv
  have C33 := Lib.hid (fun w => rIsLevel_any n d w)
  rw [hv] at C33
  have C37 := Lib.hid (fun w => Enough_nat l M u n d w hl hu hv)
  have D37 := Lib.hid (fun w => Enough_nat l M u2 x d w hl hu2 hvx)
  obtain ⟨_, hv1, hs1, hs2⟩ := (Mis.first_some _ _ _ v1).1 hf1
  have hv1 : v1 ≤ l := by omega
  have t1 : decide ((v2 : Int) ≤ (v1 : Int)) = true := by simp; exact h21
  have t2 : decide (v2 ≤ v1) = true := by simp; exact h21
  have t3 : decide ((v1 : Int) ≤ (l : Int)) = true := by simp; exact hv1
  have t4 : decide (v1 ≤ l) = true := by simp; exact hv1
  have t5 : ((v1 : Int) == 0) = false := by simp; omega
  have C39 := Lib.hid (fun w => rSuff_any l M u v1 n d w hl hv1 (by omega) g1 g2 g3)
  rw [hs1] at C39
  have D39 := Lib.hid (fun w => rSuff_any l M u (v1 - 1) n d w hl (by omega) (by omega) g1 g2 g3)
  rw [hs2 (v1 - 1) (Nat.zero_le _) (by omega), show ((v1 - 1 : Nat) : Int) = (v1 : Int) - 1 by omega] at D39
  rw [hf1] at C37
  have C37 := Lib.hid (show ∀ w, Calls Try.prog 37 #[.int .i64 l, .int .i64 M, .int .i64 u, fracV n d] w fun e w' => e = .returned (.tuple #[.int .i64 v1, .int .i64 0]) ∧ Below w.heap.size w w' from C37.out)
  rw [hf2] at D37
  have D37 := Lib.hid (show ∀ w, Calls Try.prog 37 #[.int .i64 l, .int .i64 M, .int .i64 u2, fracV x d] w fun e w' => e = .returned (.tuple #[.int .i64 v2, .int .i64 0]) ∧ Below w.heap.size w w' from D37.out)
  clear hf1 hf2 hs1 hs2
  clear hv hvx g1
  have s0 := (KS.start w).new #[.int .i64 n, .int .i64 d] 36
  obtain ⟨kb0_0, kb0_1, _⟩ := (s0.blkAt 0 rfl).c2
  have S0 := Lib.hid s0
  clear s0
  go_enter Try.func12, Try.ntmps12
  go_wp2_with fail
  refine (C33.out _).mono ?_
  rintro e w1 ⟨rfl, h1⟩
  clear kb0_0 kb0_1
  have s1 := S0.out.below h1
  obtain ⟨kb0_0, kb0_1, _⟩ := (s1.blkAt 0 rfl).c2
  have S1 := Lib.hid s1
  clear h1 s1
  go_wp2_with fail
  refine (part_any _ _ _).mono ?_
  rintro e w2 ⟨rfl, h2⟩
  clear kb0_0 kb0_1
  have s2 := S1.out.below h2
  obtain ⟨kb0_0, kb0_1, _⟩ := (s2.blkAt 0 rfl).c2
  have S2 := Lib.hid s2
  clear h2 s2
  go_wp2_with fail
  refine (C37.out _).mono ?_
  rintro e w3 ⟨rfl, h3⟩
  clear kb0_0 kb0_1
  have s3 := S2.out.below h3
  obtain ⟨kb0_0, kb0_1, _⟩ := (s3.blkAt 0 rfl).c2
  have S3 := Lib.hid s3
  clear h3 s3
  have lt0 := S3.out.lt 0 rfl
  go_wp2_with fail
  have s4 := S3.out.new #[.int .i64 x, .int .i64 d] 36
  clear kb0_0 kb0_1
  obtain ⟨kb1_0, kb1_1, _⟩ := (s4.blkAt 0 rfl).c2
  obtain ⟨kb0_0, kb0_1, _⟩ := (s4.blkAt 1 rfl).c2
  have S4 := Lib.hid s4
  clear s4
  clear lt0
  refine (part_any _ _ _).mono ?_
  rintro e w5 ⟨rfl, h5⟩
  clear kb1_0 kb1_1 kb0_0 kb0_1
  have s5 := S4.out.below h5
  obtain ⟨kb1_0, kb1_1, _⟩ := (s5.blkAt 0 rfl).c2
  obtain ⟨kb0_0, kb0_1, _⟩ := (s5.blkAt 1 rfl).c2
  have S5 := Lib.hid s5
  clear h5 s5
  go_wp2_with fail
  refine (D37.out _).mono ?_
  rintro e w6 ⟨rfl, h6⟩
  clear kb1_0 kb1_1 kb0_0 kb0_1
  have s6 := S5.out.below h6
  obtain ⟨kb1_0, kb1_1, _⟩ := (s6.blkAt 0 rfl).c2
  obtain ⟨kb0_0, kb0_1, _⟩ := (s6.blkAt 1 rfl).c2
  have S6 := Lib.hid s6
  clear h6 s6
  go_wp2_with (first | (go_at_call 39; (with_reducible refine (C39.out _).mono ?_); rintro e v0 ⟨rfl, h70⟩; have T0 := Lib.hid (S6.out.below h70); obtain ⟨z0, z1, _⟩ := (T0.out.blkAt 1 rfl).c2; clear h70) | (go_at_call 39; (with_reducible refine (D39.out _).mono ?_); rintro e v1 ⟨rfl, h71⟩; have T1 := Lib.hid (T0.out.below h71); obtain ⟨z0, z1, _⟩ := (T1.out.blkAt 1 rfl).c2; clear h71) | (go_at_call 24; (with_reducible refine (awake_any _).mono ?_); rintro e w99 ⟨rfl, h99⟩; have S99 := Lib.hid (T1.out.below h99); clear h99))
  go_ret
  exact ⟨rfl, S99.out.bel⟩
set_option maxRecDepth 100000 in
set_option maxHeartbeats 4000000 in
theorem MissSmallest_level (a b c m k n d : Int) (l M u : Nat) (w : World) (ha : 0 ≤ a ∧ a ≤ 255) (hb : 0 ≤ b ∧ b ≤ 255) (hc : 0 ≤ c ∧ c ≤ 255) (e1 : a % 51 = l) (e2 : b % (51 - (l : Int)) = M) (e3 : c % ((M : Int) + 1) = u) (hl : l + M ≤ 50) (hv : levB n d = false) : Calls Try.prog 12 #[.int .u8 a, .int .u8 b, .int .u8 c, fracV n d, .int .u8 m, .int .u8 k] w fun e w' => e = .returned (.bool true) ∧ Below w.heap.size w w' := by
  obtain ⟨ha1, ha2⟩ := ha
  obtain ⟨hb1, hb2⟩ := hb
  obtain ⟨hc1, hc2⟩ := hc
  have C33 := Lib.hid (fun w => rIsLevel_any n d w)
  rw [hv] at C33
  clear hv
  have s0 := (KS.start w).new #[.int .i64 n, .int .i64 d] 36
  obtain ⟨kb0_0, kb0_1, _⟩ := (s0.blkAt 0 rfl).c2
  have S0 := Lib.hid s0
  clear s0
  go_enter Try.func12, Try.ntmps12
  go_wp2_with fail
  refine (C33.out _).mono ?_
  rintro e w1 ⟨rfl, h1⟩
  clear kb0_0 kb0_1
  have s1 := S0.out.below h1
  obtain ⟨kb0_0, kb0_1, _⟩ := (s1.blkAt 0 rfl).c2
  have S1 := Lib.hid s1
  clear h1 s1
  go_wp2_with (first | (go_at_call 24; (with_reducible refine (awake_any _).mono ?_); rintro e w99 ⟨rfl, h99⟩; have S99 := Lib.hid (S1.out.below h99); clear h99))
  go_ret
  exact ⟨rfl, S99.out.bel⟩
theorem u8_of {a : Int} (h : (Lit.int .u8 a).wf = true) : 0 ≤ a ∧ a ≤ 255 := by simp [Lit.wf] at h; exact h
theorem MissSmallest_walk (a b c n d m k : Int) (w : World) (ha : (Lit.int .u8 a).wf = true) (hb : (Lit.int .u8 b).wf = true) (hc : (Lit.int .u8 c).wf = true) (hm : (Lit.int .u8 m).wf = true) (hk : (Lit.int .u8 k).wf = true) : Calls Try.prog 12 #[.int .u8 a, .int .u8 b, .int .u8 c, fracV n d, .int .u8 m, .int .u8 k] w fun e w' => e = .returned (.bool true) ∧ Below w.heap.size w w' := by
  have ha := u8_of ha
  have hb := u8_of hb
  have hc := u8_of hc
  have hm := u8_of hm
  have hk := u8_of hk
  obtain ⟨l, e1⟩ : ∃ l : Nat, a % 51 = l := ⟨(a % 51).toNat, by omega⟩
  have hl50 : (l : Int) ≤ 50 := by omega
  have p2 : 0 ≤ b % (51 - (l : Int)) := Int.emod_nonneg _ (by omega)
  have p2' : b % (51 - (l : Int)) < 51 - (l : Int) := Int.emod_lt_of_pos _ (by omega)
  obtain ⟨M, e2⟩ : ∃ M : Nat, b % (51 - (l : Int)) = M := ⟨(b % (51 - (l : Int))).toNat, by omega⟩
  have p3 : 0 ≤ c % ((M : Int) + 1) := Int.emod_nonneg _ (by omega)
  have p3' : c % ((M : Int) + 1) < (M : Int) + 1 := Int.emod_lt_of_pos _ (by omega)
  obtain ⟨u, e3⟩ : ∃ u : Nat, c % ((M : Int) + 1) = u := ⟨(c % ((M : Int) + 1)).toNat, by omega⟩
  obtain ⟨q, e4⟩ : ∃ q : Nat, m % 9 = q := ⟨(m % 9).toNat, by omega⟩
  cases hl : levB n d with
  | false => exact MissSmallest_level a b c m k n d l M u w ha hb hc e1 e2 e3 (by omega) hl
  | true =>
    obtain ⟨f1, f2, h3, h4, h5⟩ := lev_nat hl
    rw [f1, f2] at hl ⊢
    generalize n.toNat = n at *
    generalize d.toNat = d at *
    obtain ⟨u2, e5⟩ : ∃ u2 : Nat, min (M : Int) ((u : Int) + (q : Int)) = u2 := ⟨(min (M : Int) ((u : Int) + (q : Int))).toNat, by omega⟩
    obtain ⟨x, e6⟩ : ∃ x : Nat, max (0 : Int) ((n : Int) - k) = x := ⟨(max (0 : Int) ((n : Int) - k)).toNat, by omega⟩
    have hxn : x ≤ n := by omega
    have hlx : levB x d = true := by simp [levB, inB]; omega
    have huM : u ≤ M := by omega
    have huu : u ≤ u2 := by omega
    have hu2 : u2 ≤ M := by omega
    have hlM : l + M ≤ 50 := by omega
    have hq8 : q ≤ 8 := by omega
    cases hf1 : Mis.first (sufB l M u n d) 0 (l + 1) with
    | none =>
      cases hf2 : Mis.first (sufB l M u2 x d) 0 (l + 1) with
      | none => exact MissSmallest_no9 a b c m k l M u q u2 n d x w ha hb hc hm hk e1 e2 e3 e4 e5 e6 hlM huM hu2 hq8 hl hlx hf1 hf2
      | some v2 => exact MissSmallest_no0 a b c m k l M u q u2 n d x w ha hb hc hm hk e1 e2 e3 e4 e5 e6 hlM huM hu2 hq8 hl hlx hf1 v2 hf2
    | some v1 =>
      obtain ⟨_, h6, h7, _⟩ := (Mis.first_some _ _ _ v1).1 hf1
      have h8 := sufB_mono hxn huu h7
      cases hf2 : Mis.first (sufB l M u2 x d) 0 (l + 1) with
      | none =>
        have h9 := (Mis.first_none _ _ _).1 hf2 v1 (Nat.zero_le _) h6
        rw [h8] at h9; cases h9
      | some v2 =>
        obtain ⟨_, _, _, h9⟩ := (Mis.first_some _ _ _ v2).1 hf2
        have h21 : v2 ≤ v1 := by
          by_cases h10 : v1 < v2
          · have := h9 v1 (Nat.zero_le _) h10; rw [h8] at this; cases this
          · omega
        by_cases h0 : v1 = 0
        · exact MissSmallest_zero a b c m k l M u q u2 n d x w ha hb hc hm hk e1 e2 e3 e4 e5 e6 hlM huM hu2 hq8 hl hlx v1 v2 hf1 hf2 h21 h0
        · exact MissSmallest_some a b c m k l M u q u2 n d x w ha hb hc hm hk e1 e2 e3 e4 e5 e6 hlM huM hu2 hq8 hl hlx v1 v2 hf1 hf2 h21 (by omega)
end Go.Proofs.Ytkfobnhnehbkeaa
