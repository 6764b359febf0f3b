/- The walks of lower and add of the laws of layer 6. -/
import Derived.Test.YtkfobnhnehbkeaaLev1
set_option linter.unusedVariables false
set_option linter.unusedSimpArgs false
namespace Go.Proofs.Ytkfobnhnehbkeaa
open Go.RowKit Go.Shelf
open Mis (ch sets tot sm low up lower excl rng)

set_option maxRecDepth 100000 in
set_option maxHeartbeats 1000000 in
theorem lower45_any (a b c d : Nat) (w : World) (hb : 0 < b) (hd : 0 < d) (ha : a ≤ 4611686018427387904) (hb2 : b ≤ 4611686018427387904) (hc : c ≤ 4611686018427387904) (hd2 : d ≤ 4611686018427387904) :
    Calls Try.prog 45 #[fracV a b, fracV c d] w fun e w' => e = .returned (.bool (lower a b c d)) ∧ Below w.heap.size w w' := by
  have C29 := Lib.hid (fun w => rBelow_any a b c d w hb hd ha hb2 hc hd2)
  have m1 : max (1 : Int) (b : Int) = (b : Int) := by omega
  have m2 : max (1 : Int) (d : Int) = (d : Int) := by omega
  generalize lower a b c d = r at *
  obtain ⟨b1, b2, hb0, hsz⟩ := two_new w #[.int .i64 a, .int .i64 b] #[.int .i64 c, .int .i64 d] 25 25
  have HB0 := Lib.hid hb0
  clear b1 b2 hb0 hsz hb hd ha hb2 hc hd2
  go_enter Try.func45, Try.ntmps45
  go_wp2_with (go_at_call 29; (with_reducible refine (C29.out _).mono ?_); rintro e w1 ⟨rfl, hb1⟩; have HB1 := Lib.hid hb1; clear hb1)
  go_ret
  exact ⟨rfl, HB0.out.trans (HB1.out.mono HB0.out.size)⟩

/-- lowest terms change no comparison -/
theorem lower_low {N D c e : Nat} (hD : 0 < D) : lower (N / Nat.gcd N D) (D / Nat.gcd N D) c e = lower N D c e := by
  have hg : 0 < Nat.gcd N D := Nat.gcd_pos_of_pos_right _ hD
  have h1 := Nat.div_mul_cancel (Nat.gcd_dvd_left N D)
  have h2 := Nat.div_mul_cancel (Nat.gcd_dvd_right N D)
  generalize Nat.gcd N D = g at *
  unfold lower
  rw [decide_eq_decide]
  rw [show N * e = N / g * e * g by rw [Nat.mul_right_comm, h1], show c * D = c * (D / g) * g by rw [Nat.mul_assoc, h2]]
  exact (Nat.mul_lt_mul_right hg).symm
theorem low_lower {N D c e : Nat} (hD : 0 < D) : lower c e (N / Nat.gcd N D) (D / Nat.gcd N D) = lower c e N D := by
  have hg : 0 < Nat.gcd N D := Nat.gcd_pos_of_pos_right _ hD
  have h1 := Nat.div_mul_cancel (Nat.gcd_dvd_left N D)
  have h2 := Nat.div_mul_cancel (Nat.gcd_dvd_right N D)
  generalize Nat.gcd N D = g at *
  unfold lower
  rw [decide_eq_decide]
  rw [show c * D = c * (D / g) * g by rw [Nat.mul_assoc, h2], show N * e = N / g * e * g by rw [Nat.mul_right_comm, h1]]
  exact (Nat.mul_lt_mul_right hg).symm
/-- a chance against a level -/
theorem lower45_level {N D n d : Nat} (w : World) (hD : 0 < D) (hN : N ≤ 4611686018427387904) (hD2 : D ≤ 4611686018427387904) (hd1 : 1 ≤ d) (hd : d ≤ 1000) (hn : n ≤ d) :
    Calls Try.prog 45 #[lowV N D, fracV n d] w fun e w' => e = .returned (.bool (lower N D n d)) ∧ Below w.heap.size w w' := by
  rw [← lower_low hD]
  exact lower45_any _ _ n d w (Nat.div_pos (Nat.le_of_dvd hD (Nat.gcd_dvd_right _ _)) (Nat.gcd_pos_of_pos_right _ hD)) (by omega) (Nat.le_trans (Nat.div_le_self _ _) hN) (Nat.le_trans (Nat.div_le_self _ _) hD2) (by omega) (by omega)
theorem lower45_two {N D P Q : Nat} (w : World) (hD : 0 < D) (hN : N ≤ 4611686018427387904) (hD2 : D ≤ 4611686018427387904) (hQ : 0 < Q) (hP : P ≤ 4611686018427387904) (hQ2 : Q ≤ 4611686018427387904) :
    Calls Try.prog 45 #[lowV N D, lowV P Q] w fun e w' => e = .returned (.bool (lower N D P Q)) ∧ Below w.heap.size w w' := by
  rw [← lower_low hD, ← low_lower hQ]
  exact lower45_any _ _ _ _ w (Nat.div_pos (Nat.le_of_dvd hD (Nat.gcd_dvd_right _ _)) (Nat.gcd_pos_of_pos_right _ hD)) (Nat.div_pos (Nat.le_of_dvd hQ (Nat.gcd_dvd_right _ _)) (Nat.gcd_pos_of_pos_right _ hQ)) (Nat.le_trans (Nat.div_le_self _ _) hN) (Nat.le_trans (Nat.div_le_self _ _) hD2) (Nat.le_trans (Nat.div_le_self _ _) hP) (Nat.le_trans (Nat.div_le_self _ _) hQ2)

set_option maxRecDepth 100000 in
set_option maxHeartbeats 1000000 in
theorem add_low (t p q D g N : Nat) (w : World) (hq : 0 < q) (hpq : p ≤ q) (hmod : D % q = 0) (hdiv : D / q = g) (hN : p * g = N) (hD : D ≤ 1125899906842624) (ht : t ≤ 1125899906842624) (hN2 : N ≤ 1125899906842624) (_hqD : q ≤ D) :
    Calls Try.prog 44 #[.int .i64 t, fracV p q, .int .i64 D] w fun e w' => e = .returned (.tuple #[.int .i64 ((t : Int) + (N : Int)), .bool true]) ∧ Below w.heap.size w w' := by
  have e1 : (D : Int) % (q : Int) = 0 := by rw [← Int.natCast_emod, hmod]; rfl
  have e2 : (D : Int) / (q : Int) = (g : Int) := by rw [← Int.natCast_ediv, hdiv]
  have e3 : (p : Int) * (g : Int) = (N : Int) := by rw [← Int.natCast_mul, hN]
  have p1 : (0 : Int) < (q : Int) := by omega
  have t1 : decide ((q : Int) < 1) = false := by simp; omega
  have t2 : decide ((p : Int) < 0) = false := by simp
  have t3 : decide ((q : Int) < (p : Int)) = false := by simp; exact hpq
  have t4 : decide (q < p) = false := by simp; exact hpq
  have hg : g ≤ 1125899906842624 := by rw [← hdiv]; exact Nat.le_trans (Nat.div_le_self _ _) hD
  have b1 := (one_new w #[.int .i64 p, .int .i64 q] 25).2.1
  have B1 := Lib.hid b1
  clear b1 hmod hdiv hN hpq
  go_enter Try.func44, Try.ntmps44
  go_wp2
  go_region
  go_wp2
  go_ret2
  exact ⟨rfl, B1.out.drew⟩
/-- a chance is added to a sum in parts of the whole -/
theorem add_any (t N D : Nat) (w : World) (hD : 0 < D) (hN : N ≤ D) (hD2 : D ≤ 1125899906842624) (ht : t ≤ 1125899906842624) :
    Calls Try.prog 44 #[.int .i64 t, lowV N D, .int .i64 D] w fun e w' => e = .returned (.tuple #[.int .i64 ((t : Int) + (N : Int)), .bool true]) ∧ Below w.heap.size w w' := by
  have hg : 0 < Nat.gcd N D := Nat.gcd_pos_of_pos_right _ hD
  obtain ⟨q, hq⟩ := Nat.gcd_dvd_right N D
  obtain ⟨p, hp⟩ := Nat.gcd_dvd_left N D
  unfold lowV
  generalize Nat.gcd N D = g at *
  have e1 : N / g = p := by rw [hp]; exact Nat.mul_div_cancel_left _ hg
  have e2 : D / g = q := by rw [hq]; exact Nat.mul_div_cancel_left _ hg
  have hq0 : 0 < q := by
    rcases Nat.eq_zero_or_pos q with h | h
    · subst h; simp at hq; omega
    · exact h
  rw [e1, e2]
  refine add_low t p q D g N w hq0 ?_ ?_ ?_ (by rw [hp, Nat.mul_comm]) hD2 ht (by omega) ?_
  · rw [hp, hq] at hN; exact Nat.le_of_mul_le_mul_left hN hg
  · rw [hq]; exact Nat.mul_mod_left _ _
  · rw [hq]; exact Nat.mul_div_cancel _ hq0
  · rw [hq]; exact Nat.le_mul_of_pos_left _ hg
end Go.Proofs.Ytkfobnhnehbkeaa
