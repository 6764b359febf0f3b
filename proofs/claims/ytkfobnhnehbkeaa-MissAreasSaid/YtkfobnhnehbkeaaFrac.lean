/- The walks of the fractions of package miss: lowest terms, below, level. -/
import Derived.Test.YtkfobnhnehbkeaaRef2
import Derived.Lib.Mul64
import Derived.Laws.Bits64b
namespace Go.Proofs.Ytkfobnhnehbkeaa
open Go.RowKit
open Mis (ch sets tot)

set_option maxRecDepth 100000 in
set_option maxHeartbeats 400000 in
theorem lowest_any (n d : Nat) (w : World) (hd : 0 < d) (hn : n ≤ 4611686018427387904) (hd2 : d ≤ 4611686018427387904) :
    Calls Try.prog 75 #[fracV n d] w fun e w' => e = .returned (lowV n d) ∧ Below w.heap.size w w' := by
  have hg0 : 0 < Nat.gcd n d := Nat.gcd_pos_of_pos_right _ hd
  unfold lowV
  go_enter Try.func75, Try.ntmps75
  go_wp2
  go_quiet (fail)
  go_wp2
  obtain ⟨b1, b2, hb0, hsz⟩ := two_new w #[.int .i64 n, .int .i64 d] #[.int .i64 0, .int .i64 0] 25 25
  generalize (w.alloc (.cells #[.int .i64 n, .int .i64 d] 25)).alloc (.cells #[.int .i64 0, .int .i64 0] 25) = W0 at *
  have HZ := Lib.hid hsz
  clear hsz
  go_loopw [3, 4] (fun x y wr => ∃ p q : Nat, x = .int .i64 p ∧ y = .int .i64 q ∧ p ≤ 4611686018427387904 ∧ q ≤ 4611686018427387904 ∧ Nat.gcd p q = Nat.gcd n d ∧ ∃ m, wr = W0.drewN m)
    (fun _ y _ => (intOf y).toNat)
  case atStart => exact ⟨n, d, rfl, rfl, hn, hd2, rfl, _, rfl⟩
  case round =>
    obtain ⟨p, q, rfl, rfl, hp, hq, hg, m, rfl⟩ := hrel
    have HG := Lib.hid hg
    clear hg
    by_cases h0 : q = 0
    · subst h0
      obtain ⟨k0, k1, _, _⟩ := b1.c2
      obtain ⟨r0, r1, f0, f1⟩ := b2.c2
      have hp' : p = Nat.gcd n d := by rw [← HG.out]; simp
      have lt1 := b1.lt
      have lt2 := b2.lt
      have B1 := Lib.hid b1
      have B2 := Lib.hid b2
      clear b1 b2
      rw [← hp'] at hg0
      have HP := Lib.hid hp'
      clear hp'
      have a1 : (1 : Int) ≤ (p : Int) := by omega
      have a2 : (0 : Int) ≤ (n : Int) / (p : Int) ∧ (n : Int) / (p : Int) ≤ 4611686018427387904 := by
        have h1 := Nat.div_le_self n p
        have h2 : (n : Int) / (p : Int) = ((n / p : Nat) : Int) := (Int.natCast_ediv _ _).symm
        rw [h2]; generalize n / p = x at *; omega
      have a3 : (0 : Int) ≤ (d : Int) / (p : Int) ∧ (d : Int) / (p : Int) ≤ 4611686018427387904 := by
        have h1 := Nat.div_le_self d p
        have h2 : (d : Int) / (p : Int) = ((d / p : Nat) : Int) := (Int.natCast_ediv _ _).symm
        rw [h2]; generalize d / p = x at *; omega
      obtain ⟨a2, a4⟩ := a2
      obtain ⟨a3, a5⟩ := a3
      go_wp2
      go_region
      go_wp2
      refine bodyPost_ret (v := fracV ((n / p : Nat) : Int) ((d / p : Nat) : Int)) (by simp [results, Try.results75, go_sem, r0, r1]) rfl ⟨by rw [HP.out], ?_⟩
      repeat (first | exact hb0 | (refine Below.setCell ?_ (by simp) _) | (refine Below.alloc ?_ (by simp) _) | refine Below.drewN' ?_ _ | refine Below.drew ?_)
    · have hq0 : 0 < q := by omega
      have hq1 : (0 : Int) < (q : Int) := by omega
      have hq2 : ((q : Int) != 0) = true := by simp; omega
      go_wp2
      go_quiet (fail)
      go_wp2
      go_roundw
      case rel => exact ⟨q, p % q, rfl, by simp, hq, Nat.le_trans (Nat.le_of_lt (Nat.mod_lt _ hq0)) hq, by rw [← HG.out]; conv => rhs; rw [Nat.gcd_comm, Nat.gcd_rec, Nat.gcd_comm], _, World.drewN_drewN _ _ _⟩
      case measure => have := Nat.mod_lt p hq0; simp [intOf]; omega

namespace M64
theorem maskN (a : Nat) (ha : a < 18446744073709551616) : bits .and .u64 (a : Int) 4294967295 = ((a % 4294967296 : Nat) : Int) := by
  have h := bits_and_u64_nat a 4294967295 ha (by omega)
  have e : a &&& 4294967295 = a % 4294967296 := Nat.and_two_pow_sub_one_eq_mod a 32
  rw [e] at h
  exact h
theorem divN (a : Nat) : (a : Int) / 4294967296 = ((a / 4294967296 : Nat) : Int) := by omega
theorem mulN (a b : Nat) : (a : Int) * (b : Int) = ((a * b : Nat) : Int) := (Int.natCast_mul a b).symm
theorem addN (a b : Nat) : (a : Int) + (b : Int) = ((a + b : Nat) : Int) := (Int.natCast_add a b).symm
theorem wrapN (a : Nat) (ha : a < 18446744073709551616) : IntKind.u64.wrap (a : Int) = (a : Int) := by rw [IntKind.wrap_u64]; omega
theorem wrapM (a : Nat) : IntKind.u64.wrap (a : Int) = ((a % 18446744073709551616 : Nat) : Int) := by rw [IntKind.wrap_u64]; omega
end M64
set_option maxHeartbeats 1000000 in
theorem mul64_any (x y : Nat) (hx : x < 18446744073709551616) (hy : y < 18446744073709551616) (w : World) :
    Calls Try.prog 79 #[.int .u64 x, .int .u64 y] w fun e w' => e = .returned (.tuple #[.int .u64 ((x * y / 18446744073709551616 : Nat) : Int), .int .u64 ((x * y % 18446744073709551616 : Nat) : Int)]) ∧ w = w' := by
  obtain ⟨bd, bt, bw, hhi⟩ := Lib.mul64_hi x y hx hy
  have ba := Lib.half_mul_le (a := x / 4294967296) (b := y / 4294967296) (by omega) (by omega)
  have bb := Lib.half_mul_le (a := x / 4294967296) (b := y % 4294967296) (by omega) (by omega)
  have bc := Lib.half_mul_le (a := x % 4294967296) (b := y / 4294967296) (by omega) (by omega)
  have ba' : x / 4294967296 * (y / 4294967296) < 18446744073709551616 := by omega
  have bb' : x / 4294967296 * (y % 4294967296) < 18446744073709551616 := by omega
  have bc' : x % 4294967296 * (y / 4294967296) < 18446744073709551616 := by omega
  have bh1 : x / 4294967296 * (y / 4294967296) + (x / 4294967296 * (y % 4294967296) + x % 4294967296 * (y % 4294967296) / 4294967296) / 4294967296 < 18446744073709551616 := by omega
  have bh : x / 4294967296 * (y / 4294967296) + (x / 4294967296 * (y % 4294967296) + x % 4294967296 * (y % 4294967296) / 4294967296) / 4294967296 + ((x / 4294967296 * (y % 4294967296) + x % 4294967296 * (y % 4294967296) / 4294967296) % 4294967296 + x % 4294967296 * (y / 4294967296)) / 4294967296 < 18446744073709551616 := by omega
  go_enter Try.func79, Try.ntmps79
  go_wp2
  simp only [M64.maskN x hx, M64.maskN y hy, M64.divN, M64.mulN, M64.addN, M64.wrapN _ bd, M64.wrapN _ bb', M64.wrapN _ bt, M64.maskN _ bt, M64.wrapN _ bc', M64.wrapN _ bw, M64.wrapN _ ba', M64.wrapN _ bh1, M64.wrapN _ bh, M64.wrapM (x * y)]
  rw [hhi]
  go_ret2
  exact ⟨rfl, rfl⟩

theorem parts_lt (p q : Nat) : decide (p < q) = (decide (p / 18446744073709551616 < q / 18446744073709551616) || (decide (p / 18446744073709551616 = q / 18446744073709551616) && decide (p % 18446744073709551616 < q % 18446744073709551616))) := by
  rw [Bool.eq_iff_iff]; simp; omega
set_option maxRecDepth 100000 in
set_option maxHeartbeats 400000 in
theorem below_walk (n1 d1 n2 d2 h1 l1 h2 l2 : Nat) (r : Bool) (w : World) (hn1 : n1 ≤ 4611686018427387904) (hd1 : d1 ≤ 4611686018427387904) (hn2 : n2 ≤ 4611686018427387904) (hd2 : d2 ≤ 4611686018427387904)
    (c1 : ∀ w, Calls Try.prog 79 #[.int .u64 n1, .int .u64 d2] w fun e w' => e = .returned (.tuple #[.int .u64 h1, .int .u64 l1]) ∧ w = w')
    (c2 : ∀ w, Calls Try.prog 79 #[.int .u64 n2, .int .u64 d1] w fun e w' => e = .returned (.tuple #[.int .u64 h2, .int .u64 l2]) ∧ w = w')
    (hr : r = (decide (h1 < h2) || (decide (h1 = h2) && decide (l1 < l2)))) :
    Calls Try.prog 62 #[fracV n1 d1, fracV n2 d2] w fun e w' => e = .returned (.bool r) ∧ Below w.heap.size w w' := by
  have C1 := Lib.hid c1
  have C2 := Lib.hid c2
  clear c1 c2
  by_cases g1 : h1 < h2
  · obtain rfl : r = true := by rw [hr]; simp [g1]
    clear hr
    have t1 : decide (h1 < h2) = true := by simp [g1]
    go_enter Try.func62, Try.ntmps62
    go_wp2_with (first | (go_at_call 79; (with_reducible refine (C1.out _).mono ?_); rintro e w' ⟨rfl, rfl⟩; clear C1) | (go_at_call 79; (with_reducible refine (C2.out _).mono ?_); rintro e w' ⟨rfl, rfl⟩))
    go_ret
    exact ⟨rfl, ((Below.refl _ _).alloc (Nat.le_refl _) _).alloc (by simp) _⟩
  · by_cases g2 : h1 = h2
    · subst g2
      by_cases g3 : l1 < l2
      · obtain rfl : r = true := by rw [hr]; simp [g3]
        clear hr
        go_enter Try.func62, Try.ntmps62
        go_wp2_with (first | (go_at_call 79; (with_reducible refine (C1.out _).mono ?_); rintro e w' ⟨rfl, rfl⟩; clear C1) | (go_at_call 79; (with_reducible refine (C2.out _).mono ?_); rintro e w' ⟨rfl, rfl⟩))
        go_ret
        exact ⟨rfl, ((Below.refl _ _).alloc (Nat.le_refl _) _).alloc (by simp) _⟩
      · obtain rfl : r = false := by rw [hr]; simp; omega
        clear hr
        have t1 : decide (l1 < l2) = false := by simp; omega
        go_enter Try.func62, Try.ntmps62
        go_wp2_with (first | (go_at_call 79; (with_reducible refine (C1.out _).mono ?_); rintro e w' ⟨rfl, rfl⟩; clear C1) | (go_at_call 79; (with_reducible refine (C2.out _).mono ?_); rintro e w' ⟨rfl, rfl⟩))
        go_ret
        exact ⟨rfl, ((Below.refl _ _).alloc (Nat.le_refl _) _).alloc (by simp) _⟩
    · obtain rfl : r = false := by rw [hr]; simp [g2]; omega
      clear hr
      have t1 : decide (h1 < h2) = false := by simp; omega
      have t2 : ((h1 : Int) == (h2 : Int)) = false := by simp; omega
      go_enter Try.func62, Try.ntmps62
      go_wp2_with (first | (go_at_call 79; (with_reducible refine (C1.out _).mono ?_); rintro e w' ⟨rfl, rfl⟩; clear C1) | (go_at_call 79; (with_reducible refine (C2.out _).mono ?_); rintro e w' ⟨rfl, rfl⟩))
      go_ret
      exact ⟨rfl, ((Below.refl _ _).alloc (Nat.le_refl _) _).alloc (by simp) _⟩
theorem below_any (n1 d1 n2 d2 : Nat) (w : World) (hn1 : n1 ≤ 4611686018427387904) (hd1 : d1 ≤ 4611686018427387904) (hn2 : n2 ≤ 4611686018427387904) (hd2 : d2 ≤ 4611686018427387904) :
    Calls Try.prog 62 #[fracV n1 d1, fracV n2 d2] w fun e w' => e = .returned (.bool (Mis.lower n1 d1 n2 d2)) ∧ Below w.heap.size w w' :=
  below_walk n1 d1 n2 d2 _ _ _ _ _ w hn1 hd1 hn2 hd2 (fun w => mul64_any n1 d2 (by omega) (by omega) w) (fun w => mul64_any n2 d1 (by omega) (by omega) w) (by unfold Mis.lower; exact parts_lt _ _)
end Go.Proofs.Ytkfobnhnehbkeaa
