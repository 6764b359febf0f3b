/- The walks of the reference of layer 6: divisors, ways, sets, all, between, lowest. -/
import Derived.Test.YtkfobnhnehbkeaaWays2
namespace Go.Proofs.Ytkfobnhnehbkeaa
open Go.RowKit
open Mis (ch)

set_option maxRecDepth 100000 in
set_option maxHeartbeats 400000 in
theorem Common_any (a b : Nat) (w : World) (ha : a ≤ 4611686018427387904) (hb : b ≤ 4611686018427387904) :
    Calls Try.prog 56 #[.int .i64 a, .int .i64 b] w fun e w' => e = .returned (.int .i64 (Nat.gcd a b)) ∧ ∃ q, w' = w.drewN q := by
  go_enter Try.func56, Try.ntmps56
  go_wp2
  go_loopw [0, 1] (fun x y wr => ∃ p q : Nat, x = .int .i64 p ∧ y = .int .i64 q ∧ p ≤ 4611686018427387904 ∧ q ≤ 4611686018427387904 ∧ Nat.gcd p q = Nat.gcd a b ∧ ∃ d, wr = w.drewN d)
    (fun _ y _ => (intOf y).toNat)
  case atStart => exact ⟨a, b, rfl, rfl, ha, hb, rfl, 0, rfl⟩
  case round =>
    obtain ⟨p, q, rfl, rfl, hp, hq, hg, d, rfl⟩ := hrel
    have HG := Lib.hid hg
    clear hg
    by_cases h0 : q = 0
    · subst h0
      go_wp2
      go_ret
      exact ⟨by rw [← HG.out]; simp, d, rfl⟩
    · have hq0 : 0 < q := by omega
      have hq1 : (0 : Int) < (q : Int) := by omega
      go_wp2
      go_quiet (fail)
      go_wp2
      go_roundw
      case rel => exact ⟨q, p % q, rfl, by simp, hq, Nat.le_trans (Nat.le_of_lt (Nat.mod_lt _ hq0)) hq, by rw [← HG.out]; conv => rhs; rw [Nat.gcd_comm, Nat.gcd_rec, Nat.gcd_comm], _, World.drewN_drewN _ _ _⟩
      case measure => have := Nat.mod_lt p hq0; simp [intOf]; omega

/-- Ways, k not above n -/
theorem rWays_le (n k : Nat) (w : World) (hn : n ≤ 60) (hk : k ≤ n) (h2 : k ≤ n - k) :
    Calls Try.prog 48 #[.int .i64 n, .int .i64 k] w fun e w' => e = .returned (.int .i64 (ch n k)) ∧ ∃ q, w' = w.drewN q := by
  have t1 : decide (n < k) = false := by simp; omega
  have t2 : decide ((n : Int) - (k : Int) < (k : Int)) = false := by simp; omega
  go_enter Try.func48, Try.ntmps48
  go_wp2
  go_loopw [5, 6] (fun x y wr => ∃ j : Nat, j ≤ k ∧ x = .int .i64 (ch (n - k + j) j) ∧ y = .int .i64 ((j + 1 : Nat) : Int) ∧ ∃ d, wr = w.drewN d)
    (fun _ y _ => k + 1 - (intOf y).toNat)
  case atStart => exact ⟨0, by omega, by simp [Mis.ch_zero], rfl, 0, rfl⟩
  case round =>
    obtain ⟨j, hj, rfl, rfl, d, rfl⟩ := hrel
    have hr := Mis.ways_round (n - k) j
    have hb1 := ch60 (n - k + j) j (by omega)
    have hp := Mis.ch_pos (n - k + j) j (by omega)
    by_cases hlt : j < k
    · have hb2 := ch60 (n - k + j + 1) (j + 1) (by omega)
      have hg0 : 0 < Nat.gcd (ch (n - k + j) j) (j + 1) := Nat.gcd_pos_of_pos_right _ (by omega)
      have hg1 : Nat.gcd (ch (n - k + j) j) (j + 1) ≤ j + 1 := Nat.gcd_le_right _ (by omega)
      have hg2 : 0 < (j + 1) / Nat.gcd (ch (n - k + j) j) (j + 1) := Nat.div_pos hg1 hg0
      have HC := Lib.hid (fun w => Common_any (ch (n - k + j) j) (j + 1) w (by omega) (by omega))
      generalize hG : Nat.gcd (ch (n - k + j) j) (j + 1) = g at *
      generalize hN : ch (n - k + j + 1) (j + 1) = N at *
      generalize ch (n - k + j) j = o at *
      clear hG
      have HN := Lib.hid hN
      have HR := Lib.hid hr
      clear hN hr
      have a1 : (1 : Int) ≤ (g : Int) := by omega
      have a2 : (1 : Int) ≤ ((j : Int) + 1) / (g : Int) := by
        have e : ((j : Int) + 1) / (g : Int) = (((j + 1) / g : Nat) : Int) := by rw [Int.natCast_ediv]; rfl
        rw [e]; omega
      have a3 : (0 : Int) ≤ (o : Int) / (g : Int) ∧ (o : Int) / (g : Int) ≤ 1152921504606846976 := by
        have h1 := Nat.div_le_self o g
        have h2 : (o : Int) / (g : Int) = ((o / g : Nat) : Int) := (Int.natCast_ediv _ _).symm
        rw [h2]
        generalize o / g = x at *
        omega
      obtain ⟨a3, a4⟩ := a3
      have hN : IntKind.i64.wrap ((o : Int) / (g : Int) * (((n : Int) - (k : Int) + ((j : Int) + 1)) / (((j : Int) + 1) / (g : Int)))) = (N : Int) := by
        have e1 : (n : Int) - (k : Int) + ((j : Int) + 1) = ((n - k + j + 1 : Nat) : Int) := by omega
        have e2 : (j : Int) + 1 = ((j + 1 : Nat) : Int) := by omega
        rw [e1, e2, ← Int.natCast_ediv, ← Int.natCast_ediv, ← Int.natCast_ediv, ← Int.natCast_mul, HR.out]
        exact IntWalk.i64_in _ (by omega)
      have HN' := Lib.hid hN
      clear hN
      go_wp2_with (go_at_call 56; refine (HC.out _).mono ?_; rintro e w' ⟨rfl, q, rfl⟩)
      have hN := HN'.out
      go_quiet (fail)
      clear hN
      go_wp2
      go_roundw
      case rel => exact ⟨j + 1, by omega, by rw [show n - k + (j + 1) = n - k + j + 1 by omega, HN.out], by go_num, _, rfl⟩
      case measure => simp [intOf]; omega
    · obtain rfl : j = k := by omega
      have e : n - j + j = n := by omega
      have HE := Lib.hid e
      clear e
      go_wp2
      go_ret
      exact ⟨by rw [HE.out]; rfl, d, rfl⟩

theorem rWays_gt (n k c : Nat) (w : World) (hn : n ≤ 60) (hk : k ≤ n) (h2 : k < c) (hc : c = n - k) :
    Calls Try.prog 48 #[.int .i64 n, .int .i64 c] w fun e w' => e = .returned (.int .i64 (ch n k)) ∧ ∃ q, w' = w.drewN q := by
  have t1 : decide (n < c) = false := by simp; omega
  have t2 : decide ((n : Int) - (c : Int) < (c : Int)) = true := by simp; omega
  have t3 : (n : Int) - (c : Int) = (k : Int) := by omega
  have HC := Lib.hid hc
  clear hc
  go_enter Try.func48, Try.ntmps48
  go_wp2
  clear t3
  go_loopw [5, 6] (fun x y wr => ∃ j : Nat, j ≤ k ∧ x = .int .i64 (ch (n - k + j) j) ∧ y = .int .i64 ((j + 1 : Nat) : Int) ∧ ∃ d, wr = w.drewN d)
    (fun _ y _ => k + 1 - (intOf y).toNat)
  case atStart => exact ⟨0, by omega, by simp [Mis.ch_zero], rfl, 0, rfl⟩
  case round =>
    obtain ⟨j, hj, rfl, rfl, d, rfl⟩ := hrel
    have hr := Mis.ways_round (n - k) j
    have hb1 := ch60 (n - k + j) j (by omega)
    have hp := Mis.ch_pos (n - k + j) j (by omega)
    by_cases hlt : j < k
    · have hb2 := ch60 (n - k + j + 1) (j + 1) (by omega)
      have hg0 : 0 < Nat.gcd (ch (n - k + j) j) (j + 1) := Nat.gcd_pos_of_pos_right _ (by omega)
      have hg1 : Nat.gcd (ch (n - k + j) j) (j + 1) ≤ j + 1 := Nat.gcd_le_right _ (by omega)
      have hg2 : 0 < (j + 1) / Nat.gcd (ch (n - k + j) j) (j + 1) := Nat.div_pos hg1 hg0
      have HC := Lib.hid (fun w => Common_any (ch (n - k + j) j) (j + 1) w (by omega) (by omega))
      generalize hG : Nat.gcd (ch (n - k + j) j) (j + 1) = g at *
      generalize hN : ch (n - k + j + 1) (j + 1) = N at *
      generalize ch (n - k + j) j = o at *
      clear hG
      have HN := Lib.hid hN
      have HR := Lib.hid hr
      clear hN hr
      have a1 : (1 : Int) ≤ (g : Int) := by omega
      have a2 : (1 : Int) ≤ ((j : Int) + 1) / (g : Int) := by
        have e : ((j : Int) + 1) / (g : Int) = (((j + 1) / g : Nat) : Int) := by rw [Int.natCast_ediv]; rfl
        rw [e]; omega
      have a3 : (0 : Int) ≤ (o : Int) / (g : Int) ∧ (o : Int) / (g : Int) ≤ 1152921504606846976 := by
        have h1 := Nat.div_le_self o g
        have h2 : (o : Int) / (g : Int) = ((o / g : Nat) : Int) := (Int.natCast_ediv _ _).symm
        rw [h2]
        generalize o / g = x at *
        omega
      obtain ⟨a3, a4⟩ := a3
      have hN : IntKind.i64.wrap ((o : Int) / (g : Int) * (((n : Int) - (k : Int) + ((j : Int) + 1)) / (((j : Int) + 1) / (g : Int)))) = (N : Int) := by
        have e1 : (n : Int) - (k : Int) + ((j : Int) + 1) = ((n - k + j + 1 : Nat) : Int) := by omega
        have e2 : (j : Int) + 1 = ((j + 1 : Nat) : Int) := by omega
        rw [e1, e2, ← Int.natCast_ediv, ← Int.natCast_ediv, ← Int.natCast_ediv, ← Int.natCast_mul, HR.out]
        exact IntWalk.i64_in _ (by omega)
      have HN' := Lib.hid hN
      clear hN
      go_wp2_with (go_at_call 56; refine (HC.out _).mono ?_; rintro e w' ⟨rfl, q, rfl⟩)
      have hN := HN'.out
      go_quiet (fail)
      clear hN
      go_wp2
      go_roundw
      case rel => exact ⟨j + 1, by omega, by rw [show n - k + (j + 1) = n - k + j + 1 by omega, HN.out], by go_num, _, rfl⟩
      case measure => simp [intOf]; omega
    · obtain rfl : j = k := by omega
      have e : n - j + j = n := by omega
      have HE := Lib.hid e
      clear e
      go_wp2
      go_ret
      exact ⟨by rw [HE.out]; rfl, d, rfl⟩
theorem rWays_no (n k : Nat) (w : World) (hn : n < k) :
    Calls Try.prog 48 #[.int .i64 n, .int .i64 k] w fun e w' => e = .returned (.int .i64 (ch n k)) ∧ ∃ q, w' = w.drewN q := by
  rw [Mis.ch_lt n k hn]
  go_enter Try.func48, Try.ntmps48
  go_wp2
  go_ret
  exact ⟨rfl, 0, rfl⟩

/-- Ways of the reference -/
theorem rWays_any (n k : Nat) (w : World) (hn : n ≤ 60) :
    Calls Try.prog 48 #[.int .i64 n, .int .i64 k] w fun e w' => e = .returned (.int .i64 (ch n k)) ∧ ∃ q, w' = w.drewN q := by
  by_cases h1 : n < k
  · exact rWays_no n k w h1
  · by_cases h2 : k ≤ n - k
    · exact rWays_le n k w hn (by omega) h2
    · have h := rWays_gt n (n-k) k w hn (by omega) (by omega) (by omega)
      rw [Mis.ch_sub n k (by omega)] at h
      exact h
end Go.Proofs.Ytkfobnhnehbkeaa
