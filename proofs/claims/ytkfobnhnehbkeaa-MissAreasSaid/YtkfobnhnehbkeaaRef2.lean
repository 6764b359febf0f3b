/- The walks of the reference of layer 6: sets, all, between, lowest. -/
import Derived.Test.YtkfobnhnehbkeaaBlk
namespace Go.Proofs.Ytkfobnhnehbkeaa
open Go.RowKit
open Mis (ch sets tot)

theorem sets_le (L u S k : Nat) (h : L + u ≤ 50) : sets L u S k ≤ 1125899906842624 := by
  unfold sets
  have h1 := Mis.ch_le_pow L k
  have h2 := Mis.ch_le_pow u (S-k)
  have h3 : 2 ^ L * 2 ^ u ≤ 2 ^ 50 := by rw [← Nat.pow_add]; exact Nat.pow_le_pow_right (by omega) h
  exact Nat.le_trans (Nat.mul_le_mul h1 h2) h3
theorem tot_le (L u S : Nat) (h : L + u ≤ 50) : tot L u S ≤ 1125899906842624 := by
  unfold tot
  exact Nat.le_trans (Mis.ch_le_pow _ _) (Nat.pow_le_pow_right (n := 2) (by omega) h)

set_option maxRecDepth 100000 in
set_option maxHeartbeats 400000 in
theorem rSets_any (L M S F : Int) (l u s k : Nat) (hL : L = l) (hS : S = s) (w : World) (hl : l + u ≤ 50) (hk : k ≤ s) (hs : s ≤ 50) :
    Calls Try.prog 57 #[areaV L M S F, .int .i64 u, .int .i64 k] w fun e w' => e = .returned (.int .i64 (sets l u s k)) ∧ Below w.heap.size w w' := by
  subst hL hS
  have c1 : ∀ w, Calls Try.prog 48 #[.int .i64 l, .int .i64 k] w fun e w' => e = .returned (.int .i64 (ch l k)) ∧ ∃ q, w' = w.drewN q := fun w => rWays_any l k w (by omega)
  have c2 : ∀ w, Calls Try.prog 48 #[.int .i64 u, .int .i64 ((s : Int) - (k : Int))] w fun e w' => e = .returned (.int .i64 (ch u (s-k))) ∧ ∃ q, w' = w.drewN q := fun w => by
    have := rWays_any u (s-k) w (by omega)
    rw [show ((s - k : Nat) : Int) = (s : Int) - (k : Int) by omega] at this
    exact this
  have hb := sets_le l u s k hl
  unfold sets at hb ⊢
  generalize ch l k = A at *
  generalize ch u (s-k) = B at *
  have hm : IntKind.i64.wrap ((A : Int) * (B : Int)) = ((A * B : Nat) : Int) := by rw [← Int.natCast_mul]; exact IntWalk.i64_in _ (by omega)
  have C1 := Lib.hid c1
  have C2 := Lib.hid c2
  have HM := Lib.hid hm
  clear c1 c2 hm
  go_enter Try.func57, Try.ntmps57
  go_wp2_with fail
  have hm := HM.out
  go_quiet ((first | (go_at_call 48; (with_reducible exact Calls.quiet_of (C1.out _))) | (go_at_call 48; (with_reducible exact Calls.quiet_of (C2.out _)))))
  clear hm
  go_wp2
  go_ret
  exact ⟨rfl, ((Below.refl _ _).alloc (Nat.le_refl _) _).drewN' _⟩

set_option maxRecDepth 100000 in
set_option maxHeartbeats 400000 in
theorem rAll_any (L M S F : Int) (l u s : Nat) (hL : L = l) (hS : S = s) (w : World) (hl : l + u ≤ 50) :
    Calls Try.prog 43 #[areaV L M S F, .int .i64 u] w fun e w' => e = .returned (.int .i64 (tot l u s)) ∧ Below w.heap.size w w' := by
  subst hL hS
  have c1 : ∀ w, Calls Try.prog 48 #[.int .i64 ((l : Int) + (u : Int)), .int .i64 s] w fun e w' => e = .returned (.int .i64 (tot l u s)) ∧ ∃ q, w' = w.drewN q := fun w => by
    have := rWays_any (l+u) s w (by omega)
    rw [show ((l + u : Nat) : Int) = (l : Int) + (u : Int) by omega] at this
    exact this
  generalize tot l u s = A at *
  have C1 := Lib.hid c1
  clear c1
  go_enter Try.func43, Try.ntmps43
  go_wp2_with (go_at_call 48; (with_reducible refine (C1.out _).mono ?_); rintro e w' ⟨rfl, q, rfl⟩)
  go_ret
  exact ⟨rfl, ((Below.refl _ _).alloc (Nat.le_refl _) _).drewN' _⟩

open Mis (sm)
/-- Between: the sum of the sets from f to g-1 (all of them at most Sample), over all -/
theorem rBetween_any (L M S F : Int) (l u s f g : Nat) (hL : L = l) (hS : S = s) (w : World) (hl : l + u ≤ 50) (hfg : f ≤ g) (hgs : g ≤ s + 1) (hs : s ≤ l) :
    Calls Try.prog 27 #[areaV L M S F, .int .i64 u, .int .i64 f, .int .i64 ((g : Int) - 1)] w fun e w' => e = .returned (fracV (sm (sets l u s) f (g - f) : Nat) (tot l u s)) ∧ Below w.heap.size w w' := by
  subst hL hS
  have hsum : ∀ j, f ≤ j → j < s + 1 → sm (sets l u s) f (j - f) + sets l u s j ≤ 1125899906842624 := by
    intro j h1 h2
    have e1 : sm (sets l u s) f (j - f) + sets l u s j = sm (sets l u s) f (j - f + 1) := by rw [Mis.sm_succ, show f + (j - f) = j by omega]
    have e2 := Mis.sm_add (sets l u s) 0 f (j - f + 1)
    have e3 := Mis.low_le l u s j (by omega)
    unfold Mis.low at e3
    rw [show f + (j - f + 1) = j + 1 by omega, Nat.zero_add] at e2
    have e4 := tot_le l u s hl
    omega
  have HS := Lib.hid hsum
  have HA := Lib.hid (fun w => rAll_any l M s F l u s rfl rfl w hl)
  clear hsum
  go_enter Try.func27, Try.ntmps27
  go_wp2
  obtain ⟨b1, b2, hb0, hsz⟩ := two_new w #[.int .i64 l, .int .i64 M, .int .i64 s, .int .i64 F] #[.int .i64 0, .int .i64 0] 23 36
  generalize (w.alloc (.cells #[.int .i64 l, .int .i64 M, .int .i64 s, .int .i64 F] 23)).alloc (.cells #[.int .i64 0, .int .i64 0] 36) = W0 at *
  have HZ := Lib.hid hsz
  clear hsz
  go_loopw [9, 10] (fun x y wr => ∃ j : Nat, f ≤ j ∧ j ≤ g ∧ x = .int .i64 (sm (sets l u s) f (j - f) : Nat) ∧ y = .int .i64 (j : Int) ∧ Below W0.heap.size W0 wr)
    (fun _ y _ => g - (intOf y).toNat)
  case atStart => exact ⟨f, Nat.le_refl _, hfg, by simp [Mis.sm_zero], rfl, Below.refl _ _⟩
  case round =>
    obtain ⟨j, hj1, hj2, rfl, rfl, hbw⟩ := hrel
    have hB := Lib.hid hbw
    have c1 := b1.below hbw b1.lt
    have c2 := b2.below hbw b2.lt
    clear hbw
    obtain ⟨k0, k1, k2, k3⟩ := c1.c4
    have lt1 := c1.lt
    have lt2 := c2.lt
    have C1 := Lib.hid c1
    have C2 := Lib.hid c2
    clear c1 c2
    by_cases hlt : j < g
    · have hab := HS.out j hj1 (by omega)
      have HN := Lib.hid (show sm (sets l u s) f (j - f) + sets l u s j = sm (sets l u s) f (j + 1 - f) by rw [show j + 1 - f = j - f + 1 by omega, Mis.sm_succ, show f + (j - f) = j by omega])
      have HC := Lib.hid (fun w => rSets_any l M s F l u s j rfl rfl w hl (by omega) (by omega))
      generalize sets l u s j = B at *
      generalize sm (sets l u s) f (j - f) = A at *
      have ht : decide ((j : Int) ≤ (g : Int) - 1) = true := by simp; omega
      go_wp2_with (go_at_call 57; (with_reducible refine (HC.out _).mono ?_); rintro e w1 ⟨rfl, hb1⟩)
      have H1 := Lib.hid hb1
      clear hb1
      go_roundw
      case rel => exact ⟨j + 1, by omega, by omega, by rw [← HN.out]; go_num, by go_num, hB.out.trans (H1.out.mono hB.out.size)⟩
      case measure => simp [intOf]; omega
    · obtain rfl : j = g := by omega
      have ht : decide ((j : Int) ≤ (j : Int) - 1) = false := by simp; omega
      go_wp2_with (go_at_call 43; (with_reducible refine (HA.out _).mono ?_); rintro e w1 ⟨rfl, hb1⟩; have d2 := C2.out.below hb1 C2.out.lt; obtain ⟨q0, q1, q2, q3⟩ := d2.c2; have lt3 := d2.lt; have D2 := Lib.hid d2; have H1 := Lib.hid hb1; clear hb1 d2)
      refine bodyPost_ret (v := fracV (sm (sets l u s) f (j - f) : Nat) (tot l u s)) (by simp [results, Try.results27, go_sem, q0, q1]) rfl ⟨rfl, ?_⟩
      exact (((hb0.trans (hB.out.mono hb0.size)).trans (H1.out.mono (Nat.le_trans hb0.size hB.out.size))).setCell (by simp) _).setCell (by simp) _

/-- lowest terms -/
def lowV (n d : Nat) : Value := fracV ((n / Nat.gcd n d : Nat) : Int) ((d / Nat.gcd n d : Nat) : Int)
set_option maxRecDepth 100000 in
set_option maxHeartbeats 400000 in
theorem rLowest_any (n d : Nat) (w : World) (hd : 0 < d) (hn : n ≤ 4611686018427387904) (hd2 : d ≤ 4611686018427387904) :
    Calls Try.prog 26 #[fracV n d] w fun e w' => e = .returned (lowV n d) ∧ Below w.heap.size w w' := by
  by_cases h0 : n = 0
  · subst h0
    unfold lowV
    rw [Nat.gcd_zero_left, Nat.div_self hd, Nat.zero_div]
    go_enter Try.func26, Try.ntmps26
    go_wp2
    refine bodyPost_ret (v := fracV 0 1) (by simp [results, Try.results26, go_sem]) rfl ⟨rfl, ?_⟩
    repeat (first | exact Below.refl _ _ | (refine Below.setCell ?_ (by simp) _) | (refine Below.alloc ?_ (by simp) _) | refine Below.drewN' ?_ _ | refine Below.drew ?_)
  · have h1 : ((n : Int) == 0) = false := by simp; omega
    have HC := Lib.hid (fun w => Common_any n d w hn hd2)
    have hg0 : 0 < Nat.gcd n d := Nat.gcd_pos_of_pos_right _ hd
    unfold lowV
    generalize Nat.gcd n d = g at *
    have a1 : (1 : Int) ≤ (g : Int) := by omega
    have a2 : (0 : Int) ≤ (n : Int) / (g : Int) ∧ (n : Int) / (g : Int) ≤ 4611686018427387904 := by
      have h1 := Nat.div_le_self n g
      have h2 : (n : Int) / (g : Int) = ((n / g : Nat) : Int) := (Int.natCast_ediv _ _).symm
      rw [h2]; generalize n / g = x at *; omega
    have a3 : (0 : Int) ≤ (d : Int) / (g : Int) ∧ (d : Int) / (g : Int) ≤ 4611686018427387904 := by
      have h1 := Nat.div_le_self d g
      have h2 : (d : Int) / (g : Int) = ((d / g : Nat) : Int) := (Int.natCast_ediv _ _).symm
      rw [h2]; generalize d / g = x at *; omega
    obtain ⟨a2, a4⟩ := a2
    obtain ⟨a3, a5⟩ := a3
    go_enter Try.func26, Try.ntmps26
    go_wp2_with (go_at_call 56; (with_reducible refine (HC.out _).mono ?_); rintro e w' ⟨rfl, q, rfl⟩)
    go_region
    go_wp2
    refine bodyPost_ret (v := fracV ((n / g : Nat) : Int) ((d / g : Nat) : Int)) (by simp [results, Try.results26, go_sem]) rfl ⟨rfl, ?_⟩
    repeat (first | exact Below.refl _ _ | (refine Below.setCell ?_ (by simp) _) | (refine Below.alloc ?_ (by simp) _) | refine Below.drewN' ?_ _ | refine Below.drew ?_)
end Go.Proofs.Ytkfobnhnehbkeaa
