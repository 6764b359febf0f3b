/- The walk of Below of the reference of layer 6. -/
import Derived.Test.YtkfobnhnehbkeaaSmall
namespace Go.Proofs.Ytkfobnhnehbkeaa
open Go.RowKit
open Mis (lower)

theorem meas_lt {W W' : World} {b1 b2 q p b d : Nat} {t : TypeId} {x0 x1 y0 y1 : Value} (f1 : Blk W' b1 #[x0, .int .i64 q] t) (f2 : Blk W' b2 #[x1, .int .i64 p] t) (g1 : Blk W b1 #[y0, .int .i64 b] t) (g2 : Blk W b2 #[y1, .int .i64 d] t) (h : q + p < b + d) :
    (intOf ((W'.cell? ⟨b1, 1, none⟩).getD undef)).toNat + (intOf ((W'.cell? ⟨b2, 1, none⟩).getD undef)).toNat < (intOf ((W.cell? ⟨b1, 1, none⟩).getD undef)).toNat + (intOf ((W.cell? ⟨b2, 1, none⟩).getD undef)).toNat := by
  rw [f1.cell 1, f2.cell 1, g1.cell 1, g2.cell 1]
  simp [intOf]; omega
set_option maxRecDepth 100000 in
set_option maxHeartbeats 1000000 in
theorem rBelow_any (a b c d : Nat) (w : World) (hb : 0 < b) (hd : 0 < d) (ha : a ≤ 4611686018427387904) (hb2 : b ≤ 4611686018427387904) (hc : c ≤ 4611686018427387904) (hd2 : d ≤ 4611686018427387904) :
    Calls Try.prog 29 #[fracV a b, fracV c d] w fun e w' => e = .returned (.bool (lower a b c d)) ∧ Below w.heap.size w w' := by
  obtain ⟨b1, b2, hb0, hsz⟩ := two_new w #[.int .i64 a, .int .i64 b] #[.int .i64 c, .int .i64 d] 36 36
  obtain ⟨r, hr⟩ : ∃ r, r = lower a b c d := ⟨_, rfl⟩
  rw [← hr]
  have HR := Lib.hid hr
  have B1 := Lib.hid b1
  have B2 := Lib.hid b2
  have HB0 := Lib.hid hb0
  clear hr b1 b2 hb0 hsz
  go_enter Try.func29, Try.ntmps29
  go_wp2
  generalize (w.alloc (.cells #[.int .i64 a, .int .i64 b] 36)).alloc (.cells #[.int .i64 c, .int .i64 d] 36) = W0 at *
  go_loopw [5] (fun _ wr => ∃ a b c d : Nat, 0 < b ∧ 0 < d ∧ a ≤ 4611686018427387904 ∧ b ≤ 4611686018427387904 ∧ c ≤ 4611686018427387904 ∧ d ≤ 4611686018427387904 ∧ r = lower a b c d ∧ Blk wr w.heap.size #[.int .i64 a, .int .i64 b] 36 ∧ Blk wr (w.heap.size + 1) #[.int .i64 c, .int .i64 d] 36 ∧ Below w.heap.size w wr)
    (fun _ wr => (intOf ((wr.cell? ⟨w.heap.size, 1, none⟩).getD undef)).toNat + (intOf ((wr.cell? ⟨w.heap.size + 1, 1, none⟩).getD undef)).toNat)
  case atStart => exact ⟨a, b, c, d, hb, hd, ha, hb2, hc, hd2, HR.out, B1.out, B2.out, HB0.out⟩
  case round =>
    clear HR B1 B2 HB0 hb hd ha hb2 hc hd2
    obtain ⟨a, b, c, d, hb, hd, ha, hb2, hc, hd2, hr, b1, b2, hbl⟩ := hrel
    obtain ⟨k0, k1, k2, k3⟩ := b1.c2
    obtain ⟨k4, k5, k6, k7⟩ := b2.c2
    have HR := Lib.hid hr
    have B1 := Lib.hid b1
    have B2 := Lib.hid b2
    have HB := Lib.hid hbl
    clear hr b1 b2 hbl
    have g1 : (0 : Int) < (b : Int) := by omega
    have g2 : (0 : Int) < (d : Int) := by omega
    have HP : Hid (a / b ≠ c / d → lower a b c d = decide (a / b < c / d)) := Lib.hid (fun h => Mis.lower_parts hb hd h)
    have HE : Hid (a / b = c / d → a % b = 0 ∨ c % d = 0 → lower a b c d = (decide (a % b = 0) && decide (0 < c % d))) := Lib.hid (fun h h0 => Mis.lower_end h hb h0)
    have HS : Hid (a / b = c / d → lower a b c d = lower d (c % d) b (a % b)) := Lib.hid (fun h => Mis.lower_rests h)
    have e1 : (a : Int) / (b : Int) = ((a / b : Nat) : Int) := (Int.natCast_ediv _ _).symm
    have e2 : (c : Int) / (d : Int) = ((c / d : Nat) : Int) := (Int.natCast_ediv _ _).symm
    have e3 : (a : Int) % (b : Int) = ((a % b : Nat) : Int) := (Int.natCast_emod _ _).symm
    have e4 : (c : Int) % (d : Int) = ((c % d : Nat) : Int) := (Int.natCast_emod _ _).symm
    have l1 : a / b ≤ 4611686018427387904 := Nat.le_trans (Nat.div_le_self _ _) ha
    have l2 : c / d ≤ 4611686018427387904 := Nat.le_trans (Nat.div_le_self _ _) hc
    have l3 : a % b < b := Nat.mod_lt _ hb
    have l4 : c % d < d := Nat.mod_lt _ hd
    generalize a / b = x at *
    generalize c / d = y at *
    generalize a % b = p at *
    generalize c % d = q at *
    by_cases hxy : x = y
    · subst hxy
      have t0 : ((x : Int) != (x : Int)) = false := by simp
      have HS := Lib.hid (HS.out rfl)
      have HE := Lib.hid (HE.out rfl)
      clear HP
      by_cases hp : p = 0
      · subst hp
        have HE := Lib.hid (HE.out (.inl rfl))
        clear HS
        by_cases hq : 0 < q
        · have t1 : decide ((0 : Int) < (q : Int)) = true := by simp; exact hq
          have t2 : decide (0 < q) = true := by simp; exact hq
          go_wp2
          go_quiet (fail)
          go_wp2
          go_quiet (fail)
          go_wp2
          go_ret
          exact ⟨by rw [HR.out, HE.out]; simp [hq], HB.out.drewN' _⟩
        · obtain rfl : q = 0 := by omega
          go_wp2
          go_quiet (fail)
          go_wp2
          go_quiet (fail)
          go_wp2
          go_ret
          exact ⟨by rw [HR.out, HE.out]; simp, HB.out.drewN' _⟩
      · have t1 : ((p : Int) == 0) = false := by simp; exact hp
        by_cases hq : q = 0
        · subst hq
          have HE := Lib.hid (HE.out (.inr rfl))
          clear HS
          have HP0 := Lib.hid hp
          clear hp
          go_wp2
          go_quiet (fail)
          go_wp2
          go_quiet (fail)
          go_wp2
          go_ret
          exact ⟨by rw [HR.out, HE.out]; have h0 := HP0.out; first | (simp [h0]; done) | (simp [h0]; exact .inr trivial), HB.out.drewN' _⟩
        · have t2 : ((q : Int) == 0) = false := by simp; exact hq
          have hp0 : 0 < p := by omega
          have hq0 : 0 < q := by omega
          clear hp hq
          go_wp2
          go_quiet (fail)
          go_wp2
          go_quiet (fail)
          go_wp2
          have f1 : Blk _ _ #[.int .i64 d, .int .i64 q] 36 := (((B1.out.set 0 (.int .i64 d)).set 1 (.int .i64 q)).other (a := ⟨w.heap.size + 1, 0, none⟩) (by simp) (.int .i64 b)).other (a := ⟨w.heap.size + 1, 1, none⟩) (by simp) (.int .i64 p)
          have f2 : Blk _ _ #[.int .i64 b, .int .i64 p] 36 := (((B2.out.other (a := ⟨w.heap.size, 0, none⟩) (by simp) (.int .i64 d)).other (a := ⟨w.heap.size, 1, none⟩) (by simp) (.int .i64 q)).set 0 (.int .i64 b)).set 1 (.int .i64 p)
          go_roundw
          case rel =>
            refine ⟨d, q, b, p, hq0, hp0, hd2, by omega, hb2, by omega, by rw [HR.out]; first | exact HS.out | exact HS.out trivial, f1, f2, ?_⟩
            refine Below.setCell (Below.setCell (Below.setCell (Below.setCell ?_ (by simp) _) (by simp) _) (by simp) _) (by simp) _
            exact HB.out.drewN' _
          case measure =>
            exact meas_lt f1 f2 B1.out B2.out (by omega)
    · have t0 : ((x : Int) != (y : Int)) = true := by simp; omega
      have t1 : (x != y) = true := by simpa using hxy
      have HP := Lib.hid (HP.out hxy)
      clear hxy HE HS
      go_wp2
      go_quiet (fail)
      go_wp2
      go_ret
      exact ⟨by rw [HR.out, HP.out]; simp, HB.out.drewN' _⟩
end Go.Proofs.Ytkfobnhnehbkeaa
