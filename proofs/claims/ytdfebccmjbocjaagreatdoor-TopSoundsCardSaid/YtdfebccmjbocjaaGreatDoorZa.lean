/- sheet: small functions. -/
import Derived.Test.YtdfebccmjbocjaaGreatDoorB
import Derived.Test.YtdfebccmjbocjaaGreatDoorZm
import Derived.Laws.ShiftsVar
import Derived.Laws.BitsAllLaws
import Derived.Laws.Bits64b
set_option linter.unusedVariables false
set_option linter.unusedSimpArgs false
namespace Go.Proofs.YtdfebccmjbocjaaGreatDoor
open Go.RowKit Go.Shelf

def inB (n low high : Int) : Bool := decide (low ≤ n) && decide (n ≤ high)
theorem within_s (n low high : Int) (w : World) : Calls Tryz.prog 40 #[.int .i64 n, .int .i64 low, .int .i64 high] w fun e w' => e = .returned (.bool (inB n low high)) ∧ w = w' := by
  unfold inB
  by_cases h : low ≤ n
  · have h1 : decide (low ≤ n) = true := by simp [h]
    rw [h1]
    go_enter Tryz.func40, Tryz.ntmps40
    go_wp2
    go_ret
    exact ⟨rfl, rfl⟩
  · have h1 : decide (low ≤ n) = false := by simp [h]
    rw [h1]
    go_enter Tryz.func40, Tryz.ntmps40
    go_wp2
    go_ret
    exact ⟨rfl, rfl⟩
theorem ret_bool {a b : Bool} (h : a = b) : Ending.returned (.bool a) = .returned (.bool b) := by rw [h]
theorem has_any (s n : Nat) (hs : s < 1024) (hn : n < 64) (w : World) : Calls Tryz.prog 41 #[.int .u64 (s : Int), .int .i64 (n : Int)] w fun e w' => e = .returned (.bool (s.testBit n)) ∧ w = w' := by
  have h0 : s / 2 ^ n < 18446744073709551616 := Nat.lt_of_le_of_lt (Nat.div_le_self _ _) (by omega)
  have e0 : ((s : Int) / 2 ^ n) = ((s / 2 ^ n : Nat) : Int) := by rw [Int.natCast_ediv, Int.natCast_pow]; rfl
  have key : (bits BinOp.and IntKind.u64 ((s : Int) / 2 ^ n) 1 == 1) = s.testBit n := by
    rw [e0, show (1 : Int) = ((1 : Nat) : Int) from rfl, bits_and_u64_nat _ _ h0 (by omega), Nat.testBit_eq_decide_div_mod_eq, Nat.and_one_is_mod]
    rw [Bool.eq_iff_iff]; simp; omega
  have KEY := Lib.hid key
  clear key e0 h0
  go_enter Tryz.func41, Tryz.ntmps41
  go_wp2
  go_ret
  exact ⟨ret_bool KEY.out, rfl⟩
/-- the library's table -/
def GT (w : World) : Prop := ∀ j, j < 64 → w.cell? ⟨1, j, none⟩ = some (.int .u8 (Lib.deBruijn64tab.getD j 0))
theorem GT.below {w w' : World} (h : GT w) (hb : Below w.heap.size w w') (h1 : 1 < w.heap.size) : GT w' := fun j hj => (hb.cell (p := ⟨1, j, none⟩) h1).trans (h j hj)
theorem tz_key (x a : Nat) (hx : x < 18446744073709551616) (hx0 : x ≠ 0) (hlow : x &&& (18446744073709551616 - x) = a) :
    IntKind.u64.wrap (bits BinOp.and IntKind.u64 (x : Int) (IntKind.u64.wrap (-(x : Int))) * 285870213051353865) / 288230376151711744 = ((a * 285870213051353865 % 18446744073709551616 / 288230376151711744 : Nat) : Int) := by
  have e1 : IntKind.u64.wrap (-(x : Int)) = ((18446744073709551616 - x : Nat) : Int) := by rw [IntKind.wrap_u64]; omega
  rw [e1, bits_and_u64_nat x _ hx (by omega), hlow, IntKind.wrap_u64]
  omega
theorem tz64_core (x k idx : Nat) (w : World) (hx0 : ((x : Int) == 0) = false)
    (key : IntKind.u64.wrap (bits BinOp.and IntKind.u64 (x : Int) (IntKind.u64.wrap (-(x : Int))) * 285870213051353865) / 288230376151711744 = (idx : Int))
    (hi : idx < 64) (hk : k < 64) (hcell : w.cell? ⟨1, idx, none⟩ = some (.int .u8 k)) :
    Calls Tryz.prog 111 #[.int .u64 x] w fun e w' => e = .returned (.int .i64 k) ∧ w = w' := by
  go_enter Tryz.func111, Tryz.ntmps111
  go_wp2_with (simp only [key])
  go_ret
  exact ⟨rfl, rfl⟩
theorem tz_any (x : Nat) (hx0 : 0 < x) (hx : x < 1024) (w : World) (hT : GT w) :
    Calls Tryz.prog 78 #[.int .u64 x] w fun e w' => e = .returned (.int .i64 ((Lib.ctz 64 x : Nat) : Int)) ∧ w = w' := by
  obtain ⟨hlow, hk⟩ := Lib.lowest_bit 64 x (by omega) (by omega)
  obtain ⟨hi, htab⟩ := Lib.deBruijn64_at _ hk
  have hcell := hT _ hi
  rw [htab] at hcell
  have C := Lib.hid (tz64_core x _ _ w (by simp; omega) (tz_key x _ (by omega) (by omega) hlow) hi hk hcell)
  have hw : IntKind.u64.wrap (x : Int) = (x : Int) := by rw [IntKind.wrap_u64]; omega
  generalize Lib.ctz 64 x = k at *
  clear hlow hk hi htab hcell hT
  go_enter Tryz.func78, Tryz.ntmps78
  go_wp2_with (go_at_call 111; (with_reducible refine C.out.mono ?_); rintro e w' ⟨rfl, rfl⟩)
  go_ret
  exact ⟨rfl, rfl⟩
end Go.Proofs.YtdfebccmjbocjaaGreatDoor
