/- sheet: minimum, maximum, ranges. -/
import Derived.Test.YtdfebccmjbocjaaGreatDoorZs
import Derived.Test.YtdfebccmjbocjaaGreatDoorZb
set_option linter.unusedVariables false
set_option linter.unusedSimpArgs false
namespace Go.Proofs.YtdfebccmjbocjaaGreatDoor
open Go.RowKit Go.Shelf
abbrev rngV (a b : Int) : Value := .agg #[.int .i64 a, .int .i64 b]
theorem minimum_s (b c : Nat) (p q : Int) (w : World) (h0 : w.cell? ⟨b, 0, none⟩ = some (.int .i64 p)) (h1 : w.cell? ⟨b, 1, none⟩ = some (.int .i64 q)) :
    Calls Tryz.prog 105 #[.slice (some ⟨b, 0, none⟩) 2 c] w fun e w' => e = .returned (.int .i64 (min p q)) ∧ w = w' := by
  have C := Lib.hid (Tryz.slices_Min_int b 0 2 c [p, q] w (by omega) (by simp) (by omega) (fun j hj => by
    match j, hj with
    | 0, _ => simpa using h0
    | 1, _ => simpa using h1))
  have e : Lib.minOf ([p, q].take 2) = min p q := by
    unfold Lib.minOf
    show min (min p p) q = _
    omega
  rw [e] at C
  clear e h0 h1
  generalize min p q = r at *
  go_enter Tryz.func105, Tryz.ntmps105
  go_wp2_with (go_at_call 144; (with_reducible refine C.out.mono ?_); rintro e w' ⟨rfl, rfl⟩)
  go_ret
  exact ⟨rfl, rfl⟩
theorem maximum_s (b c : Nat) (p q : Int) (w : World) (h0 : w.cell? ⟨b, 0, none⟩ = some (.int .i64 p)) (h1 : w.cell? ⟨b, 1, none⟩ = some (.int .i64 q)) :
    Calls Tryz.prog 106 #[.slice (some ⟨b, 0, none⟩) 2 c] w fun e w' => e = .returned (.int .i64 (max p q)) ∧ w = w' := by
  have C := Lib.hid (Tryz.slices_Max_int b 0 2 c [p, q] w (by omega) (by simp) (by omega) (fun j hj => by
    match j, hj with
    | 0, _ => simpa using h0
    | 1, _ => simpa using h1))
  have e : Lib.maxOf ([p, q].take 2) = max p q := by
    unfold Lib.maxOf
    show max (max p p) q = _
    omega
  rw [e] at C
  clear e h0 h1
  generalize max p q = r at *
  go_enter Tryz.func106, Tryz.ntmps106
  go_wp2_with (go_at_call 145; (with_reducible refine C.out.mono ?_); rintro e w' ⟨rfl, rfl⟩)
  go_ret
  exact ⟨rfl, rfl⟩
theorem above_s (a b n : Int) (w : World) : Calls Tryz.prog 68 #[rngV a b, .int .i64 n] w fun e w' => e = .returned (.int .i64 (max a n)) ∧ Below w.heap.size w w' := by
  obtain ⟨b1, b2, b3, b4⟩ := two_new w #[.int .i64 a, .int .i64 b] #[.int .i64 a, .int .i64 n] 48 3
  have C := Lib.hid (maximum_s (w.heap.size + 1) 2 a n _ (b2.cell 0) (b2.cell 1))
  have B3 := Lib.hid b3
  clear b1 b2 b3 b4
  generalize max a n = r at *
  go_enter Tryz.func68, Tryz.ntmps68
  go_wp2_with (go_at_call 106; (with_reducible refine C.out.mono ?_); rintro e w' ⟨rfl, rfl⟩)
  go_ret
  exact ⟨rfl, B3.out⟩
theorem below_s (a b n : Int) (w : World) : Calls Tryz.prog 69 #[rngV a b, .int .i64 n] w fun e w' => e = .returned (.int .i64 (min b n)) ∧ Below w.heap.size w w' := by
  obtain ⟨b1, b2, b3, b4⟩ := two_new w #[.int .i64 a, .int .i64 b] #[.int .i64 b, .int .i64 n] 48 3
  have C := Lib.hid (minimum_s (w.heap.size + 1) 2 b n _ (b2.cell 0) (b2.cell 1))
  have B3 := Lib.hid b3
  clear b1 b2 b3 b4
  generalize min b n = r at *
  go_enter Tryz.func69, Tryz.ntmps69
  go_wp2_with (go_at_call 105; (with_reducible refine C.out.mono ?_); rintro e w' ⟨rfl, rfl⟩)
  go_ret
  exact ⟨rfl, B3.out⟩
end Go.Proofs.YtdfebccmjbocjaaGreatDoor
