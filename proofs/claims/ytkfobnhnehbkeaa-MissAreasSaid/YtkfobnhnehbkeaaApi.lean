/- Chance and Tail of package miss at every argument. -/
import Derived.Test.YtkfobnhnehbkeaaInts
namespace Go.Proofs.Ytkfobnhnehbkeaa
open Go.RowKit Go.Shelf
open Mis (ch sets tot sm low up)

def okA (l M s f : Nat) : Prop := l + M ≤ 50 ∧ s ≤ l ∧ f ≤ s
theorem okA.b {l M s f : Nat} (h : okA l M s f) : areaB l M s f = true := by
  unfold okA at h; simp [areaB, perB, inB]; omega
theorem okA.of {L M S F : Int} (h : areaB L M S F = true) : ∃ l m s f : Nat, L = l ∧ M = m ∧ S = s ∧ F = f ∧ okA l m s f := by
  obtain ⟨h1, h2, h3, h4, h5, h6, h7⟩ := area_nat h
  exact ⟨_, _, _, _, h1, h2, h3, h4, h5, h6, h7⟩
theorem inU {u M : Nat} (h : u ≤ M) : inB (u : Int) 0 (M : Int) = true := by simp [inB]; omega
theorem bigT {l u s : Nat} (h : l + u ≤ 50) : tot l u s ≤ 4611686018427387904 := Nat.le_trans (tot_le l u s h) (by omega)
/-- what a tail's chance is -/
def ChPost (N D : Nat) (w : World) (e : Ending) (w' : World) : Prop := e = .returned (.tuple #[lowV N D, .int .i64 0]) ∧ Below w.heap.size w w'
def ChBad (r : Int) (w : World) (e : Ending) (w' : World) : Prop := e = .returned (.tuple #[fracV 0 0, .int .i64 r]) ∧ Below w.heap.size w w'
theorem Chance_ok {l M s f : Nat} (h : okA l M s f) {u : Nat} (hu : u ≤ M) (w : World) : Calls Try.prog 19 #[areaV l M s f, .int .i64 u] w (ChPost (sm (sets l u s) f 1) (tot l u s) w) := by
  have hb := h.b
  obtain ⟨h1, h2, h3⟩ := h
  exact Chance_walk l M s f u _ _ 0 w fun w => asked_ok M l u s f _ _ _ 53 rfl w hb (inU hu) (says_point M l u s f (by omega) h2 h3) (Mis.tot_pos l u s h2) (Nat.le_trans (num_le l s f u h3) (bigT (by omega))) (bigT (by omega))
theorem Most_ok {l M s f : Nat} (h : okA l M s f) {u : Nat} (hu : u ≤ M) (w : World) : Calls Try.prog 21 #[areaV l M s f, .int .i64 u, .bool true] w (ChPost (low l u s f) (tot l u s) w) := by
  have hb := h.b
  obtain ⟨h1, h2, h3⟩ := h
  exact Tail_most l M s f u _ _ 0 w fun w => asked_ok M l u s f _ _ _ 54 rfl w hb (inU hu) (says_lower M l u s f (by omega) h2 h3) (Mis.tot_pos l u s h2) (Nat.le_trans (Mis.low_le l u s f h3) (bigT (by omega))) (bigT (by omega))
theorem Least_ok {l M s f : Nat} (h : okA l M s f) {u : Nat} (hu : u ≤ M) (w : World) : Calls Try.prog 21 #[areaV l M s f, .int .i64 u, .bool false] w (ChPost (up l u s f) (tot l u s) w) := by
  have hb := h.b
  obtain ⟨h1, h2, h3⟩ := h
  exact Tail_least l M s f u _ _ 0 w fun w => asked_ok M l u s f _ _ _ 55 rfl w hb (inU hu) (says_upper M l u s f (by omega) h2 h3) (Mis.tot_pos l u s h2) (Nat.le_trans (Mis.up_le l u s f h3) (bigT (by omega))) (bigT (by omega))
theorem Chance_arg {L M S F : Int} (u : Int) (w : World) (h : areaB L M S F = false) : Calls Try.prog 19 #[areaV L M S F, .int .i64 u] w (ChBad 1 w) :=
  Chance_walk L M S F u 0 0 1 w fun w => asked_arg L M S F u _ 53 rfl w h
theorem Most_arg {L M S F : Int} (u : Int) (w : World) (h : areaB L M S F = false) : Calls Try.prog 21 #[areaV L M S F, .int .i64 u, .bool true] w (ChBad 1 w) :=
  Tail_most L M S F u 0 0 1 w fun w => asked_arg L M S F u _ 54 rfl w h
theorem Least_arg {L M S F : Int} (u : Int) (w : World) (h : areaB L M S F = false) : Calls Try.prog 21 #[areaV L M S F, .int .i64 u, .bool false] w (ChBad 1 w) :=
  Tail_least L M S F u 0 0 1 w fun w => asked_arg L M S F u _ 55 rfl w h
theorem Chance_range {L M S F u : Int} (w : World) (h : areaB L M S F = true) (hu : inB u 0 M = false) : Calls Try.prog 19 #[areaV L M S F, .int .i64 u] w (ChBad 2 w) :=
  Chance_walk L M S F u 0 0 2 w fun w => asked_range L M S F u _ 53 rfl w h hu
theorem Most_range {L M S F u : Int} (w : World) (h : areaB L M S F = true) (hu : inB u 0 M = false) : Calls Try.prog 21 #[areaV L M S F, .int .i64 u, .bool true] w (ChBad 2 w) :=
  Tail_most L M S F u 0 0 2 w fun w => asked_range L M S F u _ 54 rfl w h hu
theorem Least_range {L M S F u : Int} (w : World) (h : areaB L M S F = true) (hu : inB u 0 M = false) : Calls Try.prog 21 #[areaV L M S F, .int .i64 u, .bool false] w (ChBad 2 w) :=
  Tail_least L M S F u 0 0 2 w fun w => asked_range L M S F u _ 55 rfl w h hu
/-- an owned row of numbers is a row of numbers -/
theorem ownsRow_ints {w : World} {base n g cap : Nat} {xs : List Int} (h : w.ownsRow base 3 1 (.slice (some ⟨g, 0, none⟩) n cap) n (xs.map (Value.int .i64))) : IntsAt w g 0 xs := fun i a e => by
  have hl : (xs.map (Value.int .i64)).length = n * 1 := h.1
  have hi : i < xs.length := (List.getElem?_eq_some_iff.1 e).1
  rw [Nat.zero_add, h.cellAt i (by simp at hl; omega), List.getElem?_map, e]; rfl
theorem intsV_eq (xs : List Nat) : intsV xs = (intsL xs).map (Value.int .i64) := by simp [intsV, intsL]
end Go.Proofs.Ytkfobnhnehbkeaa
