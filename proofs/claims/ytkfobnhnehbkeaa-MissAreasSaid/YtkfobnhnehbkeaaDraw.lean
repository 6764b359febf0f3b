/- The walk of Draw of package miss. -/
import Derived.Test.YtkfobnhnehbkeaaDrawLib
import Derived.OwnWalk
namespace Go.Proofs.Ytkfobnhnehbkeaa
open Go.RowKit Go.Shelf

/-- are n and the lots right? -/
def drawB (n : Int) (lots : List Int) : Bool := inB n 0 50 && (decide ((lots.length : Int) ≤ n) && lots.all lotB)
set_option maxRecDepth 100000 in
set_option maxHeartbeats 1000000 in
theorem Draw_range (n : Int) (ad : Option Addr) (b o cap : Nat) (xs : List Int) (w : World) (had : xs ≠ [] → ad = some ⟨b, o, none⟩) (hb : xs ≠ [] → b < w.heap.size) (hn : xs.length ≤ 1000) (ha : IntsAt w b o xs) (h : drawB n xs = false) :
    Calls Try.prog 40 #[.int .i64 n, .slice ad xs.length cap] w fun e w' => e = .returned (.tuple #[.slice none 0 0, .int .i64 2]) ∧ Below w.heap.size w w' := by
  have C68 := Lib.hid (fun w => within_any n 0 50 w)
  have C71 := Lib.hid (allI_any ad b o cap xs w had hb hn ha)
  unfold drawB at h
  clear had hb ha hn
  generalize xs.all lotB = q at *
  generalize xs.length = k at *
  cases h1 : inB n 0 50 with
  | false =>
    rw [h1] at C68
    clear h h1
    go_enter Try.func40, Try.ntmps40
    go_wp2_with (go_at_call 68; (with_reducible refine (C68.out _).mono ?_); rintro e w' ⟨rfl, rfl⟩)
    go_ret2
    exact ⟨rfl, Below.refl _ _⟩
  | true =>
    rw [h1] at C68
    by_cases h2 : (k : Int) ≤ n
    · have t1 : decide (n < (k : Int)) = false := by simp; omega
      obtain rfl : q = false := by simpa [h1, h2] using h
      clear h h1
      go_enter Try.func40, Try.ntmps40
      go_wp2_with (first | (go_at_call 68; (with_reducible refine (C68.out _).mono ?_); rintro e w' ⟨rfl, rfl⟩) | (go_at_call 71; (with_reducible refine C71.out.mono ?_); rintro e w' ⟨rfl, hb⟩; have HB := Lib.hid hb; clear hb))
      go_ret2
      exact ⟨rfl, HB.out⟩
    · have t1 : decide (n < (k : Int)) = true := by simp; omega
      clear h h1
      go_enter Try.func40, Try.ntmps40
      go_wp2_with (first | (go_at_call 68; (with_reducible refine (C68.out _).mono ?_); rintro e w' ⟨rfl, rfl⟩))
      go_ret2
      exact ⟨rfl, Below.refl _ _⟩
end Go.Proofs.Ytkfobnhnehbkeaa
