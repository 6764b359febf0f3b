/- book.ways and Ways of package miss. -/
import Derived.Test.YtkfobnhnehbkeaaWays
import Derived.Laws.EntriesVeiled
namespace Go.Proofs.Ytkfobnhnehbkeaa
open Go.RowKit
open Mis (ch)
set_option maxHeartbeats 400000 in
/-- book.ways, by its map -/
theorem ways_any (mb n k : Nat) (w : World) (hn : n ≤ 60) (hk : k ≤ 60) (hm : Memo w mb) :
    Calls Try.prog 74 #[.agg #[.map (some mb)], .int .i64 n, .int .i64 k] w fun e w' => e = .returned (.int .i64 (ch n k)) ∧ Memo w' mb ∧ w.grownBy w' (some mb) := by
  go_enter Try.func74, Try.ntmps74
  go_wp2_with fail
  refine (from_any mb w.heap.size (w.heap.size + 1) n hn k _ hk ⟨((hm.alloc _).alloc _), ?_, ?_⟩).mono ?_
  · simp
  · simp
  rintro e w1 ⟨rfl, hm1, hg1⟩
  go_wp2
  go_ret
  exact ⟨rfl, hm1, ((World.grownBy_alloc w _ _).trans' (World.grownBy_alloc _ _ _)).trans' hg1⟩

set_option maxHeartbeats 400000 in
theorem Ways_ok (n k : Nat) (w : World) (hn : n ≤ 60) (hk : k ≤ 60) :
    Calls Try.prog 49 #[.int .i64 n, .int .i64 k] w fun e w' => e = .returned (.tuple #[.int .i64 (ch n k), .int .i64 0]) ∧ Below w.heap.size w w' := by
  have h1 : inB n 0 60 = true := inB_iff.2 ⟨by omega, by omega⟩
  have h2 : inB k 0 60 = true := inB_iff.2 ⟨by omega, by omega⟩
  have hmm := @run_makeMap Try.prog
  go_enter Try.func49, Try.ntmps49
  go_wp2_with (go_at_call 68; refine (within_any _ _ _ _).mono ?_; rintro e w' ⟨rfl, rfl⟩)
  refine (ways_any w.heap.size n k _ hn hk (Memo.made w)).mono ?_
  rintro e w1 ⟨rfl, hm1, hg1⟩
  go_wp2
  go_ret2
  exact ⟨rfl, ((Below.refl _ _).alloc (Nat.le_refl _) _).grown hg1 (by simp) (fun k e => by cases e; exact Nat.le_refl _)⟩
set_option maxHeartbeats 400000 in
theorem Ways_bad (n k : Int) (w : World) (h : (inB n 0 60 && inB k 0 60) = false) :
    Calls Try.prog 49 #[.int .i64 n, .int .i64 k] w fun e w' => e = .returned (.tuple #[.int .i64 0, .int .i64 2]) ∧ Below w.heap.size w w' := by
  cases h1 : inB n 0 60 with
  | false =>
    go_enter Try.func49, Try.ntmps49
    go_wp2_with (go_at_call 68; refine (within_any _ _ _ _).mono ?_; rintro e w' ⟨rfl, rfl⟩)
    go_ret2
    exact ⟨rfl, Below.refl _ _⟩
  | true =>
    have h2 : inB k 0 60 = false := by simpa [h1] using h
    clear h
    go_enter Try.func49, Try.ntmps49
    go_wp2_with (go_at_call 68; refine (within_any _ _ _ _).mono ?_; rintro e w' ⟨rfl, rfl⟩)
    go_ret2
    exact ⟨rfl, Below.refl _ _⟩
end Go.Proofs.Ytkfobnhnehbkeaa
