/- The walk of Enough of package miss: the errors. -/
import Derived.Test.YtkfobnhnehbkeaaTotal2
import Derived.Scope
namespace Go.Proofs.Ytkfobnhnehbkeaa
open Go.RowKit
open Mis (ch sets tot sm low up lower)

/-- are listed, most, missed and level right? -/
def enoB (L M u n d : Int) : Bool := perB L M && inB u 0 M && levB n d
set_option maxRecDepth 100000 in
set_option maxHeartbeats 1000000 in
theorem Enough_range (L M u n d : Int) (w : World) (h : enoB L M u n d = false) :
    Calls Try.prog 37 #[.int .i64 L, .int .i64 M, .int .i64 u, fracV n d] w fun e w' => e = .returned (.tuple #[.int .i64 0, .int .i64 2]) ∧ Below w.heap.size w w' := by
  have C67 := Lib.hid (fun w => persons_any L M w)
  have C68 := Lib.hid (fun w => within_any u 0 M w)
  have C64 := Lib.hid (fun w => level_any n d w)
  unfold enoB at h
  have HB := Lib.hid (((Below.refl _ w).alloc (Nat.le_refl _) (.cells #[.int .i64 u] 3)).alloc (by simp) (.cells #[.int .i64 n, .int .i64 d] 25))
  refine (callsIn_wide (n := 8)).1 ?_
  cases h1 : perB L M with
  | false =>
    rw [h1] at C67
    clear h h1
    refine callsIn_of_wp_marks Try.func37 rfl trivial ?_ rfl
    simp only [Try.ntmps37, List.size_toArray, List.length_cons, List.length_nil, Nat.reduceAdd, Nat.reduceSub, Array.replicate_succ, Array.replicate_zero, List.push_toArray, List.append_toArray, List.nil_append, List.cons_append]
    gi_wp2_with fail
    refine wpIn_wide.2 (wp_scope_straight ((wpIn_wide (n := 8)).1 ?_))
    gi_wp2_with (first
      | (refine ⟨trivial, ?_⟩; gi_at_call 67; (with_reducible refine (callsIn_wide.2 (C67.out _)).mono ?_); rintro e w1 ⟨rfl, rfl⟩)
      | (refine ⟨trivial, ?_⟩; gi_at_call 68; (with_reducible refine (callsIn_wide.2 (C68.out _)).mono ?_); rintro e w1 ⟨rfl, rfl⟩)
      | (refine ⟨trivial, ?_⟩; gi_at_call 64; (with_reducible refine (callsIn_wide.2 (C64.out _)).mono ?_); rintro e w1 ⟨rfl, hb1⟩; have HB1 := Lib.hid hb1; clear hb1))
    refine ⟨trivial, ?_⟩
    gi_wp2_with fail
    refine ⟨trivial, ?_⟩
    gi_wp2_with fail
    exact ⟨_, results_tmp2 rfl _ _ _, rfl, HB.out⟩
  | true =>
    rw [h1] at C67
    cases h2 : inB u 0 M with
    | false =>
      rw [h2] at C68
      clear h h1 h2
      refine callsIn_of_wp_marks Try.func37 rfl trivial ?_ rfl
      simp only [Try.ntmps37, List.size_toArray, List.length_cons, List.length_nil, Nat.reduceAdd, Nat.reduceSub, Array.replicate_succ, Array.replicate_zero, List.push_toArray, List.append_toArray, List.nil_append, List.cons_append]
      gi_wp2_with fail
      refine wpIn_wide.2 (wp_scope_straight ((wpIn_wide (n := 8)).1 ?_))
      gi_wp2_with (first
      | (refine ⟨trivial, ?_⟩; gi_at_call 67; (with_reducible refine (callsIn_wide.2 (C67.out _)).mono ?_); rintro e w1 ⟨rfl, rfl⟩)
      | (refine ⟨trivial, ?_⟩; gi_at_call 68; (with_reducible refine (callsIn_wide.2 (C68.out _)).mono ?_); rintro e w1 ⟨rfl, rfl⟩)
      | (refine ⟨trivial, ?_⟩; gi_at_call 64; (with_reducible refine (callsIn_wide.2 (C64.out _)).mono ?_); rintro e w1 ⟨rfl, hb1⟩; have HB1 := Lib.hid hb1; clear hb1))
      refine ⟨trivial, ?_⟩
      gi_wp2_with fail
      exact ⟨_, results_tmp2 rfl _ _ _, rfl, HB.out⟩
    | true =>
      have h3 : levB n d = false := by simpa [h1, h2] using h
      rw [h2] at C68
      rw [h3] at C64
      clear h h1 h2 h3
      refine callsIn_of_wp_marks Try.func37 rfl trivial ?_ rfl
      simp only [Try.ntmps37, List.size_toArray, List.length_cons, List.length_nil, Nat.reduceAdd, Nat.reduceSub, Array.replicate_succ, Array.replicate_zero, List.push_toArray, List.append_toArray, List.nil_append, List.cons_append]
      gi_wp2_with fail
      refine wpIn_wide.2 (wp_scope_straight ((wpIn_wide (n := 8)).1 ?_))
      gi_wp2_with (first
      | (refine ⟨trivial, ?_⟩; gi_at_call 67; (with_reducible refine (callsIn_wide.2 (C67.out _)).mono ?_); rintro e w1 ⟨rfl, rfl⟩)
      | (refine ⟨trivial, ?_⟩; gi_at_call 68; (with_reducible refine (callsIn_wide.2 (C68.out _)).mono ?_); rintro e w1 ⟨rfl, rfl⟩)
      | (refine ⟨trivial, ?_⟩; gi_at_call 64; (with_reducible refine (callsIn_wide.2 (C64.out _)).mono ?_); rintro e w1 ⟨rfl, hb1⟩; have HB1 := Lib.hid hb1; clear hb1))
      exact ⟨_, results_tmp2 rfl _ _ _, rfl, HB.out.trans (HB1.out.mono HB.out.size)⟩
end Go.Proofs.Ytkfobnhnehbkeaa
