/- The walks of the small functions of the reference and of the laws of layer 6. -/
import Derived.Test.YtkfobnhnehbkeaaAllInt
namespace Go.Proofs.Ytkfobnhnehbkeaa
open Go.RowKit

set_option maxHeartbeats 400000 in
theorem In_any (n lo hi : Int) (w : World) : Calls Try.prog 23 #[.int .i64 n, .int .i64 lo, .int .i64 hi] w fun e w' => e = .returned (.bool (inB n lo hi)) ∧ w = w' := by
  by_cases h1 : lo ≤ n
  · by_cases h2 : n ≤ hi
    · have h : inB n lo hi = true := inB_iff.2 ⟨h1, h2⟩
      rw [h]
      go_enter Try.func23, Try.ntmps23
      go_wp2
      go_ret
      exact ⟨rfl, rfl⟩
    · have h : inB n lo hi = false := inB_no.2 (fun h => h2 h.2)
      rw [h]
      go_enter Try.func23, Try.ntmps23
      go_wp2
      go_ret
      exact ⟨rfl, rfl⟩
  · have h : inB n lo hi = false := inB_no.2 (fun h => h1 h.1)
    rw [h]
    go_enter Try.func23, Try.ntmps23
    go_wp2
    go_ret
    exact ⟨rfl, rfl⟩

set_option maxHeartbeats 400000 in
theorem rPersons_any (l m : Int) (w : World) : Calls Try.prog 38 #[.int .i64 l, .int .i64 m] w fun e w' => e = .returned (.bool (perB l m)) ∧ w = w' := by
  cases h1 : inB l 0 50 with
  | false =>
    have h : perB l m = false := by simp [perB, h1]
    rw [h]
    go_enter Try.func38, Try.ntmps38
    go_wp2_with (go_at_call 23; refine (In_any _ _ _ _).mono ?_; rintro e w' ⟨rfl, rfl⟩)
    go_ret
    exact ⟨rfl, rfl⟩
  | true =>
    obtain ⟨hb1, hb2⟩ := inB_iff.1 h1
    cases h2 : inB m 0 50 with
    | false =>
      have h : perB l m = false := by
        have h3 := inB_no.1 h2
        simp only [perB, h1, Bool.true_and]
        exact inB_no.2 (by omega)
      rw [h]
      go_enter Try.func38, Try.ntmps38
      go_wp2_with (go_at_call 23; refine (In_any _ _ _ _).mono ?_; rintro e w' ⟨rfl, rfl⟩)
      go_ret
      exact ⟨rfl, rfl⟩
    | true =>
      obtain ⟨hb3, hb4⟩ := inB_iff.1 h2
      have h : perB l m = decide (l + m ≤ 50) := by
        have e : inB m 0 (50 - l) = decide (l + m ≤ 50) := by
          unfold inB; rw [decide_eq_decide]; omega
        rw [← e]; simp [perB, h1]
      rw [h]
      clear h
      go_enter Try.func38, Try.ntmps38
      go_wp2_with (go_at_call 23; refine (In_any _ _ _ _).mono ?_; rintro e w' ⟨rfl, rfl⟩)
      go_ret
      exact ⟨rfl, rfl⟩

set_option maxHeartbeats 400000 in
theorem rIsArea_any (l m s f : Int) (w : World) : Calls Try.prog 42 #[areaV l m s f] w fun e w' => e = .returned (.bool (areaB l m s f)) ∧ Below w.heap.size w w' := by
  cases h1 : perB l m with
  | false =>
    have h : areaB l m s f = false := by simp [areaB, h1]
    rw [h]
    go_enter Try.func42, Try.ntmps42
    go_wp2_with (first | (go_at_call 23; refine (In_any _ _ _ _).mono ?_; rintro e w' ⟨rfl, rfl⟩) | (go_at_call 38; refine (rPersons_any _ _ _).mono ?_; rintro e w' ⟨rfl, rfl⟩))
    go_ret
    exact ⟨rfl, (Below.refl _ _).alloc (Nat.le_refl _) _⟩
  | true =>
    cases h2 : inB s 0 l with
    | false =>
      have h : areaB l m s f = false := by simp [areaB, h1, h2]
      rw [h]
      go_enter Try.func42, Try.ntmps42
      go_wp2_with (first | (go_at_call 23; refine (In_any _ _ _ _).mono ?_; rintro e w' ⟨rfl, rfl⟩) | (go_at_call 38; refine (rPersons_any _ _ _).mono ?_; rintro e w' ⟨rfl, rfl⟩))
      go_ret
      exact ⟨rfl, (Below.refl _ _).alloc (Nat.le_refl _) _⟩
    | true =>
      have h : areaB l m s f = inB f 0 s := by simp [areaB, h1, h2]
      rw [h]
      go_enter Try.func42, Try.ntmps42
      go_wp2_with (first | (go_at_call 23; refine (In_any _ _ _ _).mono ?_; rintro e w' ⟨rfl, rfl⟩) | (go_at_call 38; refine (rPersons_any _ _ _).mono ?_; rintro e w' ⟨rfl, rfl⟩))
      go_ret
      exact ⟨rfl, (Below.refl _ _).alloc (Nat.le_refl _) _⟩

set_option maxHeartbeats 400000 in
theorem rIsLevel_any (n d : Int) (w : World) : Calls Try.prog 33 #[fracV n d] w fun e w' => e = .returned (.bool (levB n d)) ∧ Below w.heap.size w w' := by
  cases h1 : inB d 1 1000 with
  | false =>
    have h : levB n d = false := by simp [levB, h1]
    rw [h]
    go_enter Try.func33, Try.ntmps33
    go_wp2_with (go_at_call 23; refine (In_any _ _ _ _).mono ?_; rintro e w' ⟨rfl, rfl⟩)
    go_ret
    exact ⟨rfl, (Below.refl _ _).alloc (Nat.le_refl _) _⟩
  | true =>
    have h : levB n d = inB n 0 d := by simp [levB, h1]
    rw [h]
    go_enter Try.func33, Try.ntmps33
    go_wp2_with (go_at_call 23; refine (In_any _ _ _ _).mono ?_; rintro e w' ⟨rfl, rfl⟩)
    go_ret
    exact ⟨rfl, (Below.refl _ _).alloc (Nat.le_refl _) _⟩

/-- the error of an area -/
def faultI (l m s f : Int) : Int := if areaB l m s f then 0 else 1
set_option maxHeartbeats 400000 in
theorem fault_any (l m s f : Int) (w : World) : Calls Try.prog 22 #[areaV l m s f] w fun e w' => e = .returned (.int .i64 (faultI l m s f)) ∧ Below w.heap.size w w' := by
  have C := Lib.hid (fun w => rIsArea_any l m s f w)
  unfold faultI
  obtain ⟨b1, b2, b3⟩ := one_new w #[.int .i64 l, .int .i64 m, .int .i64 s, .int .i64 f] 23
  have B2 := Lib.hid b2
  clear b1 b2 b3
  cases h : areaB l m s f with
  | false =>
    rw [h] at C
    clear h
    go_enter Try.func22, Try.ntmps22
    go_wp2_with (go_at_call 42; (with_reducible refine (C.out _).mono ?_); rintro e w' ⟨rfl, hb⟩; have HB := Lib.hid hb; clear hb)
    go_ret
    exact ⟨rfl, B2.out.trans (HB.out.mono B2.out.size)⟩
  | true =>
    rw [h] at C
    clear h
    go_enter Try.func22, Try.ntmps22
    go_wp2_with (go_at_call 42; (with_reducible refine (C.out _).mono ?_); rintro e w' ⟨rfl, hb⟩; have HB := Lib.hid hb; clear hb)
    go_ret
    exact ⟨rfl, B2.out.trans (HB.out.mono B2.out.size)⟩

set_option maxHeartbeats 400000 in
theorem CheckArea_any (l m s f : Int) (w : World) : Calls Try.prog 50 #[areaV l m s f] w fun e w' => e = .returned (.int .i64 (faultI l m s f)) ∧ Below w.heap.size w w' := by
  have C := Lib.hid (fun w => valid_any l m s f w)
  unfold faultI
  obtain ⟨b1, b2, b3⟩ := one_new w #[.int .i64 l, .int .i64 m, .int .i64 s, .int .i64 f] 29
  have B2 := Lib.hid b2
  clear b1 b2 b3
  cases h : areaB l m s f with
  | false =>
    rw [h] at C
    clear h
    go_enter Try.func50, Try.ntmps50
    go_wp2_with (go_at_call 58; (with_reducible refine (C.out _).mono ?_); rintro e w' ⟨rfl, hb⟩; have HB := Lib.hid hb; clear hb)
    go_ret
    exact ⟨rfl, B2.out.trans (HB.out.mono B2.out.size)⟩
  | true =>
    rw [h] at C
    clear h
    go_enter Try.func50, Try.ntmps50
    go_wp2_with (go_at_call 58; (with_reducible refine (C.out _).mono ?_); rintro e w' ⟨rfl, hb⟩; have HB := Lib.hid hb; clear hb)
    go_ret
    exact ⟨rfl, B2.out.trans (HB.out.mono B2.out.size)⟩

theorem Area_any (l m s f : Int) (w : World) : Calls Try.prog 20 #[areaV l m s f] w fun e w' => e = .returned (areaV l m s f) ∧ Below w.heap.size w w' := by
  go_enter Try.func20, Try.ntmps20
  go_wp2
  refine bodyPost_ret (v := areaV l m s f) (by simp [results, Try.results20, go_sem]) rfl ⟨rfl, ?_⟩
  repeat (first | exact Below.refl _ _ | (refine Below.setCell ?_ (by simp) _) | (refine Below.alloc ?_ (by simp) _) | refine Below.drewN' ?_ _ | refine Below.drew ?_)
theorem part_any (n d : Int) (w : World) : Calls Try.prog 25 #[fracV n d] w fun e w' => e = .returned (fracV n d) ∧ Below w.heap.size w w' := by
  go_enter Try.func25, Try.ntmps25
  go_wp2
  refine bodyPost_ret (v := fracV n d) (by simp [results, Try.results25, go_sem]) rfl ⟨rfl, ?_⟩
  repeat (first | exact Below.refl _ _ | (refine Below.setCell ?_ (by simp) _) | (refine Below.alloc ?_ (by simp) _) | refine Below.drewN' ?_ _ | refine Below.drew ?_)
theorem to_any (n d : Int) (w : World) : Calls Try.prog 35 #[fracV n d] w fun e w' => e = .returned (fracV n d) ∧ Below w.heap.size w w' := by
  go_enter Try.func35, Try.ntmps35
  go_wp2
  refine bodyPost_ret (v := fracV n d) (by simp [results, Try.results35, go_sem]) rfl ⟨rfl, ?_⟩
  repeat (first | exact Below.refl _ _ | (refine Below.setCell ?_ (by simp) _) | (refine Below.alloc ?_ (by simp) _) | refine Below.drewN' ?_ _ | refine Below.drew ?_)
theorem over_any (n d : Int) (w : World) : Calls Try.prog 46 #[.int .i64 n, .int .i64 d] w fun e w' => e = .returned (fracV n d) ∧ Below w.heap.size w w' := by
  go_enter Try.func46, Try.ntmps46
  go_wp2
  refine bodyPost_ret (v := fracV n d) (by simp [results, Try.results46, go_sem]) rfl ⟨rfl, ?_⟩
  repeat (first | exact Below.refl _ _ | (refine Below.setCell ?_ (by simp) _) | (refine Below.alloc ?_ (by simp) _) | refine Below.drewN' ?_ _ | refine Below.drew ?_)
theorem between_any (n d : Int) (w : World) : Calls Try.prog 47 #[.int .i64 n, .int .i64 d] w fun e w' => e = .returned (fracV n d) ∧ Below w.heap.size w w' := by
  go_enter Try.func47, Try.ntmps47
  go_wp2
  refine bodyPost_ret (v := fracV n d) (by simp [results, Try.results47, go_sem]) rfl ⟨rfl, ?_⟩
  repeat (first | exact Below.refl _ _ | (refine Below.setCell ?_ (by simp) _) | (refine Below.alloc ?_ (by simp) _) | refine Below.drewN' ?_ _ | refine Below.drew ?_)
theorem ten_any (w : World) : Calls Try.prog 51 #[] w fun e w' => e = .returned (areaV 10 5 4 3) ∧ Below w.heap.size w w' := by
  go_enter Try.func51, Try.ntmps51
  go_wp2
  refine bodyPost_ret (v := areaV 10 5 4 3) (by simp [results, Try.results51, go_sem]) rfl ⟨rfl, ?_⟩
  repeat (first | exact Below.refl _ _ | (refine Below.setCell ?_ (by simp) _) | (refine Below.alloc ?_ (by simp) _) | refine Below.drewN' ?_ _ | refine Below.drew ?_)
end Go.Proofs.Ytkfobnhnehbkeaa
