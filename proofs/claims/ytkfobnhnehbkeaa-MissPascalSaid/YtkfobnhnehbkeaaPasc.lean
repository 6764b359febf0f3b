/- The walk of the statement on Pascal's triangle. -/
import Derived.Test.YtkfobnhnehbkeaaKeep
namespace Go.Proofs.Ytkfobnhnehbkeaa
open Go.RowKit Go.Shelf
open Mis (ch)

set_option maxRecDepth 100000 in
set_option maxHeartbeats 1000000 in
theorem MissPascal_zero (a b : Int) (M J : Nat) (w : World) (ha : 0 ≤ a ∧ a ≤ 255) (hb : 0 ≤ b ∧ b ≤ 255) (hm : a % 60 = M) (hj : b % 61 = J) (_hM : M ≤ 59) (hJ : J ≤ 60) (hJ0 : J = 0) :
    Calls Try.prog 16 #[.int .u8 a, .int .u8 b] w fun e w' => e = .returned (.bool true) ∧ Below w.heap.size w w' := by
  obtain ⟨ha1, ha2⟩ := ha
  obtain ⟨hb1, hb2⟩ := hb
  have C := Lib.hid (fun w => Ways_ok M J w (by omega) hJ)
  have C0 := Lib.hid (show ∀ w, Calls Try.prog 49 #[.int .i64 M, .int .i64 0] w fun e w' => e = .returned (.tuple #[.int .i64 1, .int .i64 0]) ∧ Below w.heap.size w w' from fun w => by have h := Ways_ok M 0 w (by omega) (by omega); rw [Mis.ch_zero] at h; exact h)
  have CS := Lib.hid (show ∀ w, Calls Try.prog 49 #[.int .i64 M, .int .i64 ((M : Int) - (J : Int))] w fun e w' => e = .returned (.tuple #[.int .i64 (ch M J), .int .i64 0]) ∧ Below w.heap.size w w' from fun w => by
    have h := Ways_ok M (M - J) w (by omega) (by omega)
    rw [Mis.ch_sub M J (by omega), show ((M - J : Nat) : Int) = (M : Int) - (J : Int) by omega] at h
    exact h)
  have t1 : decide ((M : Int) < (J : Int)) = false := by simp; omega
  have t2 : decide ((J : Int) ≤ (M : Int)) = true := by simp; omega
  have t3 : decide (M < J) = false := by simp; omega
  have t4 : decide (J ≤ M) = true := by simp; omega
  have t5 : ((J : Int) == 0) = true := by simp; exact hJ0
  clear hJ0
  generalize ch M J = A at *
  go_enter Try.func16, Try.ntmps16
  go_wp2_with (first | (go_at_call 49; (with_reducible refine (C.out _).mono ?_); rintro e w1 ⟨rfl, h1⟩; have H1 := Lib.hid h1; clear h1) | (go_at_call 49; (with_reducible refine (C0.out _).mono ?_); rintro e w2 ⟨rfl, h2⟩; have H2 := Lib.hid (H1.out.trans (h2.mono H1.out.size)); clear h2) | (go_at_call 49; (with_reducible refine (CS.out _).mono ?_); rintro e w3 ⟨rfl, h3⟩; have H3 := Lib.hid (H2.out.trans (h3.mono H2.out.size)); clear h3) | (go_at_call 24; (with_reducible refine (awake_any _).mono ?_); rintro e w9 ⟨rfl, h9⟩; have H9 := Lib.hid (H3.out.trans (h9.mono H3.out.size)); clear h9))
  go_ret
  exact ⟨rfl, H9.out⟩
set_option maxRecDepth 100000 in
set_option maxHeartbeats 1000000 in
theorem MissPascal_le (a b : Int) (M J : Nat) (w : World) (ha : 0 ≤ a ∧ a ≤ 255) (hb : 0 ≤ b ∧ b ≤ 255) (hm : a % 60 = M) (hj : b % 61 = J) (_hM : M ≤ 59) (hJ : J ≤ 60) (hJ0 : 0 < J) (hJM : J ≤ M) :
    Calls Try.prog 16 #[.int .u8 a, .int .u8 b] w fun e w' => e = .returned (.bool true) ∧ Below w.heap.size w w' := by
  obtain ⟨ha1, ha2⟩ := ha
  obtain ⟨hb1, hb2⟩ := hb
  have C := Lib.hid (fun w => Ways_ok M J w (by omega) hJ)
  have C0 := Lib.hid (show ∀ w, Calls Try.prog 49 #[.int .i64 M, .int .i64 0] w fun e w' => e = .returned (.tuple #[.int .i64 1, .int .i64 0]) ∧ Below w.heap.size w w' from fun w => by have h := Ways_ok M 0 w (by omega) (by omega); rw [Mis.ch_zero] at h; exact h)
  have CS := Lib.hid (show ∀ w, Calls Try.prog 49 #[.int .i64 M, .int .i64 ((M : Int) - (J : Int))] w fun e w' => e = .returned (.tuple #[.int .i64 (ch M J), .int .i64 0]) ∧ Below w.heap.size w w' from fun w => by
    have h := Ways_ok M (M - J) w (by omega) (by omega)
    rw [Mis.ch_sub M J (by omega), show ((M - J : Nat) : Int) = (M : Int) - (J : Int) by omega] at h
    exact h)
  have CP := Lib.hid (show ∀ w, Calls Try.prog 49 #[.int .i64 M, .int .i64 ((J : Int) - 1)] w fun e w' => e = .returned (.tuple #[.int .i64 (ch M (J - 1)), .int .i64 0]) ∧ Below w.heap.size w w' from fun w => by
    have h := Ways_ok M (J - 1) w (by omega) (by omega)
    rw [show ((J - 1 : Nat) : Int) = (J : Int) - 1 by omega] at h
    exact h)
  have CN := Lib.hid (show ∀ w, Calls Try.prog 49 #[.int .i64 ((M : Int) + 1), .int .i64 J] w fun e w' => e = .returned (.tuple #[.int .i64 ((ch M J : Int) + (ch M (J - 1) : Int)), .int .i64 0]) ∧ Below w.heap.size w w' from fun w => by
    have h := Ways_ok (M + 1) J w (by omega) (by omega)
    have e : ch (M + 1) J = ch M (J - 1) + ch M J := by
      obtain ⟨i, rfl⟩ : ∃ i, J = i + 1 := ⟨J - 1, by omega⟩
      rfl
    rw [e, show ((M + 1 : Nat) : Int) = (M : Int) + 1 by omega, show ((ch M (J - 1) + ch M J : Nat) : Int) = (ch M J : Int) + (ch M (J - 1) : Int) by omega] at h
    exact h)
  have bA := ch60 M J (by omega)
  have bB := ch60 M (J - 1) (by omega)
  have t1 : decide ((M : Int) < (J : Int)) = false := by simp; omega
  have t2 : decide ((J : Int) ≤ (M : Int)) = true := by simp; omega
  have t3 : decide (M < J) = false := by simp; omega
  have t4 : decide (J ≤ M) = true := by simp; omega
  have t5 : ((J : Int) == 0) = false := by simp; omega
  generalize ch M J = A at *
  generalize ch M (J - 1) = B at *
  go_enter Try.func16, Try.ntmps16
  go_wp2_with (first | (go_at_call 49; (with_reducible refine (C.out _).mono ?_); rintro e w1 ⟨rfl, h1⟩; have H1 := Lib.hid h1; clear h1) | (go_at_call 49; (with_reducible refine (C0.out _).mono ?_); rintro e w2 ⟨rfl, h2⟩; have H2 := Lib.hid (H1.out.trans (h2.mono H1.out.size)); clear h2) | (go_at_call 49; (with_reducible refine (CS.out _).mono ?_); rintro e w3 ⟨rfl, h3⟩; have H3 := Lib.hid (H2.out.trans (h3.mono H2.out.size)); clear h3) | (go_at_call 49; (with_reducible refine (CP.out _).mono ?_); rintro e w4 ⟨rfl, h4⟩; have H4 := Lib.hid (H3.out.trans (h4.mono H3.out.size)); clear h4) | (go_at_call 49; (with_reducible refine (CN.out _).mono ?_); rintro e w5 ⟨rfl, h5⟩; have H5 := Lib.hid (H4.out.trans (h5.mono H4.out.size)); clear h5) | (go_at_call 24; (with_reducible refine (awake_any _).mono ?_); rintro e w9 ⟨rfl, h9⟩; have H9 := Lib.hid (H5.out.trans (h9.mono H5.out.size)); clear h9))
  go_ret
  exact ⟨rfl, H9.out⟩
set_option maxRecDepth 100000 in
set_option maxHeartbeats 1000000 in
theorem MissPascal_gt (a b : Int) (M J : Nat) (w : World) (ha : 0 ≤ a ∧ a ≤ 255) (hb : 0 ≤ b ∧ b ≤ 255) (hm : a % 60 = M) (hj : b % 61 = J) (_hM : M ≤ 59) (hJ : J ≤ 60) (hJM : M < J) :
    Calls Try.prog 16 #[.int .u8 a, .int .u8 b] w fun e w' => e = .returned (.bool true) ∧ Below w.heap.size w w' := by
  obtain ⟨ha1, ha2⟩ := ha
  obtain ⟨hb1, hb2⟩ := hb
  have C := Lib.hid (fun w => Ways_ok M J w (by omega) hJ)
  have C0 := Lib.hid (show ∀ w, Calls Try.prog 49 #[.int .i64 M, .int .i64 0] w fun e w' => e = .returned (.tuple #[.int .i64 1, .int .i64 0]) ∧ Below w.heap.size w w' from fun w => by have h := Ways_ok M 0 w (by omega) (by omega); rw [Mis.ch_zero] at h; exact h)
  have CP := Lib.hid (show ∀ w, Calls Try.prog 49 #[.int .i64 M, .int .i64 ((J : Int) - 1)] w fun e w' => e = .returned (.tuple #[.int .i64 (ch M (J - 1)), .int .i64 0]) ∧ Below w.heap.size w w' from fun w => by
    have h := Ways_ok M (J - 1) w (by omega) (by omega)
    rw [show ((J - 1 : Nat) : Int) = (J : Int) - 1 by omega] at h
    exact h)
  have CN := Lib.hid (show ∀ w, Calls Try.prog 49 #[.int .i64 ((M : Int) + 1), .int .i64 J] w fun e w' => e = .returned (.tuple #[.int .i64 ((ch M J : Int) + (ch M (J - 1) : Int)), .int .i64 0]) ∧ Below w.heap.size w w' from fun w => by
    have h := Ways_ok (M + 1) J w (by omega) (by omega)
    have e : ch (M + 1) J = ch M (J - 1) + ch M J := by
      obtain ⟨i, rfl⟩ : ∃ i, J = i + 1 := ⟨J - 1, by omega⟩
      rfl
    rw [e, show ((M + 1 : Nat) : Int) = (M : Int) + 1 by omega, show ((ch M (J - 1) + ch M J : Nat) : Int) = (ch M J : Int) + (ch M (J - 1) : Int) by omega] at h
    exact h)
  have bA := ch60 M J (by omega)
  have bB := ch60 M (J - 1) (by omega)
  have t1 : decide ((M : Int) < (J : Int)) = true := by simp; omega
  have t2 : decide ((J : Int) ≤ (M : Int)) = false := by simp; omega
  have t3 : decide (M < J) = true := by simp; omega
  have t4 : decide (J ≤ M) = false := by simp; omega
  have t5 : ((J : Int) == 0) = false := by simp; omega
  have hA : ch M J = 0 := Mis.ch_lt M J hJM
  rw [hA] at C CN
  clear hA bA
  generalize ch M (J - 1) = B at *
  go_enter Try.func16, Try.ntmps16
  go_wp2_with (first | (go_at_call 49; (with_reducible refine (C.out _).mono ?_); rintro e w1 ⟨rfl, h1⟩; have H1 := Lib.hid h1; clear h1) | (go_at_call 49; (with_reducible refine (C0.out _).mono ?_); rintro e w2 ⟨rfl, h2⟩; have H2 := Lib.hid (H1.out.trans (h2.mono H1.out.size)); clear h2) | (go_at_call 49; (with_reducible refine (CP.out _).mono ?_); rintro e w4 ⟨rfl, h4⟩; have H4 := Lib.hid (H2.out.trans (h4.mono H2.out.size)); clear h4) | (go_at_call 49; (with_reducible refine (CN.out _).mono ?_); rintro e w5 ⟨rfl, h5⟩; have H5 := Lib.hid (H4.out.trans (h5.mono H4.out.size)); clear h5) | (go_at_call 24; (with_reducible refine (awake_any _).mono ?_); rintro e w9 ⟨rfl, h9⟩; have H9 := Lib.hid (H5.out.trans (h9.mono H5.out.size)); clear h9))
  go_ret
  exact ⟨rfl, H9.out⟩
theorem MissPascal_walk (a b : Int) (w : World) (ha : (Lit.int .u8 a).wf = true) (hb : (Lit.int .u8 b).wf = true) : Calls Try.prog 16 #[.int .u8 a, .int .u8 b] w fun e w' => e = .returned (.bool true) ∧ Below w.heap.size w w' := by
  have h1 : 0 ≤ a ∧ a ≤ 255 := by simp [Lit.wf] at ha; exact ha
  have h2 : 0 ≤ b ∧ b ≤ 255 := by simp [Lit.wf] at hb; exact hb
  obtain ⟨M, hM⟩ : ∃ M : Nat, a % 60 = M := ⟨(a % 60).toNat, by omega⟩
  obtain ⟨J, hJ⟩ : ∃ J : Nat, b % 61 = J := ⟨(b % 61).toNat, by omega⟩
  by_cases h3 : J = 0
  · exact MissPascal_zero a b M J w h1 h2 hM hJ (by omega) (by omega) h3
  · by_cases h4 : J ≤ M
    · exact MissPascal_le a b M J w h1 h2 hM hJ (by omega) (by omega) (by omega) h4
    · exact MissPascal_gt a b M J w h1 h2 hM hJ (by omega) (by omega) (by omega)
end Go.Proofs.Ytkfobnhnehbkeaa
