/- The walk of the statement on the document's examples. -/
import Derived.Test.YtkfobnhnehbkeaaKeepZ
namespace Go.Proofs.Ytkfobnhnehbkeaa
open Go.RowKit Go.Shelf
open Mis (ch sets tot sm low up)

theorem KZ.alloc {w W : World} {bs : List (Nat × Array Value × TypeId)} {b : Nat} {cs : Array Value} {t : TypeId} (h : KZ w bs b cs t W) (o : Obj) : KZ w bs b cs t (W.alloc o) := h.below ((Below.refl _ _).alloc (Nat.le_refl _) o)
theorem KZ.new1 {w W : World} {bs : List (Nat × Array Value × TypeId)} (h : KS w bs W) (o : Obj) (cs : Array Value) (t : TypeId) : KZ w bs (W.heap.size + 1) cs t ((W.alloc o).alloc (.cells cs t)) := by
  have := KZ.new (h.alloc o) cs t
  rwa [World.size_alloc] at this
/-- the ways of 60, quickly -/
def fast (n : Nat) : Nat → Nat
  | 0 => 1
  | k + 1 => (n - k) * fast n k / (k + 1)
theorem fast_ch (n : Nat) : ∀ k, k ≤ n → Mis.ch n k = fast n k
  | 0, _ => Mis.ch_zero n
  | k + 1, h => by
    rw [fast, ← fast_ch n k (by omega), ← Mis.ch_step n k (by omega)]
    exact (Nat.mul_div_cancel_left _ (by omega)).symm
theorem nw (w : World) : Calls Try.prog 49 #[.int .i64 60, .int .i64 30] w fun e w' => e = .returned (.tuple #[.int .i64 118264581564861424, .int .i64 0]) ∧ Below w.heap.size w w' := by
  have h := Ways_ok 60 30 w (by decide) (by decide)
  rw [fast_ch 60 30 (by decide), show fast 60 30 = 118264581564861424 by decide +kernel] at h
  exact h
theorem nw2 (w : World) : Calls Try.prog 49 #[.int .i64 61, .int .i64 1] w fun e w' => e = .returned (.tuple #[.int .i64 0, .int .i64 2]) ∧ Below w.heap.size w w' := Ways_bad 61 1 w (by decide)
theorem nc0 (w : World) : Calls Try.prog 19 #[areaV 10 5 4 3, .int .i64 0] w fun e w' => e = .returned (.tuple #[fracV 0 1, .int .i64 0]) ∧ Below w.heap.size w w' := by
  have h := Chance_ok (l := 10) (M := 5) (s := 4) (f := 3) (by unfold okA; decide) (u := 0) (by decide) w
  have e : lowV (sm (sets 10 0 4) 3 1) (tot 10 0 4) = fracV 0 1 := by
    have h1 : sm (sets 10 0 4) 3 1 / Nat.gcd (sm (sets 10 0 4) 3 1) (tot 10 0 4) = 0 := by decide +kernel
    have h2 : tot 10 0 4 / Nat.gcd (sm (sets 10 0 4) 3 1) (tot 10 0 4) = 1 := by decide +kernel
    unfold lowV; rw [h1, h2]; rfl
  unfold ChPost at h
  rw [e] at h
  exact h
theorem nc1 (w : World) : Calls Try.prog 19 #[areaV 10 5 4 3, .int .i64 1] w fun e w' => e = .returned (.tuple #[fracV 4 11, .int .i64 0]) ∧ Below w.heap.size w w' := by
  have h := Chance_ok (l := 10) (M := 5) (s := 4) (f := 3) (by unfold okA; decide) (u := 1) (by decide) w
  have e : lowV (sm (sets 10 1 4) 3 1) (tot 10 1 4) = fracV 4 11 := by
    have h1 : sm (sets 10 1 4) 3 1 / Nat.gcd (sm (sets 10 1 4) 3 1) (tot 10 1 4) = 4 := by decide +kernel
    have h2 : tot 10 1 4 / Nat.gcd (sm (sets 10 1 4) 3 1) (tot 10 1 4) = 11 := by decide +kernel
    unfold lowV; rw [h1, h2]; rfl
  unfold ChPost at h
  rw [e] at h
  exact h
theorem nc2 (w : World) : Calls Try.prog 19 #[areaV 10 5 4 3, .int .i64 2] w fun e w' => e = .returned (.tuple #[fracV 16 33, .int .i64 0]) ∧ Below w.heap.size w w' := by
  have h := Chance_ok (l := 10) (M := 5) (s := 4) (f := 3) (by unfold okA; decide) (u := 2) (by decide) w
  have e : lowV (sm (sets 10 2 4) 3 1) (tot 10 2 4) = fracV 16 33 := by
    have h1 : sm (sets 10 2 4) 3 1 / Nat.gcd (sm (sets 10 2 4) 3 1) (tot 10 2 4) = 16 := by decide +kernel
    have h2 : tot 10 2 4 / Nat.gcd (sm (sets 10 2 4) 3 1) (tot 10 2 4) = 33 := by decide +kernel
    unfold lowV; rw [h1, h2]; rfl
  unfold ChPost at h
  rw [e] at h
  exact h
theorem nt1 (w : World) : Calls Try.prog 21 #[areaV 10 5 4 3, .int .i64 1, .bool false] w fun e w' => e = .returned (.tuple #[fracV 1 1, .int .i64 0]) ∧ Below w.heap.size w w' := by
  have h := Least_ok (l := 10) (M := 5) (s := 4) (f := 3) (by unfold okA; decide) (u := 1) (by decide) w
  have e : lowV (up 10 1 4 3) (tot 10 1 4) = fracV 1 1 := by
    have h1 : up 10 1 4 3 / Nat.gcd (up 10 1 4 3) (tot 10 1 4) = 1 := by decide +kernel
    have h2 : tot 10 1 4 / Nat.gcd (up 10 1 4 3) (tot 10 1 4) = 1 := by decide +kernel
    unfold lowV; rw [h1, h2]; rfl
  unfold ChPost at h
  rw [e] at h
  exact h
theorem nc6 (w : World) : Calls Try.prog 19 #[areaV 10 5 4 3, .int .i64 6] w fun e w' => e = .returned (.tuple #[fracV 0 0, .int .i64 2]) ∧ Below w.heap.size w w' := Chance_range w (by decide) (by decide)
theorem nm1 (w : World) : Calls Try.prog 36 #[areaV 10 5 4 3, fracV 1 10] w fun e w' => e = .returned (.tuple #[rangeV 1 5, .int .i64 0]) ∧ Below w.heap.size w w' := by
  have h := Missed_any 10 5 4 3 1 10 w
  unfold TotalPost at h
  have e : totRes [⟨10, 5, 4, 3⟩] 1 10 = (1, 5, 0) := by decide +kernel
  rw [e] at h
  exact h
theorem nm2 (w : World) : Calls Try.prog 36 #[areaV 10 5 4 3, fracV 2 1] w fun e w' => e = .returned (.tuple #[rangeV 0 0, .int .i64 2]) ∧ Below w.heap.size w w' := by
  have h := Missed_any 10 5 4 3 2 1 w
  unfold TotalPost at h
  have e : totRes [⟨10, 5, 4, 3⟩] 2 1 = (0, 0, 2) := by decide +kernel
  rw [e] at h
  exact h
theorem nm3 (w : World) : Calls Try.prog 36 #[areaV 10 5 4 3, fracV 9 10] w fun e w' => e = .returned (.tuple #[rangeV 0 0, .int .i64 9]) ∧ Below w.heap.size w w' := by
  have h := Missed_any 10 5 4 3 9 10 w
  unfold TotalPost at h
  have e : totRes [⟨10, 5, 4, 3⟩] 9 10 = (0, 0, 9) := by decide +kernel
  rw [e] at h
  exact h
theorem nz (w : World) : Calls Try.prog 31 #[.slice none 0 0, fracV 1 1] w fun e w' => e = .returned (.tuple #[rangeV 0 0, .int .i64 0]) ∧ Below w.heap.size w w' := by
  have h := Total_any none 0 0 0 [] 1 1 w (fun h => absurd rfl h) (fun h => absurd rfl h) (fun i a h => by simp at h)
  unfold TotalPost at h
  have e : totRes [] 1 1 = (0, 0, 0) := by decide +kernel
  rw [e] at h
  exact h
theorem nl (g : Nat) (w : World) : Calls Try.prog 31 #[.slice (some ⟨g, 0, none⟩) 7 7, fracV 2 1] w fun e w' => e = .returned (.tuple #[rangeV 0 0, .int .i64 3]) ∧ Below w.heap.size w w' := by
  have h := Total_limit (some ⟨g, 0, none⟩) 7 (List.replicate 7 ⟨0, 0, 0, 0⟩) 2 1 w (by decide)
  unfold TotalPost at h
  have e : totRes (List.replicate 7 ⟨0, 0, 0, 0⟩) 2 1 = (0, 0, 3) := by decide +kernel
  rw [e] at h
  exact h
theorem ne1 (w : World) : Calls Try.prog 37 #[.int .i64 10, .int .i64 5, .int .i64 6, fracV 1 2] w fun e w' => e = .returned (.tuple #[.int .i64 0, .int .i64 2]) ∧ Below w.heap.size w w' := Enough_range 10 5 6 1 2 w (by decide)
theorem ne2 (w : World) : Calls Try.prog 37 #[.int .i64 10, .int .i64 5, .int .i64 0, fracV 1 2] w fun e w' => e = .returned (.tuple #[.int .i64 0, .int .i64 9]) ∧ Below w.heap.size w w' := by
  refine (Enough_ok 10 5 0 1 2 w (by decide) (by decide) (by decide) (by decide) (by decide)).mono ?_
  rintro e w' ⟨⟨v, r, rfl, h⟩, hb⟩
  have e1 : Mis.first (sufB 10 5 0 1 2) 0 (10 + 1) = none := by decide +kernel
  rw [e1] at h
  obtain ⟨rfl, rfl⟩ := h
  exact ⟨rfl, hb⟩
theorem nd (g cap : Nat) (w : World) (hg : g < w.heap.size) (h : IntsAt w g 0 [1, 1, 1, 1]) : Calls Try.prog 40 #[.int .i64 3, .slice (some ⟨g, 0, none⟩) 4 cap] w fun e w' => e = .returned (.tuple #[.slice none 0 0, .int .i64 2]) ∧ Below w.heap.size w w' :=
  Draw_range 3 (some ⟨g, 0, none⟩) g 0 cap [1, 1, 1, 1] w (fun _ => rfl) (fun _ => hg) (by decide) h (by decide)
theorem ni (w : World) : Calls Try.prog 28 #[areaV 4 0 3 2] w fun e w' => e = .returned (.tuple #[.slice none 0 0, .int .i64 9]) ∧ Below w.heap.size w w' := by
  refine (Likely_ok 4 0 3 2 w (by decide) (by decide) (by decide) (by decide)).mono ?_
  rintro e w' ⟨v, r, rfl, h1, h2, h3, h4⟩
  have e1 : dueOf 4 0 3 2 = [] := by decide +kernel
  obtain ⟨rfl, rfl⟩ := h1 e1
  exact ⟨rfl, h4⟩
theorem nf1 (w : World) : Calls Try.prog 50 #[areaV 10 41 4 3] w fun e w' => e = .returned (.int .i64 1) ∧ Below w.heap.size w w' := CheckArea_any 10 41 4 3 w
theorem nf2 (w : World) : Calls Try.prog 50 #[areaV 10 5 11 3] w fun e w' => e = .returned (.int .i64 1) ∧ Below w.heap.size w w' := CheckArea_any 10 5 11 3 w
theorem nf3 (w : World) : Calls Try.prog 50 #[areaV 0 0 0 0] w fun e w' => e = .returned (.int .i64 0) ∧ Below w.heap.size w w' := CheckArea_any 0 0 0 0 w
theorem n_make (w : World) : (Instr.makeSlice 51 (.int .i64 7) (.int .i64 7)).run Try.prog w = .ok (.slice (some ⟨w.heap.size, 0, none⟩) 7 7) (w.alloc (.cells #[.int .i64 0, .int .i64 0, .int .i64 0, .int .i64 0, .int .i64 0, .int .i64 0, .int .i64 0, .int .i64 0, .int .i64 0, .int .i64 0, .int .i64 0, .int .i64 0, .int .i64 0, .int .i64 0, .int .i64 0, .int .i64 0, .int .i64 0, .int .i64 0, .int .i64 0, .int .i64 0, .int .i64 0, .int .i64 0, .int .i64 0, .int .i64 0, .int .i64 0, .int .i64 0, .int .i64 0, .int .i64 0] 29)) := by kernel_rfl
theorem ints4 (w : World) (a b c d : Int) (t : TypeId) : IntsAt (w.alloc (.cells #[.int .i64 a, .int .i64 b, .int .i64 c, .int .i64 d] t)) w.heap.size 0 [a, b, c, d] := fun i x e => by
  have h := Blk.new w #[.int .i64 a, .int .i64 b, .int .i64 c, .int .i64 d] t
  match i, e with
  | 0, e => simp at e; subst e; exact h.cell 0
  | 1, e => simp at e; subst e; exact h.cell 1
  | 2, e => simp at e; subst e; exact h.cell 2
  | 3, e => simp at e; subst e; exact h.cell 3

set_option maxRecDepth 100000 in
set_option maxHeartbeats 8000000 in
theorem MissNames_walk (w : World) : Calls Try.prog 18 #[] w fun e w' => e = .returned (.bool true) ∧ Below w.heap.size w w' := by
  have s0 := KS.start w
  have S0 := Lib.hid s0
  clear s0
  go_enter Try.func18, Try.ntmps18
  go_wp2_with fail
  refine (ten_any _).mono ?_
  rintro e w1 ⟨rfl, h1⟩
  have s1 := S0.out.below h1
  have S1 := Lib.hid s1
  clear h1 s1
  go_wp2_with fail
  refine (nc0 _).mono ?_
  rintro e w2 ⟨rfl, h2⟩
  have s2 := (S1.out.below h2).new #[.int .i64 0, .int .i64 1] 25
  obtain ⟨kb0_0, kb0_1, _⟩ := (s2.blkAt 0 rfl).c2
  have S2 := Lib.hid s2
  clear h2 s2
  go_wp2_with fail
  refine (ten_any _).mono ?_
  rintro e w3 ⟨rfl, h3⟩
  clear kb0_0 kb0_1
  have s3 := S2.out.below h3
  obtain ⟨kb0_0, kb0_1, _⟩ := (s3.blkAt 0 rfl).c2
  have S3 := Lib.hid s3
  clear h3 s3
  go_wp2_with fail
  refine (nc1 _).mono ?_
  rintro e w4 ⟨rfl, h4⟩
  clear kb0_0 kb0_1
  have s4 := (S3.out.below h4).new #[.int .i64 4, .int .i64 11] 25
  obtain ⟨kb1_0, kb1_1, _⟩ := (s4.blkAt 0 rfl).c2
  obtain ⟨kb0_0, kb0_1, _⟩ := (s4.blkAt 1 rfl).c2
  have S4 := Lib.hid s4
  clear h4 s4
  go_wp2_with fail
  refine (ten_any _).mono ?_
  rintro e w5 ⟨rfl, h5⟩
  clear kb1_0 kb1_1 kb0_0 kb0_1
  have s5 := S4.out.below h5
  obtain ⟨kb1_0, kb1_1, _⟩ := (s5.blkAt 0 rfl).c2
  obtain ⟨kb0_0, kb0_1, _⟩ := (s5.blkAt 1 rfl).c2
  have S5 := Lib.hid s5
  clear h5 s5
  go_wp2_with fail
  refine (nc2 _).mono ?_
  rintro e w6 ⟨rfl, h6⟩
  clear kb1_0 kb1_1 kb0_0 kb0_1
  have s6 := (S5.out.below h6).new #[.int .i64 16, .int .i64 33] 25
  obtain ⟨kb2_0, kb2_1, _⟩ := (s6.blkAt 0 rfl).c2
  obtain ⟨kb1_0, kb1_1, _⟩ := (s6.blkAt 1 rfl).c2
  obtain ⟨kb0_0, kb0_1, _⟩ := (s6.blkAt 2 rfl).c2
  have S6 := Lib.hid s6
  clear h6 s6
  go_wp2_with fail
  refine (ten_any _).mono ?_
  rintro e w7 ⟨rfl, h7⟩
  clear kb2_0 kb2_1 kb1_0 kb1_1 kb0_0 kb0_1
  have s7 := S6.out.below h7
  obtain ⟨kb2_0, kb2_1, _⟩ := (s7.blkAt 0 rfl).c2
  obtain ⟨kb1_0, kb1_1, _⟩ := (s7.blkAt 1 rfl).c2
  obtain ⟨kb0_0, kb0_1, _⟩ := (s7.blkAt 2 rfl).c2
  have S7 := Lib.hid s7
  clear h7 s7
  go_wp2_with fail
  refine (nt1 _).mono ?_
  rintro e w8 ⟨rfl, h8⟩
  clear kb2_0 kb2_1 kb1_0 kb1_1 kb0_0 kb0_1
  have s8 := (S7.out.below h8).new #[.int .i64 1, .int .i64 1] 25
  obtain ⟨kb3_0, kb3_1, _⟩ := (s8.blkAt 0 rfl).c2
  obtain ⟨kb2_0, kb2_1, _⟩ := (s8.blkAt 1 rfl).c2
  obtain ⟨kb1_0, kb1_1, _⟩ := (s8.blkAt 2 rfl).c2
  obtain ⟨kb0_0, kb0_1, _⟩ := (s8.blkAt 3 rfl).c2
  have S8 := Lib.hid s8
  clear h8 s8
  go_wp2_with fail
  refine (ten_any _).mono ?_
  rintro e w9 ⟨rfl, h9⟩
  clear kb3_0 kb3_1 kb2_0 kb2_1 kb1_0 kb1_1 kb0_0 kb0_1
  have s9 := S8.out.below h9
  obtain ⟨kb3_0, kb3_1, _⟩ := (s9.blkAt 0 rfl).c2
  obtain ⟨kb2_0, kb2_1, _⟩ := (s9.blkAt 1 rfl).c2
  obtain ⟨kb1_0, kb1_1, _⟩ := (s9.blkAt 2 rfl).c2
  obtain ⟨kb0_0, kb0_1, _⟩ := (s9.blkAt 3 rfl).c2
  have S9 := Lib.hid s9
  clear h9 s9
  go_wp2_with fail
  refine (over_any _ _ _).mono ?_
  rintro e w10 ⟨rfl, h10⟩
  clear kb3_0 kb3_1 kb2_0 kb2_1 kb1_0 kb1_1 kb0_0 kb0_1
  have s10 := S9.out.below h10
  obtain ⟨kb3_0, kb3_1, _⟩ := (s10.blkAt 0 rfl).c2
  obtain ⟨kb2_0, kb2_1, _⟩ := (s10.blkAt 1 rfl).c2
  obtain ⟨kb1_0, kb1_1, _⟩ := (s10.blkAt 2 rfl).c2
  obtain ⟨kb0_0, kb0_1, _⟩ := (s10.blkAt 3 rfl).c2
  have S10 := Lib.hid s10
  clear h10 s10
  go_wp2_with fail
  refine (nm1 _).mono ?_
  rintro e w11 ⟨rfl, h11⟩
  clear kb3_0 kb3_1 kb2_0 kb2_1 kb1_0 kb1_1 kb0_0 kb0_1
  have s11 := (S10.out.below h11).new #[.int .i64 1, .int .i64 5] 48
  obtain ⟨kb4_0, kb4_1, _⟩ := (s11.blkAt 0 rfl).c2
  obtain ⟨kb3_0, kb3_1, _⟩ := (s11.blkAt 1 rfl).c2
  obtain ⟨kb2_0, kb2_1, _⟩ := (s11.blkAt 2 rfl).c2
  obtain ⟨kb1_0, kb1_1, _⟩ := (s11.blkAt 3 rfl).c2
  obtain ⟨kb0_0, kb0_1, _⟩ := (s11.blkAt 4 rfl).c2
  have S11 := Lib.hid s11
  clear h11 s11
  go_wp2_with fail
  refine (nw _).mono ?_
  rintro e w12 ⟨rfl, h12⟩
  clear kb4_0 kb4_1 kb3_0 kb3_1 kb2_0 kb2_1 kb1_0 kb1_1 kb0_0 kb0_1
  have s12 := S11.out.below h12
  obtain ⟨kb4_0, kb4_1, _⟩ := (s12.blkAt 0 rfl).c2
  obtain ⟨kb3_0, kb3_1, _⟩ := (s12.blkAt 1 rfl).c2
  obtain ⟨kb2_0, kb2_1, _⟩ := (s12.blkAt 2 rfl).c2
  obtain ⟨kb1_0, kb1_1, _⟩ := (s12.blkAt 3 rfl).c2
  obtain ⟨kb0_0, kb0_1, _⟩ := (s12.blkAt 4 rfl).c2
  have S12 := Lib.hid s12
  clear h12 s12
  go_wp2_with fail
  refine (over_any _ _ _).mono ?_
  rintro e w13 ⟨rfl, h13⟩
  clear kb4_0 kb4_1 kb3_0 kb3_1 kb2_0 kb2_1 kb1_0 kb1_1 kb0_0 kb0_1
  have s13 := S12.out.below h13
  obtain ⟨kb4_0, kb4_1, _⟩ := (s13.blkAt 0 rfl).c2
  obtain ⟨kb3_0, kb3_1, _⟩ := (s13.blkAt 1 rfl).c2
  obtain ⟨kb2_0, kb2_1, _⟩ := (s13.blkAt 2 rfl).c2
  obtain ⟨kb1_0, kb1_1, _⟩ := (s13.blkAt 3 rfl).c2
  obtain ⟨kb0_0, kb0_1, _⟩ := (s13.blkAt 4 rfl).c2
  have S13 := Lib.hid s13
  clear h13 s13
  go_wp2_with fail
  refine (nz _).mono ?_
  rintro e w14 ⟨rfl, h14⟩
  clear kb4_0 kb4_1 kb3_0 kb3_1 kb2_0 kb2_1 kb1_0 kb1_1 kb0_0 kb0_1
  have s14 := (S13.out.below h14).new #[.int .i64 0, .int .i64 0] 48
  obtain ⟨kb5_0, kb5_1, _⟩ := (s14.blkAt 0 rfl).c2
  obtain ⟨kb4_0, kb4_1, _⟩ := (s14.blkAt 1 rfl).c2
  obtain ⟨kb3_0, kb3_1, _⟩ := (s14.blkAt 2 rfl).c2
  obtain ⟨kb2_0, kb2_1, _⟩ := (s14.blkAt 3 rfl).c2
  obtain ⟨kb1_0, kb1_1, _⟩ := (s14.blkAt 4 rfl).c2
  obtain ⟨kb0_0, kb0_1, _⟩ := (s14.blkAt 5 rfl).c2
  have S14 := Lib.hid s14
  clear h14 s14
  go_wp2_with fail
  obtain ⟨BS, hBS⟩ : ∃ BS : List (Nat × Array Value × TypeId), BS = [(w14.heap.size, #[.int .i64 0, .int .i64 0], 48), (w11.heap.size, #[.int .i64 1, .int .i64 5], 48), (w8.heap.size, #[.int .i64 1, .int .i64 1], 25), (w6.heap.size, #[.int .i64 16, .int .i64 33], 25), (w4.heap.size, #[.int .i64 4, .int .i64 11], 25), (w2.heap.size, #[.int .i64 0, .int .i64 1], 25)] := ⟨_, rfl⟩
  have hS : KS w BS (w14.alloc (.cells #[.int .i64 0, .int .i64 0] 48)) := by rw [hBS]; exact S14.out
  have K0_0 : ∀ W, KS w BS W → W.cell? ⟨w14.heap.size, 0, none⟩ = some (.int .i64 0) := fun W h => by rw [hBS] at h; exact (h.blkAt 0 rfl).cell 0
  have K0_1 : ∀ W, KS w BS W → W.cell? ⟨w14.heap.size, 1, none⟩ = some (.int .i64 0) := fun W h => by rw [hBS] at h; exact (h.blkAt 0 rfl).cell 1
  have K1_0 : ∀ W, KS w BS W → W.cell? ⟨w11.heap.size, 0, none⟩ = some (.int .i64 1) := fun W h => by rw [hBS] at h; exact (h.blkAt 1 rfl).cell 0
  have K1_1 : ∀ W, KS w BS W → W.cell? ⟨w11.heap.size, 1, none⟩ = some (.int .i64 5) := fun W h => by rw [hBS] at h; exact (h.blkAt 1 rfl).cell 1
  have K2_0 : ∀ W, KS w BS W → W.cell? ⟨w8.heap.size, 0, none⟩ = some (.int .i64 1) := fun W h => by rw [hBS] at h; exact (h.blkAt 2 rfl).cell 0
  have K2_1 : ∀ W, KS w BS W → W.cell? ⟨w8.heap.size, 1, none⟩ = some (.int .i64 1) := fun W h => by rw [hBS] at h; exact (h.blkAt 2 rfl).cell 1
  have K3_0 : ∀ W, KS w BS W → W.cell? ⟨w6.heap.size, 0, none⟩ = some (.int .i64 16) := fun W h => by rw [hBS] at h; exact (h.blkAt 3 rfl).cell 0
  have K3_1 : ∀ W, KS w BS W → W.cell? ⟨w6.heap.size, 1, none⟩ = some (.int .i64 33) := fun W h => by rw [hBS] at h; exact (h.blkAt 3 rfl).cell 1
  have K4_0 : ∀ W, KS w BS W → W.cell? ⟨w4.heap.size, 0, none⟩ = some (.int .i64 4) := fun W h => by rw [hBS] at h; exact (h.blkAt 4 rfl).cell 0
  have K4_1 : ∀ W, KS w BS W → W.cell? ⟨w4.heap.size, 1, none⟩ = some (.int .i64 11) := fun W h => by rw [hBS] at h; exact (h.blkAt 4 rfl).cell 1
  have K5_0 : ∀ W, KS w BS W → W.cell? ⟨w2.heap.size, 0, none⟩ = some (.int .i64 0) := fun W h => by rw [hBS] at h; exact (h.blkAt 5 rfl).cell 0
  have K5_1 : ∀ W, KS w BS W → W.cell? ⟨w2.heap.size, 1, none⟩ = some (.int .i64 1) := fun W h => by rw [hBS] at h; exact (h.blkAt 5 rfl).cell 1
  have HBS := Lib.hid hBS
  clear hBS kb5_0 kb5_1 kb4_0 kb4_1 kb3_0 kb3_1 kb2_0 kb2_1 kb1_0 kb1_1 kb0_0 kb0_1
  go_region_held3 (KS w BS)
    (first | assumption | exact KS.drew (by assumption) | exact KS.alloc (by assumption) _ | exact KS.drew (KS.alloc (by assumption) _) | exact KS.alloc (KS.drew (by assumption)) _ | go_keep)
    (first | (go_at_call 46; (with_reducible refine (over_any _ _ _).mono ?_); rintro e wn ⟨rfl, hb⟩; have hSn := KS.below (by first | assumption | exact KS.drew (by assumption)) hb; clear hb) | (go_at_call 47; (with_reducible refine (between_any _ _ _).mono ?_); rintro e wn ⟨rfl, hb⟩; have hSn := KS.below (by first | assumption | exact KS.drew (by assumption)) hb; clear hb))
  clear K0_0 K0_1 K1_0 K1_1 K2_0 K2_1 K3_0 K3_1 K4_0 K4_1 K5_0 K5_1
  go_wp2_with fail
  refine (nw2 _).mono ?_
  rintro e w20 ⟨rfl, h20⟩
  have s20 := (KS.below (w := w) (bs := BS) (by assumption) h20).sub (bs' := []) (fun x h => by cases h)
  have S20 := Lib.hid s20
  clear h20 s20
  go_wp2_with fail
  refine (ten_any _).mono ?_
  rintro e w21 ⟨rfl, h21⟩
  have s21 := S20.out.below h21
  have S21 := Lib.hid s21
  clear h21 s21
  go_wp2_with fail
  refine (nc6 _).mono ?_
  rintro e w22 ⟨rfl, h22⟩
  have s22 := S21.out.below h22
  have S22 := Lib.hid s22
  clear h22 s22
  go_wp2_with fail
  refine (ten_any _).mono ?_
  rintro e w23 ⟨rfl, h23⟩
  have s23 := S22.out.below h23
  have S23 := Lib.hid s23
  clear h23 s23
  go_wp2_with fail
  refine (over_any _ _ _).mono ?_
  rintro e w24 ⟨rfl, h24⟩
  have s24 := S23.out.below h24
  have S24 := Lib.hid s24
  clear h24 s24
  go_wp2_with fail
  refine (nm2 _).mono ?_
  rintro e w25 ⟨rfl, h25⟩
  have s25 := S24.out.below h25
  have S25 := Lib.hid s25
  clear h25 s25
  go_wp2_with fail
  refine (ten_any _).mono ?_
  rintro e w26 ⟨rfl, h26⟩
  have s26 := S25.out.below h26
  have S26 := Lib.hid s26
  clear h26 s26
  go_wp2_with fail
  refine (over_any _ _ _).mono ?_
  rintro e w27 ⟨rfl, h27⟩
  have s27 := S26.out.below h27
  have S27 := Lib.hid s27
  clear h27 s27
  go_wp2_with fail
  refine (nm3 _).mono ?_
  rintro e w28 ⟨rfl, h28⟩
  have s28 := S27.out.below h28
  have S28 := Lib.hid s28
  clear h28 s28
  go_wp2_with fail
  refine (over_any _ _ _).mono ?_
  rintro e w29 ⟨rfl, h29⟩
  have s29 := S28.out.below h29
  have S29 := Lib.hid s29
  clear h29 s29
  go_wp2_with fail
  refine (ne1 _).mono ?_
  rintro e w30 ⟨rfl, h30⟩
  have s30 := S29.out.below h30
  have S30 := Lib.hid s30
  clear h30 s30
  go_wp2_with fail
  refine (over_any _ _ _).mono ?_
  rintro e w31 ⟨rfl, h31⟩
  have s31 := S30.out.below h31
  have S31 := Lib.hid s31
  clear h31 s31
  go_wp2_with fail
  refine (ne2 _).mono ?_
  rintro e w32 ⟨rfl, h32⟩
  have s32 := S31.out.below h32
  have S32 := Lib.hid s32
  clear h32 s32
  go_wp2_with fail
  refine (nd _ _ _ (by simp) (ints4 _ _ _ _ _ _)).mono ?_
  rintro e w33 ⟨rfl, h33⟩
  have S33 := Lib.hid ((S32.out.alloc _).below h33)
  clear h33
  go_wp2_with fail
  refine (ni _).mono ?_
  rintro e w34 ⟨rfl, h34⟩
  have s34 := S33.out.below h34
  have S34 := Lib.hid s34
  clear h34 s34
  have hmk := n_make
  go_wp2_with fail
  obtain ⟨BS, hBS⟩ : ∃ BS : List (Nat × Array Value × TypeId), BS = [] := ⟨_, rfl⟩
  have hS : KS w BS w34 := by rw [hBS]; exact S34.out
  have HBS := Lib.hid hBS
  clear hBS 
  have KZ0 : ∀ W b, KZ w BS b #[.int .i64 0, .int .i64 0] 48 W → W.cell? ⟨b, 0, none⟩ = some (.int .i64 0) := fun W b h => h.c0
  have KZ1 : ∀ W b, KZ w BS b #[.int .i64 0, .int .i64 0] 48 W → W.cell? ⟨b, 1, none⟩ = some (.int .i64 0) := fun W b h => h.c1
  have KF0 : ∀ W b, KZ w BS b #[.int .i64 0, .int .i64 0] 48 W → W.frozen? ⟨b, 0, none⟩ = false := fun W b h => h.f 0
  have KF1 : ∀ W b, KZ w BS b #[.int .i64 0, .int .i64 0] 48 W → W.frozen? ⟨b, 1, none⟩ = false := fun W b h => h.f 1
  go_region_held3 (KS w BS)
    (first | assumption | exact KS.drew (by assumption) | exact KS.alloc (by assumption) _ | exact KS.drew (KS.alloc (by assumption) _) | exact KS.alloc (KS.drew (by assumption)) _ | exact KZ.keep2 (by assumption) | exact (KZ.keep2 (by assumption)).drew | exact (KZ.drew (by assumption)).keep2 | go_keep)
    (first | (go_at_call 46; (with_reducible refine (over_any _ _ _).mono ?_); rintro e wn ⟨rfl, hb⟩; have hSn := KS.below (w := w) (bs := BS) (by first | assumption | exact KS.drew (by assumption)) hb; (first | (have hZ := KZ.below (w := w) (bs := BS) (cs := #[.int .i64 0, .int .i64 0]) (t := 48) (by assumption) hb) | (have hZ := KZ.below (w := w) (bs := BS) (KZ.new (by assumption) #[.int .i64 0, .int .i64 0] 48) hb) | (have hZ := KZ.below (w := w) (bs := BS) (KZ.newD (by assumption) #[.int .i64 0, .int .i64 0] 48) hb) | (have hZ := KZ.below (w := w) (bs := BS) ((KZ.alloc (KZ.new (by assumption) #[.int .i64 0, .int .i64 0] 48) _).drew) hb) | (have hZ := KZ.below (w := w) (bs := BS) ((KZ.new1 (by assumption) _ #[.int .i64 0, .int .i64 0] 48).drew) hb) | (have hZ := KZ.below (w := w) (bs := BS) (KZ.alloc (by assumption) _) hb) | (have hZ := KZ.below (w := w) (bs := BS) (KZ.new1 (by assumption) _ #[.int .i64 0, .int .i64 0] 48) hb) | (have hZ := KZ.below (w := w) (bs := BS) (KZ.alloc (KZ.new (by assumption) #[.int .i64 0, .int .i64 0] 48) _) hb) | skip); clear hb) | (go_at_call 31; (with_reducible refine (nl _ _).mono ?_); rintro e wn ⟨rfl, hb⟩; have hSn := KS.below (w := w) (bs := BS) (by first | assumption | exact KS.drew (by assumption)) hb; (first | (have hZ := KZ.below (w := w) (bs := BS) (cs := #[.int .i64 0, .int .i64 0]) (t := 48) (by assumption) hb) | (have hZ := KZ.below (w := w) (bs := BS) (KZ.new (by assumption) #[.int .i64 0, .int .i64 0] 48) hb) | (have hZ := KZ.below (w := w) (bs := BS) (KZ.newD (by assumption) #[.int .i64 0, .int .i64 0] 48) hb) | (have hZ := KZ.below (w := w) (bs := BS) ((KZ.alloc (KZ.new (by assumption) #[.int .i64 0, .int .i64 0] 48) _).drew) hb) | (have hZ := KZ.below (w := w) (bs := BS) ((KZ.new1 (by assumption) _ #[.int .i64 0, .int .i64 0] 48).drew) hb) | (have hZ := KZ.below (w := w) (bs := BS) (KZ.alloc (by assumption) _) hb) | (have hZ := KZ.below (w := w) (bs := BS) (KZ.new1 (by assumption) _ #[.int .i64 0, .int .i64 0] 48) hb) | (have hZ := KZ.below (w := w) (bs := BS) (KZ.alloc (KZ.new (by assumption) #[.int .i64 0, .int .i64 0] 48) _) hb) | skip); clear hb))
  all_goals
    go_wp2_with fail
    refine (ten_any _).mono ?_
    rintro e w36 ⟨rfl, h36⟩
    have S36 := Lib.hid (KS.below (w := w) (bs := BS) (by first | assumption | exact KS.alloc (by assumption) _ | exact KS.drew (by assumption) | exact KS.drew (KS.alloc (by assumption) _) | exact KZ.keep2 (by assumption) | exact (KZ.keep2 (by assumption)).drew) h36)
    clear h36
    go_wp2_with fail
    refine (ten_any _).mono ?_
    rintro e w37 ⟨rfl, h37⟩
    have S37 := Lib.hid (S36.out.below h37)
    clear h37
    go_wp2_with fail
    have s38 := (S37.out.new #[.int .i64 10, .int .i64 41, .int .i64 4, .int .i64 3] 29).new #[.int .i64 10, .int .i64 5, .int .i64 11, .int .i64 3] 29
    rw [World.size_alloc] at s38
    refine (nf1 _).mono ?_
    rintro e w38 ⟨rfl, h38⟩
    have t38 := s38.below h38
    obtain ⟨k0, k1, k2, k3⟩ := (t38.blkAt 0 rfl).c4
    have S38 := Lib.hid t38
    clear h38 s38 t38
    go_wp2_with fail
    refine (nf2 _).mono ?_
    rintro e w39 ⟨rfl, h39⟩
    have S39 := Lib.hid (S38.out.below h39)
    clear h39 k0 k1 k2 k3
    go_wp2_with fail
    refine (nf3 _).mono ?_
    rintro e w40 ⟨rfl, h40⟩
    have S40 := Lib.hid (S39.out.below h40)
    clear h40
    go_wp2_with fail
    refine (awake_any _).mono ?_
    rintro e w41 ⟨rfl, h41⟩
    have S41 := Lib.hid (S40.out.below h41)
    clear h41
    go_wp2_with fail
    go_ret
    exact ⟨rfl, S41.out.bel⟩
end Go.Proofs.Ytkfobnhnehbkeaa
