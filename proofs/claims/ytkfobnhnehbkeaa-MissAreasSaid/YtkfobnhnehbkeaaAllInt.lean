/- The walks of all (of lots) of package miss. -/
import Derived.Test.YtkfobnhnehbkeaaEnough3
namespace Go.Proofs.Ytkfobnhnehbkeaa
open Go.RowKit

/-- the numbers lie in a row -/
def IntsAt (W : World) (b o : Nat) (xs : List Int) : Prop := ∀ i a, xs[i]? = some a → W.cell? ⟨b, o + i, none⟩ = some (.int .i64 a)
theorem IntsAt.below {W W' : World} {b o B : Nat} {xs : List Int} (h : IntsAt W b o xs) (hb : Below B W W') (hlt : b < B) : IntsAt W' b o xs := fun i a e => (hb.cell (p := ⟨b, _, none⟩) hlt).trans (h i a e)
def lotB (x : Int) : Bool := decide (0 ≤ x)
theorem lot_any (x : Int) (w : World) : Calls Try.prog 70 #[.int .i64 x] w fun e w' => e = .returned (.bool (lotB x)) ∧ w = w' := by
  go_enter Try.func70, Try.ntmps70
  go_wp2
  go_ret
  exact ⟨rfl, rfl⟩

set_option maxRecDepth 100000 in
set_option maxHeartbeats 400000 in
theorem closI_any (x : Int) (bx : Nat) (w : World) (hc : w.cell? ⟨bx, 0, none⟩ = some (.func (.func 70) #[] #[])) :
    Calls Try.prog 84 #[.int .i64 x, .pointer (some ⟨bx, 0, none⟩)] w fun e w' => e = .returned (.bool (!lotB x)) ∧ w = w' := by
  have C := Lib.hid (fun w => lot_any x w)
  generalize lotB x = q at *
  go_enter Try.func84, Try.ntmps84
  go_wp2_with (go_at_call 70; (with_reducible refine (C.out _).mono ?_); rintro e w' ⟨rfl, rfl⟩)
  go_ret
  exact ⟨rfl, rfl⟩

set_option maxRecDepth 100000 in
set_option maxHeartbeats 800000 in
theorem indexI_any (ad : Option Addr) (b o bx cap : Nat) (xs : List Int) (w : World) (had : xs ≠ [] → ad = some ⟨b, o, none⟩) (hn : xs.length ≤ 1000) (ha : IntsAt w b o xs) (hc : w.cell? ⟨bx, 0, none⟩ = some (.func (.func 70) #[] #[])) :
    Calls Try.prog 89 #[.slice ad xs.length cap, .func (.func 84) #[] #[.pointer (some ⟨bx, 0, none⟩)]] w fun e w' => (∃ r : Int, e = .returned (.int .i64 r) ∧ decide (0 ≤ r) = !(xs.all lotB) ∧ -1 ≤ r) ∧ w = w' := by
  have HA := Lib.hid ha
  have HD := Lib.hid had
  have C := Lib.hid (fun x => closI_any x bx w hc)
  have hN : ∃ n, n = xs.length := ⟨_, rfl⟩
  obtain ⟨n, hN⟩ := hN
  have HN := Lib.hid hN
  rw [← hN] at hn
  clear hc ha had
  rw [← hN]
  clear hN
  go_enter Try.func89, Try.ntmps89
  go_wp2
  go_loop [8] (fun x => ∃ i : Nat, i ≤ n ∧ x = .int .i64 (i : Int) ∧ (∀ j a, j < i → xs[j]? = some a → lotB a = true)) (fun x => n - (intOf x).toNat)
  case atStart => exact ⟨0, by omega, rfl, fun j a h => by omega⟩
  case round =>
    obtain ⟨i, hi, rfl, hall⟩ := hrel
    have H := Lib.hid hall
    by_cases hlt : i < n
    · obtain ⟨a, hai⟩ : ∃ a, xs[i]? = some a := ⟨xs[i]'(by rw [← HN.out]; exact hlt), by simp⟩
      have hne : xs ≠ [] := by rintro rfl; simp at hai
      have e1 := HD.out hne
      subst e1
      have k0 := HA.out i a hai
      have HI := Lib.hid hai
      have C84 := Lib.hid (C.out a)
      clear hall hai hne
      cases hok : lotB a with
      | true =>
        rw [hok] at C84
        have OK := Lib.hid hok
        clear hok
        go_wp2_with (go_at_call 84; (with_reducible refine C84.out.mono ?_); rintro e w' ⟨rfl, rfl⟩)
        go_round
        case rel =>
          refine ⟨i + 1, by omega, by go_num, fun j a hj hja => ?_⟩
          rcases Nat.lt_succ_iff_lt_or_eq.1 hj with h | rfl
          · exact H.out j a h hja
          · rw [HI.out] at hja; cases hja; exact OK.out
        case measure => simp [intOf]; omega
      | false =>
        rw [hok] at C84
        have OK := Lib.hid hok
        clear hok
        go_wp2_with (go_at_call 84; (with_reducible refine C84.out.mono ?_); rintro e w' ⟨rfl, rfl⟩)
        go_ret
        refine ⟨⟨_, rfl, ?_, by omega⟩, rfl⟩
        have h1 : xs.all lotB = false := by
          rw [List.all_eq_false]
          exact ⟨_, List.mem_of_getElem? HI.out, by rw [OK.out]; simp⟩
        rw [h1]; simp
    · obtain rfl : i = n := by omega
      have h1 : xs.all lotB = true := by
        rw [List.all_eq_true]
        intro a ha
        obtain ⟨j, hj⟩ := List.getElem?_of_mem ha
        have hjl : j < xs.length := (List.getElem?_eq_some_iff.1 hj).1
        exact hall j a (by rw [HN.out]; exact hjl) hj
      have H1 := Lib.hid h1
      clear hall h1
      go_wp2
      go_ret
      exact ⟨⟨-1, rfl, by rw [H1.out]; rfl, by omega⟩, rfl⟩
set_option maxRecDepth 100000 in
set_option maxHeartbeats 800000 in
theorem containsI_any (ad : Option Addr) (b o bx cap : Nat) (xs : List Int) (w : World) (had : xs ≠ [] → ad = some ⟨b, o, none⟩) (hn : xs.length ≤ 1000) (ha : IntsAt w b o xs) (hc : w.cell? ⟨bx, 0, none⟩ = some (.func (.func 70) #[] #[])) :
    Calls Try.prog 83 #[.slice ad xs.length cap, .func (.func 84) #[] #[.pointer (some ⟨bx, 0, none⟩)]] w fun e w' => e = .returned (.bool (!(xs.all lotB))) ∧ w = w' := by
  have C := Lib.hid (indexI_any ad b o bx cap xs w had hn ha hc)
  clear had hn ha hc
  go_enter Try.func83, Try.ntmps83
  go_wp2_with (go_at_call 89; (with_reducible refine C.out.mono ?_); rintro e w' ⟨⟨r, rfl, hr, hr1⟩, rfl⟩; have HR := Lib.hid hr; clear hr)
  go_ret
  exact ⟨by rw [← HR.out]; rfl, rfl⟩
set_option maxRecDepth 100000 in
set_option maxHeartbeats 800000 in
theorem allI_any (ad : Option Addr) (b o cap : Nat) (xs : List Int) (w : World) (had : xs ≠ [] → ad = some ⟨b, o, none⟩) (hb : xs ≠ [] → b < w.heap.size) (hn : xs.length ≤ 1000) (ha : IntsAt w b o xs) :
    Calls Try.prog 71 #[.slice ad xs.length cap, .func (.func 70) #[] #[]] w fun e w' => e = .returned (.bool (xs.all lotB)) ∧ Below w.heap.size w w' := by
  obtain ⟨b1, b2, b3⟩ := one_new w #[.func (.func 70) #[] #[]] 112
  have ha' : IntsAt (w.alloc (.cells #[.func (.func 70) #[] #[]] 112)) b o xs := by
    by_cases hne : xs = []
    · subst hne; intro i a h; simp at h
    · exact ha.below b2 (hb hne)
  have C := Lib.hid (containsI_any ad b o w.heap.size cap xs _ had hn ha' (b1.cell 0))
  have B2 := Lib.hid b2
  clear had hb hn ha ha' b1 b2 b3
  go_enter Try.func71, Try.ntmps71
  go_wp2_with (go_at_call 83; (with_reducible refine C.out.mono ?_); rintro e w' ⟨rfl, rfl⟩)
  go_ret
  exact ⟨by simp, B2.out⟩
end Go.Proofs.Ytkfobnhnehbkeaa
