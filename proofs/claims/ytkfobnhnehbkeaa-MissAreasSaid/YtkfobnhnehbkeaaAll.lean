/- The walks of all (of areas), level of package miss. -/
import Derived.Test.YtkfobnhnehbkeaaMissed2
namespace Go.Proofs.Ytkfobnhnehbkeaa
open Go.RowKit

structure A4 where
  L : Int
  M : Int
  S : Int
  F : Int
def A4.ok (a : A4) : Bool := areaB a.L a.M a.S a.F
/-- the areas lie in a row -/
def AreasAt (W : World) (b o : Nat) (xs : List A4) : Prop := ∀ i a, xs[i]? = some a → W.cell? ⟨b, o + i * 4, none⟩ = some (.int .i64 a.L) ∧ W.cell? ⟨b, o + i * 4 + 1, none⟩ = some (.int .i64 a.M) ∧ W.cell? ⟨b, o + i * 4 + 2, none⟩ = some (.int .i64 a.S) ∧ W.cell? ⟨b, o + i * 4 + 3, none⟩ = some (.int .i64 a.F)
theorem AreasAt.below {W W' : World} {b o B : Nat} {xs : List A4} (h : AreasAt W b o xs) (hb : Below B W W') (hlt : b < B) : AreasAt W' b o xs := fun i a e => by
  obtain ⟨h1, h2, h3, h4⟩ := h i a e
  exact ⟨(hb.cell (p := ⟨b, _, none⟩) hlt).trans h1, (hb.cell (p := ⟨b, _, none⟩) hlt).trans h2, (hb.cell (p := ⟨b, _, none⟩) hlt).trans h3, (hb.cell (p := ⟨b, _, none⟩) hlt).trans h4⟩

set_option maxRecDepth 100000 in
set_option maxHeartbeats 400000 in
theorem clos_any (L M S F : Int) (bx : Nat) (w : World) (hc : w.cell? ⟨bx, 0, none⟩ = some (.func (.func 58) #[] #[])) :
    Calls Try.prog 81 #[areaV L M S F, .pointer (some ⟨bx, 0, none⟩)] w fun e w' => e = .returned (.bool (!areaB L M S F)) ∧ Below w.heap.size w w' := by
  have lt1 : bx < w.heap.size := World.block_lt_of_cell? w ⟨bx, 0, none⟩ hc
  have hc2 : (w.alloc (.cells #[.int .i64 L, .int .i64 M, .int .i64 S, .int .i64 F] 29)).cell? ⟨bx, 0, none⟩ = some (.func (.func 58) #[] #[]) := (World.cell?_alloc_lt _ _ _ lt1).trans hc
  obtain ⟨b1, b2, b3⟩ := one_new w #[.int .i64 L, .int .i64 M, .int .i64 S, .int .i64 F] 29
  have B2 := Lib.hid b2
  clear hc b2 b3
  go_enter Try.func81, Try.ntmps81
  go_wp2_with fail
  generalize w.alloc (.cells #[.int .i64 L, .int .i64 M, .int .i64 S, .int .i64 F] 29) = W0 at *
  obtain ⟨k0, k1, k2, k3⟩ := b1.c4
  have B1 := Lib.hid b1
  clear b1
  go_wp2_with (go_at_call 58; (with_reducible refine (valid_any _ _ _ _ _).mono ?_); rintro e w' ⟨rfl, hb⟩; have HB := Lib.hid hb; clear hb)
  go_ret
  exact ⟨rfl, B2.out.trans (HB.out.mono B2.out.size)⟩

set_option maxRecDepth 100000 in
set_option maxHeartbeats 800000 in
theorem index_any (ad : Option Addr) (b o bx cap : Nat) (xs : List A4) (w : World) (had : xs ≠ [] → ad = some ⟨b, o, none⟩) (hb : xs ≠ [] → b < w.heap.size) (hn : xs.length ≤ 1000) (ha : AreasAt w b o xs) (hc : w.cell? ⟨bx, 0, none⟩ = some (.func (.func 58) #[] #[])) :
    Calls Try.prog 88 #[.slice ad xs.length cap, .func (.func 81) #[] #[.pointer (some ⟨bx, 0, none⟩)]] w fun e w' => (∃ r : Int, e = .returned (.int .i64 r) ∧ decide (0 ≤ r) = !(xs.all A4.ok) ∧ -1 ≤ r) ∧ Below w.heap.size w w' := by
  have lt1 : bx < w.heap.size := World.block_lt_of_cell? w ⟨bx, 0, none⟩ hc
  have HC := Lib.hid hc
  have HA := Lib.hid ha
  have HD := Lib.hid had
  have HB := Lib.hid hb
  have hN : ∃ n, n = xs.length := ⟨_, rfl⟩
  obtain ⟨n, hN⟩ := hN
  have HN := Lib.hid hN
  rw [← hN] at hn
  clear hc ha had hb
  rw [← hN]
  clear hN
  go_enter Try.func88, Try.ntmps88
  go_wp2
  go_loopw [8] (fun x wr => ∃ i : Nat, i ≤ n ∧ x = .int .i64 (i : Int) ∧ (∀ j a, j < i → xs[j]? = some a → a.ok = true) ∧ Below w.heap.size w wr) (fun x _ => n - (intOf x).toNat)
  case atStart => exact ⟨0, by omega, rfl, fun j a h => by omega, Below.refl _ _⟩
  case round =>
    obtain ⟨i, hi, rfl, hall, hbw⟩ := hrel
    have H := Lib.hid hall
    have HW := Lib.hid hbw
    by_cases hlt : i < n
    · obtain ⟨a, hai⟩ : ∃ a, xs[i]? = some a := ⟨xs[i]'(by rw [← HN.out]; exact hlt), by simp⟩
      have hne : xs ≠ [] := by rintro rfl; simp at hai
      have e1 := HD.out hne
      subst e1
      have hbl := HB.out hne
      obtain ⟨k0, k1, k2, k3⟩ := HA.out.below hbw hbl i a hai
      have hcw : wr.cell? ⟨bx, 0, none⟩ = some (.func (.func 58) #[] #[]) := (hbw.cell (p := ⟨bx, 0, none⟩) lt1).trans HC.out
      have HI := Lib.hid hai
      obtain ⟨L, M, S, F⟩ := a
      simp only [] at k0 k1 k2 k3
      clear hall hbw hai hne
      have C81 := Lib.hid (clos_any L M S F bx wr hcw)
      cases hok : areaB L M S F with
      | true =>
        rw [hok] at C81
        have OK := Lib.hid (show (A4.mk L M S F).ok = true from hok)
        clear hok hcw
        go_wp2_with (go_at_call 81; (with_reducible refine C81.out.mono ?_); rintro e w' ⟨rfl, hb⟩; have HB' := Lib.hid hb; clear hb)
        go_roundw
        case rel =>
          refine ⟨i + 1, by omega, by go_num, fun j a hj hja => ?_, HW.out.trans (HB'.out.mono HW.out.size)⟩
          rcases Nat.lt_succ_iff_lt_or_eq.1 hj with h | rfl
          · exact H.out j a h hja
          · rw [HI.out] at hja; cases hja; exact OK.out
        case measure => simp [intOf]; omega
      | false =>
        rw [hok] at C81
        have OK := Lib.hid (show (A4.mk L M S F).ok = false from hok)
        clear hok hcw
        go_wp2_with (go_at_call 81; (with_reducible refine C81.out.mono ?_); rintro e w' ⟨rfl, hb⟩; have HB' := Lib.hid hb; clear hb)
        go_ret
        refine ⟨⟨_, rfl, ?_, by omega⟩, HW.out.trans (HB'.out.mono HW.out.size)⟩
        have h1 : xs.all A4.ok = false := by
          rw [List.all_eq_false]
          exact ⟨_, List.mem_of_getElem? HI.out, by rw [OK.out]; simp⟩
        rw [h1]; simp
    · obtain rfl : i = n := by omega
      have h1 : xs.all A4.ok = true := by
        rw [List.all_eq_true]
        intro a ha
        obtain ⟨j, hj⟩ := List.getElem?_of_mem ha
        have hjl : j < xs.length := (List.getElem?_eq_some_iff.1 hj).1
        exact hall j a (by rw [HN.out]; exact hjl) hj
      have H1 := Lib.hid h1
      clear hall hbw h1
      go_wp2
      go_ret
      exact ⟨⟨-1, rfl, by rw [H1.out]; rfl, by omega⟩, HW.out⟩
set_option maxRecDepth 100000 in
set_option maxHeartbeats 800000 in
theorem contains_any (ad : Option Addr) (b o bx cap : Nat) (xs : List A4) (w : World) (had : xs ≠ [] → ad = some ⟨b, o, none⟩) (hb : xs ≠ [] → b < w.heap.size) (hn : xs.length ≤ 1000) (ha : AreasAt w b o xs) (hc : w.cell? ⟨bx, 0, none⟩ = some (.func (.func 58) #[] #[])) :
    Calls Try.prog 80 #[.slice ad xs.length cap, .func (.func 81) #[] #[.pointer (some ⟨bx, 0, none⟩)]] w fun e w' => e = .returned (.bool (!(xs.all A4.ok))) ∧ Below w.heap.size w w' := by
  have C := Lib.hid (index_any ad b o bx cap xs w had hb hn ha hc)
  clear had hb hn ha hc
  go_enter Try.func80, Try.ntmps80
  go_wp2_with (go_at_call 88; (with_reducible refine C.out.mono ?_); rintro e w' ⟨⟨r, rfl, hr, hr1⟩, hb⟩; have HB := Lib.hid hb; have HR := Lib.hid hr; clear hb hr)
  go_ret
  exact ⟨by rw [← HR.out]; rfl, HB.out⟩
set_option maxRecDepth 100000 in
set_option maxHeartbeats 800000 in
theorem all_any (ad : Option Addr) (b o cap : Nat) (xs : List A4) (w : World) (had : xs ≠ [] → ad = some ⟨b, o, none⟩) (hb : xs ≠ [] → b < w.heap.size) (hn : xs.length ≤ 1000) (ha : AreasAt w b o xs) :
    Calls Try.prog 63 #[.slice ad xs.length cap, .func (.func 58) #[] #[]] w fun e w' => e = .returned (.bool (xs.all A4.ok)) ∧ Below w.heap.size w w' := by
  obtain ⟨b1, b2, b3⟩ := one_new w #[.func (.func 58) #[] #[]] 107
  have ha' : AreasAt (w.alloc (.cells #[.func (.func 58) #[] #[]] 107)) b o xs := by
    by_cases hne : xs = []
    · subst hne; intro i a h; simp at h
    · exact ha.below b2 (hb hne)
  have C := Lib.hid (contains_any ad b o w.heap.size cap xs _ had (fun h => Nat.lt_of_lt_of_le (hb h) b2.size) hn ha' (b1.cell 0))
  have B2 := Lib.hid b2
  clear had hb hn ha ha' b1 b2 b3
  go_enter Try.func63, Try.ntmps63
  go_wp2_with (go_at_call 80; (with_reducible refine C.out.mono ?_); rintro e w' ⟨rfl, hb⟩; have HB := Lib.hid hb; clear hb)
  go_ret
  exact ⟨by simp, B2.out.trans (HB.out.mono B2.out.size)⟩

/-- is a fraction a level? -/
def levB (n d : Int) : Bool := inB d 1 1000 && inB n 0 d
set_option maxRecDepth 100000 in
set_option maxHeartbeats 400000 in
theorem level_any (n d : Int) (w : World) : Calls Try.prog 64 #[fracV n d] w fun e w' => e = .returned (.bool (levB n d)) ∧ Below w.heap.size w w' := by
  cases h1 : inB d 1 1000 with
  | false =>
    have h : levB n d = false := by simp [levB, h1]
    rw [h]
    go_enter Try.func64, Try.ntmps64
    go_wp2_with (first | (go_at_call 68; refine (within_any _ _ _ _).mono ?_; rintro e w' ⟨rfl, rfl⟩))
    go_ret
    exact ⟨rfl, (Below.refl _ _).alloc (Nat.le_refl _) _⟩
  | true =>
    have h : levB n d = inB n 0 d := by simp [levB, h1]
    rw [h]
    go_enter Try.func64, Try.ntmps64
    go_wp2_with (first | (go_at_call 68; refine (within_any _ _ _ _).mono ?_; rintro e w' ⟨rfl, rfl⟩))
    go_ret
    exact ⟨rfl, (Below.refl _ _).alloc (Nat.le_refl _) _⟩
end Go.Proofs.Ytkfobnhnehbkeaa
