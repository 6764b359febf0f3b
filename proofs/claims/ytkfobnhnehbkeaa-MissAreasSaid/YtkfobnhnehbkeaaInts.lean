/- The walk of ints of the laws of layer 6: are two lists equal? -/
import Derived.Test.YtkfobnhnehbkeaaSmall
import Derived.Test.YtkfobnhnehbkeaaDraw2
namespace Go.Proofs.Ytkfobnhnehbkeaa
open Go.RowKit Go.Shelf

set_option maxRecDepth 100000 in
set_option maxHeartbeats 400000 in
theorem ints_any (a1 a2 : Option Addr) (b1 o1 b2 o2 c1 c2 : Nat) (xs ys : List Int) (w : World) (hx : xs ≠ [] → a1 = some ⟨b1, o1, none⟩) (hy : ys ≠ [] → a2 = some ⟨b2, o2, none⟩) (hn : xs.length ≤ 1000) (h1 : IntsAt w b1 o1 xs) (h2 : IntsAt w b2 o2 ys) :
    Calls Try.prog 30 #[.slice a1 xs.length c1, .slice a2 ys.length c2] w fun e w' => e = .returned (.bool (decide (xs = ys))) ∧ ∃ q, w' = w.drewN q := by
  by_cases hl : xs.length = ys.length
  · have H1 := Lib.hid h1
    have H2 := Lib.hid h2
    have HX := Lib.hid hx
    have HY := Lib.hid hy
    rw [← hl]
    have HL := Lib.hid hl
    obtain ⟨n, hN⟩ : ∃ k, k = xs.length := ⟨_, rfl⟩
    have HN := Lib.hid hN
    rw [← hN] at hn ⊢
    clear h1 h2 hx hy hl hN
    have hr : ∃ r, r = decide (xs = ys) := ⟨_, rfl⟩
    obtain ⟨r, hr⟩ := hr
    have HR := Lib.hid hr
    rw [← hr]
    clear hr
    go_enter Try.func30, Try.ntmps30
    go_wp2
    go_loopw [5] (fun x wr => ∃ i : Nat, i ≤ n ∧ x = .int .i64 (i : Int) ∧ (xs.take i = ys.take i) ∧ ∃ q, wr = w.drewN q) (fun x _ => n - (intOf x).toNat)
    case atStart => exact ⟨0, by omega, rfl, by simp, 0, rfl⟩
    case round =>
      obtain ⟨i, hi, rfl, hall, q, rfl⟩ := hrel
      have HT := Lib.hid hall
      clear hall
      by_cases hlt : i < n
      · obtain ⟨x, hxi⟩ : ∃ x, xs[i]? = some x := ⟨xs[i]'(by rw [← HN.out]; exact hlt), by simp⟩
        obtain ⟨y, hyi⟩ : ∃ y, ys[i]? = some y := ⟨ys[i]'(by rw [← HL.out, ← HN.out]; exact hlt), by simp⟩
        have e1 := HX.out (by rintro rfl; simp at hxi)
        have e2 := HY.out (by rintro rfl; simp at hyi)
        subst e1 e2
        have k0 := H1.out i x hxi
        have k1 := H2.out i y hyi
        have XI := Lib.hid hxi
        have YI := Lib.hid hyi
        clear hxi hyi
        by_cases hxy : x = y
        · subst hxy
          have t0 : (x != x) = false := by simp
          go_wp2
          go_quiet (fail)
          go_wp2
          go_roundw
          case rel =>
            refine ⟨i + 1, by omega, by go_num, ?_, _, rfl⟩
            rw [List.take_add_one, List.take_add_one, HT.out, XI.out, YI.out]
          case measure => simp [intOf]; omega
        · have t0 : (x != y) = true := by simpa using hxy
          have HXY := Lib.hid hxy
          clear hxy
          go_wp2
          go_quiet (fail)
          go_wp2
          go_ret
          refine ⟨?_, _, World.drewN_drewN _ _ _⟩
          have : r = false := by
            rw [HR.out]
            simp only [decide_eq_false_iff_not]
            rintro rfl
            have h1 := XI.out
            rw [YI.out] at h1
            exact HXY.out (Option.some.inj h1).symm
          rw [this]; rfl
      · obtain rfl : i = n := by omega
        go_wp2
        go_ret
        refine ⟨?_, q, rfl⟩
        have : r = true := by
          rw [HR.out]
          have h1 := HT.out
          rw [List.take_of_length_le (by rw [← HN.out]; omega), List.take_of_length_le (by rw [← HL.out, ← HN.out]; omega)] at h1
          simpa using h1
        rw [this]; rfl
  · have e : decide (xs = ys) = false := by
      simp only [decide_eq_false_iff_not]; rintro rfl; exact hl rfl
    rw [e]
    obtain ⟨m, hm⟩ : ∃ k, k = xs.length := ⟨_, rfl⟩
    obtain ⟨n, hn'⟩ : ∃ k, k = ys.length := ⟨_, rfl⟩
    rw [← hm, ← hn'] at hl ⊢
    have t0 : ((m : Int) != (n : Int)) = true := by simp; omega
    have t1 : (m != n) = true := by simpa using hl
    clear hx hy hn h1 h2 hm hn' e
    go_enter Try.func30, Try.ntmps30
    go_wp2
    go_ret
    exact ⟨rfl, 0, rfl⟩
end Go.Proofs.Ytkfobnhnehbkeaa
