/- The walk of the statement on levels. -/
import Derived.Test.YtkfobnhnehbkeaaLev2
import Derived.Test.YtkfobnhnehbkeaaLev3
import Derived.Test.YtkfobnhnehbkeaaLev4
namespace Go.Proofs.Ytkfobnhnehbkeaa
open Go.RowKit Go.Shelf
open Mis (ch sets tot sm low up lower excl rng)

theorem MissLevels_walk (L M S F n d b : Int) (w : World) (hb : (Lit.int .u16 b).wf = true) : Calls Try.prog 11 #[areaV L M S F, fracV n d, .int .u16 b] w fun e w' => e = .returned (.bool true) ∧ Below w.heap.size w w' := by
  have hb2 : 0 ≤ b ∧ b ≤ 65535 := by simp [Lit.wf] at hb; exact hb
  cases h : areaB L M S F with
  | false => exact MissLevels_area L M S F n d b w h
  | true =>
    cases hl : levB n d with
    | false => exact MissLevels_level L M S F n d b w h hl
    | true =>
      obtain ⟨l, m, s, f, rfl, rfl, rfl, rfl, hk⟩ := okA.of h
      obtain ⟨e1, e2, h3, h4, h5⟩ := lev_nat hl
      rw [e1, e2] at hl ⊢
      generalize n.toNat = n at *
      generalize d.toNat = d at *
      obtain ⟨x, hx⟩ : ∃ x : Nat, max (0 : Int) ((n : Int) - b) = (x : Int) := ⟨(max (0 : Int) ((n : Int) - b)).toNat, by omega⟩
      have hxn : x ≤ n := by omega
      have hlx : levB x d = true := by simp [levB, inB]; omega
      cases hr : rangeOf l m s f n d with
      | none =>
        cases hq : rangeOf l m s f x d with
        | none => exact MissLevels_nn l m s f n d x b w hk hl hlx hb2 hx hr hq
        | some q => exact MissLevels_ns l m s f n d x b w hk hl hlx hb2 hx q.1 q.2 hr hq
      | some r =>
        obtain ⟨q, hq, h6, h7⟩ := range_mono hxn hr
        exact MissLevels_ss l m s f n d x b w hk hl hlx hb2 hx r.1 r.2 q.1 q.2 hr hq h6 h7
end Go.Proofs.Ytkfobnhnehbkeaa
