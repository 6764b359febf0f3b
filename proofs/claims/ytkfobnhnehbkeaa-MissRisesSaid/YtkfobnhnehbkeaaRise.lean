/- The walk of the statement on rises. -/
import Derived.Test.YtkfobnhnehbkeaaRis2
import Derived.Test.YtkfobnhnehbkeaaRis3
import Derived.Test.YtkfobnhnehbkeaaRis4
namespace Go.Proofs.Ytkfobnhnehbkeaa
open Go.RowKit Go.Shelf
open Mis (ch sets tot sm low up lower excl rng)

theorem MissRises_walk (L M S F b n d : Int) (w : World) (hb : (Lit.int .u8 b).wf = true) : Calls Try.prog 10 #[areaV L M S F, .int .u8 b, fracV n d] w fun e w' => e = .returned (.bool true) ∧ Below w.heap.size w w' := by
  have hb2 : 0 ≤ b ∧ b ≤ 255 := by simp [Lit.wf] at hb; exact hb
  cases h : areaB L M S F with
  | false => exact MissRises_area L M S F n d b w h
  | true =>
    cases hl : levB n d with
    | false => exact MissRises_level L M S F n d b w h hl
    | true =>
      obtain ⟨l, m, s, f, rfl, rfl, rfl, rfl, hk⟩ := okA.of h
      obtain ⟨e1, e2, h3, h4, h5⟩ := lev_nat hl
      rw [e1, e2] at hl ⊢
      generalize n.toNat = n at *
      generalize d.toNat = d at *
      by_cases hm : m = 0
      · subst hm; exact MissRises_nobody l s f n d b w hk hl
      · have p1 : 0 ≤ b % (m : Int) := Int.emod_nonneg _ (by omega)
        have p2 : b % (m : Int) < m := Int.emod_lt_of_pos _ (by omega)
        obtain ⟨u, hu⟩ : ∃ u : Nat, b % (m : Int) = u := ⟨(b % (m : Int)).toNat, by omega⟩
        have hum : u + 1 ≤ m := by omega
        have hex : excl l s f n d u = (lower (Mis.low l u s f) (tot l u s) n d || lower (Mis.up l u s f) (tot l u s) n d) := rfl
        cases hr : rangeOf l m s f n d with
        | none =>
          have hx := rangeOf_none hr u (by omega)
          cases hT : lower (Mis.low l u s f) (tot l u s) n d with
          | true => exact MissRises_none_t l m s f n d u b w hk hl (by omega) hb2 hu hum hT hr
          | false =>
            rw [hx, hT] at hex
            exact MissRises_none_f l m s f n d u b w hk hl (by omega) hb2 hu hum hT (by simpa using hex.symm) hr
        | some r =>
          obtain ⟨h6, h7, h8, h9, h10⟩ := rangeOf_some hr
          have hin : excl l s f n d u = true → u < r.1 ∨ r.2 < u := fun he => by
            by_cases h11 : u < r.1
            · exact .inl h11
            · by_cases h12 : r.2 < u
              · exact .inr h12
              · have := Mis.excl_between hk.2.2 hk.2.1 (u := r.1) (v := r.2) (x := u) (by omega) (by omega) h6 h7
                rw [he] at this; cases this
          cases hT : lower (Mis.low l u s f) (tot l u s) n d with
          | true => exact MissRises_some_t l m s f n d u b w hk hl (by omega) hb2 hu hum hT r.1 r.2 hr h8 (hin (by rw [hex, hT]; rfl))
          | false =>
            cases hT2 : lower (Mis.up l u s f) (tot l u s) n d with
            | true => exact MissRises_some_f l m s f n d u b w hk hl (by omega) hb2 hu hum hT hT2 r.1 r.2 hr h8 (hin (by rw [hex, hT, hT2]; rfl))
            | false => exact MissRises_some_ff l m s f n d u b w hk hl (by omega) hb2 hu hum hT hT2 r.1 r.2 hr h8 (h10 u (by omega) (by rw [hex, hT, hT2]; rfl))
end Go.Proofs.Ytkfobnhnehbkeaa
