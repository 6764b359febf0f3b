/- MissTotals, whole. -/
import Derived.Test.YtkfobnhnehbkeaaTotP
import Derived.Test.YtkfobnhnehbkeaaTotD
import Derived.Test.YtkfobnhnehbkeaaTotD2
import Derived.Test.YtkfobnhnehbkeaaTotD3
namespace Go.Proofs.Ytkfobnhnehbkeaa
open Go.RowKit Go.Shelf

set_option maxRecDepth 100000 in
set_option maxHeartbeats 4000000 in
theorem tot_long (ad : Option Addr) (cap k : Nat) (n d : Int) (w : World) (hk : 9 < k) :
    Calls Try.prog 5 #[.slice ad k cap, fracV n d] w fun e w' => e = .returned (.bool true) ∧ Below w.heap.size w w' := by
  have t9 : decide ((9 : Int) < (k : Int)) = true := by simp; omega
  have s0 := (KS.start w).new #[.int .i64 n, .int .i64 d] 36
  have S0 := Lib.hid s0
  clear s0
  go_enter Try.func5, Try.ntmps5
  go_wp2_with (first | (go_at_call 24; (with_reducible refine (awake_any _).mono ?_); rintro e w99 ⟨rfl, h99⟩; have S99 := Lib.hid (S0.out.below h99); clear h99))
  go_ret
  exact ⟨rfl, S99.out.bel⟩
theorem MissTotals_walk (ad : Option Addr) (g o cap : Nat) (xs : List A4) (n d : Int) (w : World) (had : xs ≠ [] → ad = some ⟨g, o, none⟩) (hb : xs ≠ [] → g < w.heap.size) (ha : AreasAt w g o xs) :
    Calls Try.prog 5 #[.slice ad xs.length cap, fracV n d] w fun e w' => e = .returned (.bool true) ∧ Below w.heap.size w w' := by
  by_cases h9 : 9 < xs.length
  · exact tot_long ad cap _ n d w h9
  · match xs, had, hb, ha, h9 with
    | [], had, hb, ha, _ =>
      cases hl : levB n d with
      | false => exact tot_B0 ad g o cap 0 [] n d w rfl had hb rfl (by simp) (by simp) ha rfl hl
      | true =>
        obtain ⟨e1, e2, _⟩ := lev_nat hl
        obtain ⟨p, rfl⟩ : ∃ p : Nat, n = p := ⟨_, e1⟩
        obtain ⟨q, rfl⟩ : ∃ q : Nat, d = q := ⟨_, e2⟩
        exact tot_DZ ad g o cap 0 [] p q w rfl had hb rfl (by simp) (by simp) ha rfl hl 0 0 rfl
    | ⟨L, M, S, F⟩ :: ys, had, hb, ha, h9 =>
      obtain rfl := had (by simp)
      have hb' := hb (by simp)
      by_cases h6 : 6 < (A4.mk L M S F :: ys).length
      · cases hall : (A4.mk L M S F :: ys).all A4.ok with
        | false => exact tot_A3 L M S F g o cap _ _ n d w rfl rfl hb' (by omega) h6 ha hall
        | true =>
          cases hl : levB n d with
          | false => exact tot_B3 L M S F g o cap _ _ n d w rfl rfl hb' (by omega) h6 ha hall hl
          | true => exact tot_C3 L M S F g o cap _ _ n d w rfl rfl hb' (by omega) h6 ha hall hl
      · cases hall : (A4.mk L M S F :: ys).all A4.ok with
        | false => exact tot_A L M S F g o cap _ _ n d w rfl rfl hb' (by omega) (by omega) ha hall
        | true =>
          cases hl : levB n d with
          | false => exact tot_B L M S F g o cap _ _ n d w rfl rfl hb' (by omega) (by omega) ha hall hl
          | true =>
            obtain ⟨e1, e2, _⟩ := lev_nat hl
            obtain ⟨p, rfl⟩ : ∃ p : Nat, n = p := ⟨_, e1⟩
            obtain ⟨q, rfl⟩ : ∃ q : Nat, d = q := ⟨_, e2⟩
            cases ht : totS p q (A4.mk L M S F :: ys) with
            | none => exact tot_DN L M S F g o cap _ _ p q w rfl rfl hb' (by omega) (by omega) ha hall hl ht
            | some r => exact tot_DS L M S F g o cap _ _ p q w rfl rfl hb' (by omega) (by omega) ha hall hl r.1 r.2 ht
end Go.Proofs.Ytkfobnhnehbkeaa
