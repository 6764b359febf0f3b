/- tithingtop: sounded: the closed example. -/
import Derived.Test.YtdfebccmjbocjaaGreatDoorYe
import Derived.Test.YtdfebccmjbocjaaGreatDoorNaG2
set_option linter.unusedVariables false
set_option linter.unusedSimpArgs false
namespace Go.Proofs.YtdfebccmjbocjaaGreatDoor
open Go.RowKit Go.Shelf
/-- what lies in a world whatever is laid behind it -/
structure Gd (w : World) : Prop where
  gt : GT w
  one : 1 < w.heap.size
theorem Gd.below {w w' : World} (h : Gd w) (hb : Below w.heap.size w w') : Gd w' := ⟨h.gt.below hb h.one, Nat.lt_of_lt_of_le h.one hb.size⟩
def esT : List Ent := [⟨0, 0, 5, 0, 0⟩, ⟨1, 0, 5, 0, 0⟩]
theorem and_two {t : Nat} (h : t &&& 2 = t) : t = 0 ∨ t = 2 := by
  have h1 : t ≤ 2 := by rw [← h]; exact Nat.and_le_right
  match t, h1, h with
  | 0, _, _ => exact .inl rfl
  | 1, _, h => exact absurd h (by decide)
  | 2, _, _ => exact .inr rfl
theorem readT0 {m Lw : Nat} (h : ReadOf esT [] [] m Lw) : m = 2 ∧ Lw = 1 := by
  obtain ⟨L, rfl, hL, rfl⟩ := h
  have e : (Sh.blocks esT.length []).length = 2 := by decide
  rw [e] at hL ⊢
  refine ⟨rfl, ?_⟩
  change L 3 = 1
  have h1 := hL.le 3 (by decide) (by decide) 2 (by decide) (by decide)
  change L 3 ≤ 1 + L 0 at h1
  rw [hL.zero] at h1
  rcases hL.ge 3 (by decide) (by decide) with h2 | ⟨t, _, _, h2⟩ <;> omega
theorem readT1 {m Lw : Nat} (h : ReadOf esT ([] ++ [(0, 1)]) [] m Lw) : m = 1 ∧ Lw = 1 := by
  obtain ⟨L, rfl, hL, rfl⟩ := h
  have e : (Sh.blocks esT.length ([] ++ [(0, 1)])).length = 1 := by decide
  rw [e] at hL ⊢
  refine ⟨rfl, ?_⟩
  change L 1 = 1
  have h1 := hL.le 1 (by decide) (by decide) 0 (by decide) (by decide)
  change L 1 ≤ 1 + L 0 at h1
  rw [hL.zero] at h1
  rcases hL.ge 1 (by decide) (by decide) with h2 | ⟨t, _, _, h2⟩ <;> omega
theorem readT2 {m Lw : Nat} (h : ReadOf esT [] ([] ++ [(0, 1)]) m Lw) : m = 2 ∧ 2 ≤ Lw := by
  obtain ⟨L, rfl, hL, rfl⟩ := h
  have e : (Sh.blocks esT.length []).length = 2 := by decide
  rw [e] at hL ⊢
  refine ⟨rfl, ?_⟩
  change 2 ≤ L 3
  have h0 : 1 ≤ L 2 := by rcases hL.ge 2 (by decide) (by decide) with h2 | ⟨t, _, _, h2⟩ <;> omega
  rcases hL.ge 3 (by decide) (by decide) with h2 | ⟨t, h1, h3, h2⟩
  · omega
  · rcases and_two (t := t) h1 with rfl | rfl
    · change L 3 = 1 + L 2 at h2; omega
    · exact absurd h3 (by decide)
theorem two_ok : CenOk esT [] [] (0, 0) (1, 1) :=
  ⟨by decide, by decide, by decide, fun e he => by simp [esT] at he; rcases he with rfl | rfl <;> decide, fun p hp => (by cases hp), fun p hp => (by cases hp), by decide, by decide⟩
theorem tog_two (W : World) (b : Nat) (hb : Blk W b #[.int .i64 0, .int .i64 0, .int .i64 5, .int .i64 0, .int .i64 0, .int .i64 1, .int .i64 0, .int .i64 5, .int .i64 0, .int .i64 0] 82) (hG : Gd W) :
    Calls Tryz.prog 17 #[.agg #[.slice (some ⟨b, 0, none⟩) 2 2, .slice none 0 0, .slice none 0 0, .int .i64 0, .int .i64 0, .int .i64 1, .int .i64 1], .int .i64 0, .int .i64 1] W fun e w' => e = .returned (.tuple #[.bool true, .bool true, .int .i64 0]) ∧ Below W.heap.size W w' := by
  refine (Together_ok ⟨some ⟨b, 0, none⟩, b, 0, 2⟩ ⟨none, 0, 0, 0⟩ ⟨none, 0, 0, 0⟩ esT [] [] (0, 0) (1, 1) (0, 1) W ⟨⟨fun _ => rfl, fun _ => hb.lt, ?_⟩, ⟨fun h => absurd rfl h, fun h => absurd rfl h, ?_⟩, ⟨fun h => absurd rfl h, fun h => absurd rfl h, ?_⟩, hG.gt, hG.one⟩ two_ok ?_ (.inl rfl) (.inl rfl) (by decide) (by decide) (by decide) (by decide) (by decide)).mono ?_
  · intro i e hi
    match i, hi with
    | 0, hi => simp [esT] at hi; subst hi; exact ⟨hb.cell 0, hb.cell 1, hb.cell 2, hb.cell 3, hb.cell 4⟩
    | 1, hi => simp [esT] at hi; subst hi; exact ⟨hb.cell 5, hb.cell 6, hb.cell 7, hb.cell 8, hb.cell 9⟩
  · intro i e hi; simp at hi
  · intro i e hi; simp at hi
  · intro m Lw h
    obtain ⟨rfl, rfl⟩ := readT0 h
    decide
  · rintro e w' ⟨m1, L1, m2, L2, h1, h2, rfl, hb⟩
    obtain ⟨rfl, rfl⟩ := readT1 h1
    obtain ⟨rfl, h3⟩ := readT2 h2
    refine ⟨?_, hb⟩
    have e1 : consB (0, 0) (1, 1) 1 1 = true := by decide
    have e2 : consB (0, 0) (1, 1) 2 L2 = false := by
      unfold consB pLo pHi
      rw [Bool.and_eq_false_iff]
      right
      rw [decide_eq_false_iff_not]
      simp only
      omega
    rw [e1, e2]; rfl
def rulT : Na.RB := ⟨[⟨#[68, 84]⟩], ⟨#[65, 69]⟩, 0, 0, 0, 0, 0⟩
theorem key_two (W : World) (b : Nat) (hb : Blk W b #[.string ⟨#[68, 84]⟩] 9) : Calls Tryz.prog 9 #[.agg #[.slice (some ⟨b, 0, none⟩) 1 1, .string ⟨#[65, 69]⟩, .int .i64 0, .int .i64 0, .int .i64 0, .int .i64 0, .int .i64 0], .string ⟨#[84, 65, 84, 69]⟩] W fun e w' => e = .returned (.tuple #[.string ⟨#[68]⟩, .int .i64 0]) ∧ Below W.heap.size W w' := by
  have h := Na.Key_good (some ⟨b, 0, none⟩) b 0 1 1 rulT W rfl ⟨fun _ => rfl, fun i a hi => ?_, fun _ => hb.lt⟩ (by decide) ⟨by decide, fun c hc => by simp [rulT] at hc; subst hc; decide, by decide⟩ ⟨#[84, 65, 84, 69]⟩ (by decide) (by kernel_rfl)
  · have e : Na.keyR rulT (ByteArray.mk #[84, 65, 84, 69]).data.toList = [68] := by kernel_rfl
    rw [e] at h
    exact h
  · match i, hi with
    | 0, hi => simp [rulT] at hi; subst hi; exact hb.cell 0
set_option maxRecDepth 100000 in
set_option maxHeartbeats 3200000 in
theorem sounded_any (w : World) (hG : Gd w) : Calls Tryz.prog 8 #[] w fun e w' => e = .returned (.bool true) ∧ Below w.heap.size w w' := by
  have C9 := Lib.hid (fun W b hb => key_two W b hb)
  have C17 := Lib.hid (fun W b hb hG => tog_two W b hb hG)
  have HG := Lib.hid hG
  have b0 := Blk.new w #[.string ⟨#[68, 84]⟩] 9
  have hb0 : Below w.heap.size w (w.alloc (.cells #[.string ⟨#[68, 84]⟩] 9)) := (Below.refl _ _).alloc (Nat.le_refl _) _
  have HB0 := Lib.hid hb0
  have B0 := Lib.hid b0
  clear hG hb0 b0
  go_enter Tryz.func8, Tryz.ntmps8
  go_wp2_with fail
  with_reducible refine (C9.out _ _ B0.out).mono ?_
  rintro e w1 ⟨rfl, hb⟩
  have HB1 := Lib.hid (HB0.out.trans (hb.mono HB0.out.size))
  have b1 := Blk.new w1 #[.int .i64 0, .int .i64 0, .int .i64 5, .int .i64 0, .int .i64 0, .int .i64 1, .int .i64 0, .int .i64 5, .int .i64 0, .int .i64 0] 82
  have hb1 : Below w1.heap.size w1 (w1.alloc (.cells #[.int .i64 0, .int .i64 0, .int .i64 5, .int .i64 0, .int .i64 0, .int .i64 1, .int .i64 0, .int .i64 5, .int .i64 0, .int .i64 0] 82)) := (Below.refl _ _).alloc (Nat.le_refl _) _
  have HB2 := Lib.hid hb1
  have B1 := Lib.hid b1
  clear hb b1 hb1
  go_wp2_with fail
  with_reducible refine (C17.out _ _ B1.out ((HG.out.below HB1.out).below HB2.out)).mono ?_
  rintro e w2 ⟨rfl, hb⟩
  have HB3 := Lib.hid (HB2.out.trans (hb.mono HB2.out.size))
  clear hb
  go_wp2_with fail
  go_ret
  exact ⟨rfl, HB1.out.trans (HB3.out.mono HB1.out.size)⟩
end Go.Proofs.YtdfebccmjbocjaaGreatDoor
