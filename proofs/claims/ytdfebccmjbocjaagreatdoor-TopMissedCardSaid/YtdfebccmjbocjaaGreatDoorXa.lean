/- tithingtop: missed: the closed example. -/
import Derived.Test.YtdfebccmjbocjaaGreatDoorYc
import Derived.Test.YtdfebccmjbocjaaGreatDoorMx
import Derived.Test.YtdfebccmjbocjaaGreatDoorMiG7
set_option linter.unusedVariables false
set_option linter.unusedSimpArgs false
namespace Go.Proofs.YtdfebccmjbocjaaGreatDoor
open Go.RowKit Go.Shelf
/-- what lies in a world whatever is laid behind it -/
structure Gd (w : World) : Prop where
  gt : GT w
  one : 1 < w.heap.size
theorem Gd.below {w w' : World} (h : Gd w) (hb : Below w.heap.size w w') : Gd w' := ⟨h.gt.below hb h.one, Nat.lt_of_lt_of_le h.one hb.size⟩
theorem read_one {m Lw : Nat} (h : ReadOf [⟨0, 0, 0, 0, 0⟩] [] [] m Lw) : m = 1 ∧ Lw = 1 := by
  obtain ⟨L, rfl, hL, rfl⟩ := h
  have e : (Sh.blocks (List.length [(⟨0, 0, 0, 0, 0⟩ : Ent)]) []).length = 1 := by decide
  rw [e] at hL ⊢
  refine ⟨rfl, ?_⟩
  change L 1 = 1
  have h1 := hL.le 1 (by decide) (by decide) 0 (by decide) (by decide)
  change L 1 ≤ 1 + L 0 at h1
  rw [hL.zero] at h1
  rcases hL.ge 1 (by decide) (by decide) with h2 | ⟨t, _, _, h2⟩ <;> omega
theorem one_ok : CenOk [⟨0, 0, 0, 0, 0⟩] [] [] (0, 3) (3, 3) :=
  ⟨by decide, by decide, by decide, fun e he => by simp at he; subst he; decide, fun p hp => (by cases hp), fun p hp => (by cases hp), by decide, by decide⟩
theorem pers_one (W : World) (b : Nat) (hb : Blk W b #[.int .i64 0, .int .i64 0, .int .i64 0, .int .i64 0, .int .i64 0] 82) (hG : Gd W) :
    Calls Tryz.prog 13 #[.agg #[.slice (some ⟨b, 0, none⟩) 1 1, .slice none 0 0, .slice none 0 0, .int .i64 0, .int .i64 3, .int .i64 3, .int .i64 3]] W fun e w' => e = .returned (.tuple #[rngV 1 1, rngV 2 2, .int .i64 0]) ∧ Below W.heap.size W w' := by
  refine (Persons_ok ⟨some ⟨b, 0, none⟩, b, 0, 1⟩ ⟨none, 0, 0, 0⟩ ⟨none, 0, 0, 0⟩ [⟨0, 0, 0, 0, 0⟩] [] [] (0, 3) (3, 3) W ⟨⟨fun _ => rfl, fun _ => hb.lt, ?_⟩, ⟨fun h => absurd rfl h, fun h => absurd rfl h, ?_⟩, ⟨fun h => absurd rfl h, fun h => absurd rfl h, ?_⟩, hG.gt, hG.one⟩ one_ok ?_).mono ?_
  · intro i e hi
    match i, hi with
    | 0, hi => simp at hi; subst hi; exact ⟨hb.cell 0, hb.cell 1, hb.cell 2, hb.cell 3, hb.cell 4⟩
  · intro i e hi; simp at hi
  · intro i e hi; simp at hi
  · intro m Lw h
    obtain ⟨rfl, rfl⟩ := read_one h
    decide
  · rintro e w' ⟨m, Lw, h, rfl, hb⟩
    obtain ⟨rfl, rfl⟩ := read_one h
    exact ⟨rfl, hb⟩
theorem miss_one (W : World) : Calls Tryz.prog 23 #[.agg #[.int .i64 4, .int .i64 3, .int .i64 2, .int .i64 2], .agg #[.int .i64 0, .int .i64 1]] W fun e w' => e = .returned (.tuple #[.agg #[.int .i64 0, .int .i64 3], .int .i64 0]) ∧ Below W.heap.size W w' := by
  have h := Mi.Missed_ok (l := 4) (M := 3) (s := 2) (f := 2) (by unfold Mi.okA; omega) (n := 0) (d := 1) (by decide) W
  rw [Mi.rangeOf_zero] at h
  exact h
set_option maxRecDepth 100000 in
set_option maxHeartbeats 3200000 in
theorem missed_any (w : World) (hG : Gd w) : Calls Tryz.prog 20 #[] w fun e w' => e = .returned (.bool true) ∧ Below w.heap.size w w' := by
  have C23 := Lib.hid (fun W => miss_one W)
  have C13 := Lib.hid (fun W b hb hG => pers_one W b hb hG)
  have HG := Lib.hid hG
  clear hG
  go_enter Tryz.func20, Tryz.ntmps20
  go_wp2_with (go_at_call 23; (with_reducible refine (C23.out _).mono ?_); rintro e w' ⟨rfl, hb⟩; have HB := Lib.hid hb; clear hb)
  have s0 := ((KS.start w').new #[.int .i64 0, .int .i64 3] 73).new #[.int .i64 0, .int .i64 0, .int .i64 0, .int .i64 0, .int .i64 0] 82
  simp only [World.size_alloc] at s0
  refine (C13.out _ _ (s0.blkAt 0 rfl) ((HG.out.below HB.out).below s0.bel)).mono ?_
  rintro e w2 ⟨rfl, hb⟩
  have k2 := s0.below hb
  have c0 := (k2.blkAt 1 rfl).cell 0
  have c1 := (k2.blkAt 1 rfl).cell 1
  have cl := (k2.blkAt 1 rfl).lt
  have HF := Lib.hid (HB.out.trans (k2.bel.mono HB.out.size))
  clear hb k2 s0
  go_wp2_with fail
  go_ret
  exact ⟨rfl, (HF.out.alloc HF.out.size _).alloc (by have := HF.out.size; simp; omega) _⟩
end Go.Proofs.YtdfebccmjbocjaaGreatDoor
