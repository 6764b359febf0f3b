/- sheet: cut, limits, whole. -/
import Derived.Test.YtdfebccmjbocjaaGreatDoorZc
set_option linter.unusedVariables false
set_option linter.unusedSimpArgs false
namespace Go.Proofs.YtdfebccmjbocjaaGreatDoor
open Go.RowKit Go.Shelf
/-- the ways through a region meet again -/
theorem wp_joinZ {ι : Type} {P : Program} {code : Code} {Q : Exit → Act → World → Prop} {a : Act} {W : World} (f : Act → ι → Act) (mid : ι → World → Prop)
    (h1 : code.wp P (fun e a' W' => e = .normal ∧ ∃ b, a' = f a b ∧ mid b W') a W) (h2 : ∀ b W', mid b W' → Q .normal (f a b) W') : code.wp P Q a W :=
  Code.wp_mono (fun e a' W' h => by obtain ⟨rfl, b, rfl, hm⟩ := h; exact h2 b W' hm) h1
set_option maxRecDepth 100000 in
set_option maxHeartbeats 1600000 in
theorem cut_s (a b lo hi : Int) (w : World) : Calls Tryz.prog 36 #[rngV a b, .int .i64 lo, .int .i64 hi] w fun e w' => e = .returned (rngV (max a lo) (min b hi)) ∧ Below w.heap.size w w' := by
  obtain ⟨BS, hBS⟩ : ∃ BS : List (Nat × Array Value × TypeId), BS = [(w.heap.size, #[.int .i64 a, .int .i64 b], 48), (w.heap.size + 1 + 1, #[.func (.func 68) #[] #[]], 140), (w.heap.size + 1 + 1 + 1, #[.func (.func 69) #[] #[]], 140)] := ⟨_, rfl⟩
  have hZ : KZ w BS (w.heap.size + 1) #[.int .i64 0, .int .i64 0] 48 ((((w.alloc (.cells #[.int .i64 a, .int .i64 b] 48)).alloc (.cells #[.int .i64 0, .int .i64 0] 48)).alloc (.cells #[.func (.func 68) #[] #[]] 140)).alloc (.cells #[.func (.func 69) #[] #[]] 140)) := by
    have s := ((((KS.start w).new #[.int .i64 a, .int .i64 b] 48).new #[.int .i64 0, .int .i64 0] 48).new #[.func (.func 68) #[] #[]] 140).new #[.func (.func 69) #[] #[]] 140
    simp only [World.size_alloc] at s
    refine ⟨⟨fun x hx => ?_, s.2⟩, s.blkAt 2 rfl, fun x hx => ?_, by omega⟩
    · rw [hBS] at hx
      simp only [List.mem_cons, List.not_mem_nil, or_false] at hx
      rcases hx with rfl | rfl | rfl
      · exact s.blkAt 3 rfl
      · exact s.blkAt 1 rfl
      · exact s.blkAt 0 rfl
    · rw [hBS] at hx
      simp only [List.mem_cons, List.not_mem_nil, or_false] at hx
      rcases hx with rfl | rfl | rfl <;> (intro e; simp only at e; omega)
  have K0 : ∀ W, KS w BS W → W.cell? ⟨w.heap.size, 0, none⟩ = some (.int .i64 a) := fun W h => by rw [hBS] at h; exact (h.blkAt 0 rfl).cell 0
  have K1 : ∀ W, KS w BS W → W.cell? ⟨w.heap.size, 1, none⟩ = some (.int .i64 b) := fun W h => by rw [hBS] at h; exact (h.blkAt 0 rfl).cell 1
  have K2 : ∀ W, KS w BS W → W.cell? ⟨w.heap.size + 1 + 1, 0, none⟩ = some (.func (.func 68) #[] #[]) := fun W h => by rw [hBS] at h; exact (h.blkAt 1 rfl).cell 0
  have K3 : ∀ W, KS w BS W → W.cell? ⟨w.heap.size + 1 + 1 + 1, 0, none⟩ = some (.func (.func 69) #[] #[]) := fun W h => by rw [hBS] at h; exact (h.blkAt 2 rfl).cell 0
  have KZ0 : ∀ W, KZ w BS (w.heap.size + 1) #[.int .i64 0, .int .i64 0] 48 W → W.cell? ⟨w.heap.size + 1, 0, none⟩ = some (.int .i64 0) := fun W h => h.c0
  have KZ1 : ∀ W, KZ w BS (w.heap.size + 1) #[.int .i64 0, .int .i64 0] 48 W → W.cell? ⟨w.heap.size + 1, 1, none⟩ = some (.int .i64 0) := fun W h => h.c1
  have KF0 : ∀ W, KZ w BS (w.heap.size + 1) #[.int .i64 0, .int .i64 0] 48 W → W.frozen? ⟨w.heap.size + 1, 0, none⟩ = false := fun W h => h.f 0
  have KF1 : ∀ W, KZ w BS (w.heap.size + 1) #[.int .i64 0, .int .i64 0] 48 W → W.frozen? ⟨w.heap.size + 1, 1, none⟩ = false := fun W h => h.f 1
  clear hBS
  have HZ := Lib.hid hZ
  clear hZ
  generalize hx : max a lo = x
  generalize hy : min b hi = y
  have HX := Lib.hid (fun W => hx ▸ above_s a b lo W)
  have HY := Lib.hid (fun W => hy ▸ below_s a b hi W)
  clear hx hy
  go_enter Tryz.func36, Tryz.ntmps36
  go_wp2_with fail
  have hZ := HZ.out
  have hS := hZ.ks
  refine wp_joinZ (ι := Unit) (f := fun aa _ => (((((((((((aa.put (some 11) (.pointer (some ⟨w.heap.size + 1 + 1, 0, none⟩))).put (some 12) (.func (.func 68) #[] #[])).put (some 13) (rngV a b)).put (some 14) (.int .i64 lo)).put (some 15) (.int .i64 x)).put (some 16) (.pointer (some ⟨w.heap.size + 1 + 1 + 1, 0, none⟩))).put (some 17) (.func (.func 69) #[] #[])).put (some 18) (rngV a b)).put (some 19) (.int .i64 hi)).put (some 20) (.int .i64 y)).put (some 21) (rngV x y))) (mid := fun _ W' => Blk W' (w.heap.size + 1) #[.int .i64 x, .int .i64 y] 48 ∧ Below w.heap.size w W') ?_ ?_
  · go_region_held3 (KS w BS)
      (first | assumption | exact KS.drew (by assumption) | exact KZ.ks (by assumption) | exact KZ.keep2 (by assumption) | exact (KZ.keep2 (by assumption)).drew | exact (KZ.drew (by assumption)).keep2 | go_keep)
      (first | (go_at_call 68; (with_reducible refine (HX.out _).mono ?_); rintro e wn ⟨rfl, hb⟩; have hSn := KS.below (w := w) (bs := BS) (by first | assumption | exact KS.drew (by assumption)) hb; have hZn := KZ.below (w := w) (bs := BS) (b := w.heap.size + 1) (by first | assumption | exact KZ.drew (by assumption)) hb; clear hb) | (go_at_call 69; (with_reducible refine (HY.out _).mono ?_); rintro e wn ⟨rfl, hb⟩; have hSn := KS.below (w := w) (bs := BS) (by first | assumption | exact KS.drew (by assumption)) hb; have hZn := KZ.below (w := w) (bs := BS) (b := w.heap.size + 1) (by first | assumption | exact KZ.drew (by assumption)) hb; clear hb))
    all_goals exact ⟨rfl, (), rfl, by first | (have h := KZ.put2 (w := w) (bs := BS) (b := w.heap.size + 1) (x' := .int .i64 x) (y' := .int .i64 y) (by assumption); exact ⟨h.2.1, h.1.2⟩) | (have h := KZ.put2D (w := w) (bs := BS) (b := w.heap.size + 1) (x' := .int .i64 x) (y' := .int .i64 y) (by assumption); exact ⟨h.2.1, h.1.2⟩)⟩
  rintro _ W' ⟨hb, hB⟩
  have HB := Lib.hid hB
  have c0 := hb.cell 0
  have c1 := hb.cell 1
  have hl := hb.lt
  clear hB hb hZ hS K0 K1 K2 K3 KZ0 KZ1 KF0 KF1
  simp only [Act.put, List.setIfInBounds_toArray, List.set_cons_zero, List.set_cons_succ]
  go_wp2_with fail
  refine bodyPost_ret (v := rngV x y) (by simp [results, Tryz.results36, go_sem, c0, c1, hl]) rfl ⟨rfl, HB.out⟩
end Go.Proofs.YtdfebccmjbocjaaGreatDoor
