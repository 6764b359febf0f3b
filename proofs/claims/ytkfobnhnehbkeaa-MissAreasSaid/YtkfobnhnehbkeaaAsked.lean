/- The walks of Area.work, Area.asked, Chance and Tail of package miss. -/
import Derived.Test.YtkfobnhnehbkeaaChance
import Derived.Laws.EntriesVeiled
namespace Go.Proofs.Ytkfobnhnehbkeaa
open Go.RowKit
open Mis (ch sets tot sm low up)

set_option maxRecDepth 100000 in
set_option maxHeartbeats 400000 in
theorem work_any (L M S F : Int) (w : World) : Calls Try.prog 59 #[areaV L M S F] w fun e w' => e = .returned (workV L M S F (w.heap.size + 1 + 1)) ∧ Memo w' (w.heap.size + 1 + 1) ∧ Below w.heap.size w w' := by
  have hmm := @run_makeMap Try.prog
  go_enter Try.func59, Try.ntmps59
  go_wp2
  refine bodyPost_ret (v := workV L M S F (w.heap.size + 1 + 1)) (by simp [results, Try.results59, go_sem]) rfl ⟨rfl, ?_, ?_⟩
  · have := Memo.made ((w.alloc (.cells #[.int .i64 L, .int .i64 M, .int .i64 S, .int .i64 F] 29)).alloc (.cells #[.int .i64 L, .int .i64 M, .int .i64 S, .int .i64 F, .map (some (w.heap.size + 1 + 1))] 99))
    simp only [World.size_alloc] at this
    exact this
  · exact ((((Below.refl _ _).alloc (Nat.le_refl _) _).alloc (by simp) _).alloc (by simp; omega) _)

set_option maxRecDepth 100000 in
set_option maxHeartbeats 400000 in
theorem asked_arg (L M S F u : Int) (tv : Value) (k : Nat) (htv : tv = .agg #[.func (.func k) #[] #[]]) (w : World) (h : areaB L M S F = false) :
    Calls Try.prog 52 #[areaV L M S F, .int .i64 u, tv] w fun e w' => e = .returned (.tuple #[fracV 0 0, .int .i64 1]) ∧ Below w.heap.size w w' := by
  subst htv
  have C58 := Lib.hid (fun w => valid_any L M S F w)
  rw [h] at C58
  clear h
  go_enter Try.func52, Try.ntmps52
  go_wp2_with fail
  obtain ⟨b1, b2, b3, hb0, hsz⟩ := three_new w #[.int .i64 L, .int .i64 M, .int .i64 S, .int .i64 F] #[.func (.func k) #[] #[]] #[.int .i64 0, .int .i64 0] 29 93 25
  generalize ((w.alloc (.cells #[.int .i64 L, .int .i64 M, .int .i64 S, .int .i64 F] 29)).alloc (.cells #[.func (.func k) #[] #[]] 93)).alloc (.cells #[.int .i64 0, .int .i64 0] 25) = W0 at *
  refine (C58.out _).mono ?_
  rintro e w1 ⟨rfl, hb1⟩
  have c3 := b3.below hb1 b3.lt
  obtain ⟨k6, k7, k8, k9⟩ := c3.c2
  have lt3 := c3.lt
  have HB := Lib.hid (hb0.trans (hb1.mono hb0.size))
  clear b1 b2 b3 c3 hb0 hb1 hsz
  go_wp2
  refine bodyPost_ret (v := .tuple #[fracV 0 0, .int .i64 1]) (by simp [results, Try.results52, go_sem, k6, k7]) rfl ⟨rfl, ?_⟩
  repeat (first | exact HB.out | (refine Below.setCell ?_ (by show w.heap.size ≤ w.heap.size + 1 + 1; omega) _))

set_option maxRecDepth 100000 in
set_option maxHeartbeats 400000 in
theorem asked_range (L M S F u : Int) (tv : Value) (k : Nat) (htv : tv = .agg #[.func (.func k) #[] #[]]) (w : World) (h : areaB L M S F = true) (hu : inB u 0 M = false) :
    Calls Try.prog 52 #[areaV L M S F, .int .i64 u, tv] w fun e w' => e = .returned (.tuple #[fracV 0 0, .int .i64 2]) ∧ Below w.heap.size w w' := by
  subst htv
  have C58 := Lib.hid (fun w => valid_any L M S F w)
  rw [h] at C58
  have C68 := Lib.hid (fun w => within_any u 0 M w)
  rw [hu] at C68
  clear h hu
  go_enter Try.func52, Try.ntmps52
  go_wp2_with fail
  obtain ⟨b1, b2, b3, hb0, hsz⟩ := three_new w #[.int .i64 L, .int .i64 M, .int .i64 S, .int .i64 F] #[.func (.func k) #[] #[]] #[.int .i64 0, .int .i64 0] 29 93 25
  generalize ((w.alloc (.cells #[.int .i64 L, .int .i64 M, .int .i64 S, .int .i64 F] 29)).alloc (.cells #[.func (.func k) #[] #[]] 93)).alloc (.cells #[.int .i64 0, .int .i64 0] 25) = W0 at *
  refine (C58.out _).mono ?_
  rintro e w1 ⟨rfl, hb1⟩
  have c3 := b3.below hb1 b3.lt
  have c1 := b1.below hb1 b1.lt
  obtain ⟨k6, k7, k8, k9⟩ := c3.c2
  obtain ⟨k0, k1, k2, k3⟩ := c1.c4
  have lt3 := c3.lt
  have lt1 := c1.lt
  have HB := Lib.hid (hb0.trans (hb1.mono hb0.size))
  clear b1 b2 b3 c1 c3 hb0 hb1 hsz
  go_wp2_with (go_at_call 68; (with_reducible refine (C68.out _).mono ?_); rintro e w' ⟨rfl, rfl⟩)
  refine bodyPost_ret (v := .tuple #[fracV 0 0, .int .i64 2]) (by simp [results, Try.results52, go_sem, k6, k7]) rfl ⟨rfl, ?_⟩
  repeat (first | exact HB.out | (refine Below.setCell ?_ (by show w.heap.size ≤ w.heap.size + 1 + 1; omega) _))

/-- what the chance of a tail is to be -/
def TailSays (k : Nat) (M : Int) (l u s f N D : Nat) : Prop := ∀ (mb : Nat) (w : World), Memo w mb → Calls Try.prog 61 #[workV l M s f mb, .int .i64 u, .agg #[.func (.func k) #[] #[]]] w fun e w' => e = .returned (fracV N D) ∧ Memo w' mb ∧ w.grownBy w' (some mb)

set_option maxRecDepth 100000 in
set_option maxHeartbeats 800000 in
theorem asked_ok (M : Int) (l u s f N D : Nat) (tv : Value) (k : Nat) (htv : tv = .agg #[.func (.func k) #[] #[]]) (w : World) (h : areaB l M s f = true) (hu : inB u 0 M = true) (hT : TailSays k M l u s f N D) (hD : 0 < D) (hN : N ≤ 4611686018427387904) (hD2 : D ≤ 4611686018427387904) :
    Calls Try.prog 52 #[areaV l M s f, .int .i64 u, tv] w fun e w' => e = .returned (.tuple #[lowV N D, .int .i64 0]) ∧ Below w.heap.size w w' := by
  subst htv
  have C58 := Lib.hid (fun w => valid_any l M s f w)
  rw [h] at C58
  have C68 := Lib.hid (fun w => within_any u 0 M w)
  rw [hu] at C68
  have C61 := Lib.hid (show ∀ (mb : Nat) (w : World), Memo w mb → Calls Try.prog 61 #[workV l M s f mb, .int .i64 u, .agg #[.func (.func k) #[] #[]]] w (fun e w' => e = .returned (fracV N D) ∧ Memo w' mb ∧ w.grownBy w' (some mb)) from hT)
  have C75 := Lib.hid (fun w => lowest_any N D w hD hN hD2)
  unfold lowV at C75 ⊢
  generalize N / Nat.gcd N D = N' at *
  generalize D / Nat.gcd N D = D' at *
  clear h hu hT
  go_enter Try.func52, Try.ntmps52
  go_wp2_with fail
  obtain ⟨b1, b2, b3, hb0, hsz⟩ := three_new w #[.int .i64 l, .int .i64 M, .int .i64 s, .int .i64 f] #[.func (.func k) #[] #[]] #[.int .i64 0, .int .i64 0] 29 93 25
  generalize ((w.alloc (.cells #[.int .i64 l, .int .i64 M, .int .i64 s, .int .i64 f] 29)).alloc (.cells #[.func (.func k) #[] #[]] 93)).alloc (.cells #[.int .i64 0, .int .i64 0] 25) = W0 at *
  refine (C58.out _).mono ?_
  rintro e w1 ⟨rfl, hb1⟩
  have c3 := b3.below hb1 b3.lt
  have c1 := b1.below hb1 b1.lt
  have c2 := b2.below hb1 b2.lt
  obtain ⟨k6, k7, k8, k9⟩ := c3.c2
  obtain ⟨k0, k1, k2, k3⟩ := c1.c4
  obtain ⟨k5, _⟩ := c2.c1
  have lt3 := c3.lt
  have lt1 := c1.lt
  have lt2 := c2.lt
  have HB := Lib.hid (hb0.trans (hb1.mono hb0.size))
  have B1 := Lib.hid c1
  have B2 := Lib.hid c2
  have B3 := Lib.hid c3
  clear b1 b2 b3 c1 c2 c3 hb0 hb1 hsz
  go_wp2_with (go_at_call 68; (with_reducible refine (C68.out _).mono ?_); rintro e w' ⟨rfl, rfl⟩)
  have nn1 : w.heap.size ≠ w.heap.size + 1 + 1 := by omega
  have nn2 : w.heap.size + 1 ≠ w.heap.size + 1 + 1 := by omega
  go_region_held3 (fun w' => w'.cell? ⟨w.heap.size, 0, none⟩ = some (.int .i64 l) ∧ w'.cell? ⟨w.heap.size, 1, none⟩ = some (.int .i64 M) ∧ w'.cell? ⟨w.heap.size, 2, none⟩ = some (.int .i64 s) ∧ w'.cell? ⟨w.heap.size, 3, none⟩ = some (.int .i64 f) ∧ w'.cell? ⟨w.heap.size + 1, 0, none⟩ = some (.func (.func k) #[] #[]))
    (first | (with_reducible exact ⟨cell_setCell_far (cell_setCell_far z0 _ _ nn1) _ _ nn1, cell_setCell_far (cell_setCell_far z1 _ _ nn1) _ _ nn1, cell_setCell_far (cell_setCell_far z2 _ _ nn1) _ _ nn1, cell_setCell_far (cell_setCell_far z3 _ _ nn1) _ _ nn1, cell_setCell_far (cell_setCell_far z5 _ _ nn2) _ _ nn2⟩) | (with_reducible exact ⟨z0, z1, z2, z3, z5⟩) | (with_reducible exact ⟨y0, y1, y2, y3, y5⟩) | (with_reducible exact ⟨x0, x1, x2, x3, x5⟩) | go_keep)
    (first | (go_at_call 59; (with_reducible refine (work_any _ _ _ _ _).mono ?_); rintro e w2 ⟨rfl, hm2, hb2⟩; have d1 := B1.out.drew.below hb2 B1.out.lt; have d2 := B2.out.drew.below hb2 B2.out.lt; have d3 := B3.out.drew.below hb2 B3.out.lt; have ⟨x0, x1, x2, x3⟩ := d1.c4; have ⟨x5, _⟩ := d2.c1; have HM2 := Lib.hid hm2; have HB2 := Lib.hid (show Below w1.heap.size w1 w2 from ⟨hb2.os, hb2.tape, hb2.output, hb2.size, hb2.block⟩); have D1 := Lib.hid d1; have D2 := Lib.hid d2; have D3 := Lib.hid d3; clear hm2 hb2 d1 d2 d3) | (go_at_call 61; (with_reducible refine (C61.out _ _ ?_).mono ?_); (exact HM2.out); rintro e w3 ⟨rfl, hm3, hg3⟩; have d1 := D1.out.kept hg3 (by simp; omega); have d2 := D2.out.kept hg3 (by simp; omega); have d3 := D3.out.kept hg3 (by simp; omega); have ⟨y0, y1, y2, y3⟩ := d1.c4; have ⟨y5, _⟩ := d2.c1; have HG3 := Lib.hid hg3; have E1 := Lib.hid d1; have E2 := Lib.hid d2; have E3 := Lib.hid d3; clear hm3 hg3 d1 d2 d3) | (go_at_call 75; (with_reducible refine (C75.out _).mono ?_); rintro e w4 ⟨rfl, hb4⟩; have d1 := E1.out.below hb4 E1.out.lt; have d2 := E2.out.below hb4 E2.out.lt; have d3 := E3.out.below hb4 E3.out.lt; have ⟨z0, z1, z2, z3⟩ := d1.c4; have ⟨z5, _⟩ := d2.c1; have ⟨z6, z7, z8, z9⟩ := d3.c2; have lt9 := d3.lt; have HB4 := Lib.hid hb4; clear hb4 d1 d2 d3))
  go_wp2
  refine bodyPost_ret (v := .tuple #[fracV N' D', .int .i64 0]) (by simp [results, Try.results52, go_sem, z6, z7]) rfl ⟨rfl, ?_⟩
  have hz := (HB.out.trans (HB2.out.mono HB.out.size))
  have hz3 : Below w.heap.size w w3 := hz.grown HG3.out hz.size (fun j e => by cases e; show w.heap.size ≤ w1.heap.size + 1 + 1; omega)
  exact ((hz3.trans (HB4.out.mono hz3.size)).setCell (by show w.heap.size ≤ w.heap.size + 1 + 1; omega) _).setCell (by show w.heap.size ≤ w.heap.size + 1 + 1; omega) _

/-! ### Chance and Tail -/
theorem says_point (M : Int) (l u s f : Nat) (hl : l + u ≤ 50) (hs : s ≤ l) (hf : f ≤ s) : TailSays 53 M l u s f (sm (sets l u s) f 1) (tot l u s) := fun mb w hm => chance_point M l u s f mb w hl hs hf hm
theorem says_lower (M : Int) (l u s f : Nat) (hl : l + u ≤ 50) (hs : s ≤ l) (hf : f ≤ s) : TailSays 54 M l u s f (low l u s f) (tot l u s) := fun mb w hm => chance_lower M l u s f mb w hl hs hf hm
theorem says_upper (M : Int) (l u s f : Nat) (hl : l + u ≤ 50) (hs : s ≤ l) (hf : f ≤ s) : TailSays 55 M l u s f (up l u s f) (tot l u s) := fun mb w hm => chance_upper M l u s f mb w hl hs hf hm

def AskPost (L M S F u : Int) (k : Nat) (n d r : Int) : Prop := ∀ w, Calls Try.prog 52 #[areaV L M S F, .int .i64 u, .agg #[.func (.func k) #[] #[]]] w fun e w' => e = .returned (.tuple #[fracV n d, .int .i64 r]) ∧ Below w.heap.size w w'
set_option maxRecDepth 100000 in
set_option maxHeartbeats 400000 in
theorem Chance_walk (L M S F u n d r : Int) (w : World) (h : AskPost L M S F u 53 n d r) :
    Calls Try.prog 19 #[areaV L M S F, .int .i64 u] w fun e w' => e = .returned (.tuple #[fracV n d, .int .i64 r]) ∧ Below w.heap.size w w' := by
  have C52 := Lib.hid (show ∀ w, Calls Try.prog 52 #[areaV L M S F, .int .i64 u, .agg #[.func (.func 53) #[] #[]]] w (fun e w' => e = .returned (.tuple #[fracV n d, .int .i64 r]) ∧ Below w.heap.size w w') from h)
  clear h
  go_enter Try.func19, Try.ntmps19
  go_wp2_with fail
  obtain ⟨b1, b2, hb0, hsz⟩ := two_new w #[.int .i64 L, .int .i64 M, .int .i64 S, .int .i64 F] #[.int .i64 0, .int .i64 0] 29 25
  generalize (w.alloc (.cells #[.int .i64 L, .int .i64 M, .int .i64 S, .int .i64 F] 29)).alloc (.cells #[.int .i64 0, .int .i64 0] 25) = W0 at *
  refine (C52.out _).mono ?_
  rintro e w1 ⟨rfl, hb1⟩
  have c2 := b2.below hb1 b2.lt
  obtain ⟨k6, k7, k8, k9⟩ := c2.c2
  have lt2 := c2.lt
  have HB := Lib.hid (hb0.trans (hb1.mono hb0.size))
  clear b1 b2 c2 hb0 hb1 hsz
  go_wp2
  refine bodyPost_ret (v := .tuple #[fracV n d, .int .i64 r]) (by simp [results, Try.results19, go_sem, k6, k7]) rfl ⟨rfl, ?_⟩
  exact (HB.out.setCell (by simp) _).setCell (by simp) _
set_option maxRecDepth 100000 in
set_option maxHeartbeats 400000 in
theorem Tail_most (L M S F u n d r : Int) (w : World) (h : AskPost L M S F u 54 n d r) :
    Calls Try.prog 21 #[areaV L M S F, .int .i64 u, .bool true] w fun e w' => e = .returned (.tuple #[fracV n d, .int .i64 r]) ∧ Below w.heap.size w w' := by
  have C52 := Lib.hid (show ∀ w, Calls Try.prog 52 #[areaV L M S F, .int .i64 u, .agg #[.func (.func 54) #[] #[]]] w (fun e w' => e = .returned (.tuple #[fracV n d, .int .i64 r]) ∧ Below w.heap.size w w') from h)
  clear h
  go_enter Try.func21, Try.ntmps21
  go_wp2_with fail
  obtain ⟨b1, b2, hb0, hsz⟩ := two_new w #[.int .i64 L, .int .i64 M, .int .i64 S, .int .i64 F] #[.int .i64 0, .int .i64 0] 29 25
  generalize (w.alloc (.cells #[.int .i64 L, .int .i64 M, .int .i64 S, .int .i64 F] 29)).alloc (.cells #[.int .i64 0, .int .i64 0] 25) = W0 at *
  refine (C52.out _).mono ?_
  rintro e w1 ⟨rfl, hb1⟩
  have c2 := b2.below hb1 b2.lt
  obtain ⟨k6, k7, k8, k9⟩ := c2.c2
  have lt2 := c2.lt
  have HB := Lib.hid (hb0.trans (hb1.mono hb0.size))
  clear b1 b2 c2 hb0 hb1 hsz
  go_wp2
  refine bodyPost_ret (v := .tuple #[fracV n d, .int .i64 r]) (by simp [results, Try.results21, go_sem, k6, k7]) rfl ⟨rfl, ?_⟩
  exact (HB.out.setCell (by simp) _).setCell (by simp) _
set_option maxRecDepth 100000 in
set_option maxHeartbeats 400000 in
theorem Tail_least (L M S F u n d r : Int) (w : World) (h : AskPost L M S F u 55 n d r) :
    Calls Try.prog 21 #[areaV L M S F, .int .i64 u, .bool false] w fun e w' => e = .returned (.tuple #[fracV n d, .int .i64 r]) ∧ Below w.heap.size w w' := by
  have C52 := Lib.hid (show ∀ w, Calls Try.prog 52 #[areaV L M S F, .int .i64 u, .agg #[.func (.func 55) #[] #[]]] w (fun e w' => e = .returned (.tuple #[fracV n d, .int .i64 r]) ∧ Below w.heap.size w w') from h)
  clear h
  go_enter Try.func21, Try.ntmps21
  go_wp2_with fail
  obtain ⟨b1, b2, hb0, hsz⟩ := two_new w #[.int .i64 L, .int .i64 M, .int .i64 S, .int .i64 F] #[.int .i64 0, .int .i64 0] 29 25
  generalize (w.alloc (.cells #[.int .i64 L, .int .i64 M, .int .i64 S, .int .i64 F] 29)).alloc (.cells #[.int .i64 0, .int .i64 0] 25) = W0 at *
  refine (C52.out _).mono ?_
  rintro e w1 ⟨rfl, hb1⟩
  have c2 := b2.below hb1 b2.lt
  obtain ⟨k6, k7, k8, k9⟩ := c2.c2
  have lt2 := c2.lt
  have HB := Lib.hid (hb0.trans (hb1.mono hb0.size))
  clear b1 b2 c2 hb0 hb1 hsz
  go_wp2
  refine bodyPost_ret (v := .tuple #[fracV n d, .int .i64 r]) (by simp [results, Try.results21, go_sem, k6, k7]) rfl ⟨rfl, ?_⟩
  exact (HB.out.setCell (by simp) _).setCell (by simp) _
end Go.Proofs.Ytkfobnhnehbkeaa
