/- Texts of this seat, merged. -/
import Derived.Test.YtdfebccmjbocjaaGreatDoorMiG3
import Derived.Laws.EntriesVeiled
import Derived.RangeFuncBox
import Derived.RangeFuncNested
import Derived.RangeFuncLeaves
import Derived.RangeFuncCalls
import Derived.Shelf.Abstract
import Derived.Shelf.RegionOpen
import Derived.OwnWalkIn
import Derived.TacticsInMore
import Derived.LoopNIn
import Derived.LoopIn
import Derived.Maps.AppendAt
import Derived.Test.YtdfebccmjbocjaaGreatDoorMiG1
set_option linter.unusedVariables false
set_option linter.unusedSimpArgs false
namespace Go.Proofs.YtdfebccmjbocjaaGreatDoor.Mi
open Go.RowKit
open Mis (ch sets tot sm low up)

set_option maxRecDepth 100000 in
set_option maxHeartbeats 400000 in
theorem work_any (L M S F : Int) (w : World) : Calls Tryz.prog 87 #[areaV L M S F] w fun e w' => e = .returned (workV L M S F (w.heap.size + 1 + 1)) ∧ Memo w' (w.heap.size + 1 + 1) ∧ Below w.heap.size w w' := by
  have hmm := @run_makeMap Tryz.prog
  go_enter Tryz.func87, Tryz.ntmps87
  go_wp2
  refine bodyPost_ret (v := workV L M S F (w.heap.size + 1 + 1)) (by simp [results, Tryz.results87, go_sem]) rfl ⟨rfl, ?_, ?_⟩
  · have := Memo.made ((w.alloc (.cells #[.int .i64 L, .int .i64 M, .int .i64 S, .int .i64 F] 69)).alloc (.cells #[.int .i64 L, .int .i64 M, .int .i64 S, .int .i64 F, .map (some (w.heap.size + 1 + 1))] 151))
    simp only [World.size_alloc] at this
    exact this
  · exact ((((Below.refl _ _).alloc (Nat.le_refl _) _).alloc (by simp) _).alloc (by simp; omega) _)

set_option maxRecDepth 100000 in
set_option maxHeartbeats 400000 in
theorem asked_arg (L M S F u : Int) (tv : Value) (k : Nat) (htv : tv = .agg #[.func (.func k) #[] #[]]) (w : World) (h : areaB L M S F = false) :
    Calls Tryz.prog 58 #[areaV L M S F, .int .i64 u, tv] w fun e w' => e = .returned (.tuple #[fracV 0 0, .int .i64 1]) ∧ Below w.heap.size w w' := by
  subst htv
  have C58 := Lib.hid (fun w => valid_any L M S F w)
  rw [h] at C58
  clear h
  go_enter Tryz.func58, Tryz.ntmps58
  go_wp2_with fail
  obtain ⟨b1, b2, b3, hb0, hsz⟩ := three_new w #[.int .i64 L, .int .i64 M, .int .i64 S, .int .i64 F] #[.func (.func k) #[] #[]] #[.int .i64 0, .int .i64 0] 69 128 70
  generalize ((w.alloc (.cells #[.int .i64 L, .int .i64 M, .int .i64 S, .int .i64 F] 69)).alloc (.cells #[.func (.func k) #[] #[]] 128)).alloc (.cells #[.int .i64 0, .int .i64 0] 70) = W0 at *
  refine (C58.out _).mono ?_
  rintro e w1 ⟨rfl, hb1⟩
  have c3 := b3.below hb1 b3.lt
  obtain ⟨k6, k7, k8, k9⟩ := c3.c2
  have lt3 := c3.lt
  have HB := Lib.hid (hb0.trans (hb1.mono hb0.size))
  clear b1 b2 b3 c3 hb0 hb1 hsz
  go_wp2
  refine bodyPost_ret (v := .tuple #[fracV 0 0, .int .i64 1]) (by simp [results, Tryz.results58, go_sem, k6, k7]) rfl ⟨rfl, ?_⟩
  repeat (first | exact HB.out | (refine Below.setCell ?_ (by show w.heap.size ≤ w.heap.size + 1 + 1; omega) _))

set_option maxRecDepth 100000 in
set_option maxHeartbeats 400000 in
theorem asked_range (L M S F u : Int) (tv : Value) (k : Nat) (htv : tv = .agg #[.func (.func k) #[] #[]]) (w : World) (h : areaB L M S F = true) (hu : inB u 0 M = false) :
    Calls Tryz.prog 58 #[areaV L M S F, .int .i64 u, tv] w fun e w' => e = .returned (.tuple #[fracV 0 0, .int .i64 2]) ∧ Below w.heap.size w w' := by
  subst htv
  have C58 := Lib.hid (fun w => valid_any L M S F w)
  rw [h] at C58
  have C68 := Lib.hid (fun w => within_any u 0 M w)
  rw [hu] at C68
  clear h hu
  go_enter Tryz.func58, Tryz.ntmps58
  go_wp2_with fail
  obtain ⟨b1, b2, b3, hb0, hsz⟩ := three_new w #[.int .i64 L, .int .i64 M, .int .i64 S, .int .i64 F] #[.func (.func k) #[] #[]] #[.int .i64 0, .int .i64 0] 69 128 70
  generalize ((w.alloc (.cells #[.int .i64 L, .int .i64 M, .int .i64 S, .int .i64 F] 69)).alloc (.cells #[.func (.func k) #[] #[]] 128)).alloc (.cells #[.int .i64 0, .int .i64 0] 70) = W0 at *
  refine (C58.out _).mono ?_
  rintro e w1 ⟨rfl, hb1⟩
  have c3 := b3.below hb1 b3.lt
  have c1 := b1.below hb1 b1.lt
  obtain ⟨k6, k7, k8, k9⟩ := c3.c2
  obtain ⟨k0, k1, k2, k3⟩ := c1.c4
  have lt3 := c3.lt
  have lt1 := c1.lt
  have HB := Lib.hid (hb0.trans (hb1.mono hb0.size))
  clear b1 b2 b3 c1 c3 hb0 hb1 hsz
  go_wp2_with (go_at_call 54; (with_reducible refine (C68.out _).mono ?_); rintro e w' ⟨rfl, rfl⟩)
  refine bodyPost_ret (v := .tuple #[fracV 0 0, .int .i64 2]) (by simp [results, Tryz.results58, go_sem, k6, k7]) rfl ⟨rfl, ?_⟩
  repeat (first | exact HB.out | (refine Below.setCell ?_ (by show w.heap.size ≤ w.heap.size + 1 + 1; omega) _))

/-- what the chance of a tail is to be -/
def TailSays (k : Nat) (M : Int) (l u s f N D : Nat) : Prop := ∀ (mb : Nat) (w : World), Memo w mb → Calls Tryz.prog 88 #[workV l M s f mb, .int .i64 u, .agg #[.func (.func k) #[] #[]]] w fun e w' => e = .returned (fracV N D) ∧ Memo w' mb ∧ w.grownBy w' (some mb)

set_option maxRecDepth 100000 in
set_option maxHeartbeats 800000 in
theorem asked_ok (M : Int) (l u s f N D : Nat) (tv : Value) (k : Nat) (htv : tv = .agg #[.func (.func k) #[] #[]]) (w : World) (h : areaB l M s f = true) (hu : inB u 0 M = true) (hT : TailSays k M l u s f N D) (hD : 0 < D) (hN : N ≤ 4611686018427387904) (hD2 : D ≤ 4611686018427387904) :
    Calls Tryz.prog 58 #[areaV l M s f, .int .i64 u, tv] w fun e w' => e = .returned (.tuple #[lowV N D, .int .i64 0]) ∧ Below w.heap.size w w' := by
  subst htv
  have C58 := Lib.hid (fun w => valid_any l M s f w)
  rw [h] at C58
  have C68 := Lib.hid (fun w => within_any u 0 M w)
  rw [hu] at C68
  have C61 := Lib.hid (show ∀ (mb : Nat) (w : World), Memo w mb → Calls Tryz.prog 88 #[workV l M s f mb, .int .i64 u, .agg #[.func (.func k) #[] #[]]] w (fun e w' => e = .returned (fracV N D) ∧ Memo w' mb ∧ w.grownBy w' (some mb)) from hT)
  have C75 := Lib.hid (fun w => lowest_any N D w hD hN hD2)
  unfold lowV at C75 ⊢
  generalize N / Nat.gcd N D = N' at *
  generalize D / Nat.gcd N D = D' at *
  clear h hu hT
  go_enter Tryz.func58, Tryz.ntmps58
  go_wp2_with fail
  obtain ⟨b1, b2, b3, hb0, hsz⟩ := three_new w #[.int .i64 l, .int .i64 M, .int .i64 s, .int .i64 f] #[.func (.func k) #[] #[]] #[.int .i64 0, .int .i64 0] 69 128 70
  generalize ((w.alloc (.cells #[.int .i64 l, .int .i64 M, .int .i64 s, .int .i64 f] 69)).alloc (.cells #[.func (.func k) #[] #[]] 128)).alloc (.cells #[.int .i64 0, .int .i64 0] 70) = W0 at *
  refine (C58.out _).mono ?_
  rintro e w1 ⟨rfl, hb1⟩
  have c3 := b3.below hb1 b3.lt
  have c1 := b1.below hb1 b1.lt
  have c2 := b2.below hb1 b2.lt
  obtain ⟨k6, k7, k8, k9⟩ := c3.c2
  obtain ⟨k0, k1, k2, k3⟩ := c1.c4
  obtain ⟨k5, _⟩ := c2.c1
  have lt3 := c3.lt
  have lt1 := c1.lt
  have lt2 := c2.lt
  have HB := Lib.hid (hb0.trans (hb1.mono hb0.size))
  have B1 := Lib.hid c1
  have B2 := Lib.hid c2
  have B3 := Lib.hid c3
  clear b1 b2 b3 c1 c2 c3 hb0 hb1 hsz
  go_wp2_with (go_at_call 54; (with_reducible refine (C68.out _).mono ?_); rintro e w' ⟨rfl, rfl⟩)
  have nn1 : w.heap.size ≠ w.heap.size + 1 + 1 := by omega
  have nn2 : w.heap.size + 1 ≠ w.heap.size + 1 + 1 := by omega
  go_region_held3 (fun w' => w'.cell? ⟨w.heap.size, 0, none⟩ = some (.int .i64 l) ∧ w'.cell? ⟨w.heap.size, 1, none⟩ = some (.int .i64 M) ∧ w'.cell? ⟨w.heap.size, 2, none⟩ = some (.int .i64 s) ∧ w'.cell? ⟨w.heap.size, 3, none⟩ = some (.int .i64 f) ∧ w'.cell? ⟨w.heap.size + 1, 0, none⟩ = some (.func (.func k) #[] #[]))
    (first | (with_reducible exact ⟨cell_setCell_far (cell_setCell_far z0 _ _ nn1) _ _ nn1, cell_setCell_far (cell_setCell_far z1 _ _ nn1) _ _ nn1, cell_setCell_far (cell_setCell_far z2 _ _ nn1) _ _ nn1, cell_setCell_far (cell_setCell_far z3 _ _ nn1) _ _ nn1, cell_setCell_far (cell_setCell_far z5 _ _ nn2) _ _ nn2⟩) | (with_reducible exact ⟨z0, z1, z2, z3, z5⟩) | (with_reducible exact ⟨y0, y1, y2, y3, y5⟩) | (with_reducible exact ⟨x0, x1, x2, x3, x5⟩) | go_keep)
    (first | (go_at_call 87; (with_reducible refine (work_any _ _ _ _ _).mono ?_); rintro e w2 ⟨rfl, hm2, hb2⟩; have d1 := B1.out.drew.below hb2 B1.out.lt; have d2 := B2.out.drew.below hb2 B2.out.lt; have d3 := B3.out.drew.below hb2 B3.out.lt; have ⟨x0, x1, x2, x3⟩ := d1.c4; have ⟨x5, _⟩ := d2.c1; have HM2 := Lib.hid hm2; have HB2 := Lib.hid (show Below w1.heap.size w1 w2 from ⟨hb2.os, hb2.tape, hb2.output, hb2.size, hb2.block⟩); have D1 := Lib.hid d1; have D2 := Lib.hid d2; have D3 := Lib.hid d3; clear hm2 hb2 d1 d2 d3) | (go_at_call 88; (with_reducible refine (C61.out _ _ ?_).mono ?_); (exact HM2.out); rintro e w3 ⟨rfl, hm3, hg3⟩; have d1 := D1.out.kept hg3 (by simp; omega); have d2 := D2.out.kept hg3 (by simp; omega); have d3 := D3.out.kept hg3 (by simp; omega); have ⟨y0, y1, y2, y3⟩ := d1.c4; have ⟨y5, _⟩ := d2.c1; have HG3 := Lib.hid hg3; have E1 := Lib.hid d1; have E2 := Lib.hid d2; have E3 := Lib.hid d3; clear hm3 hg3 d1 d2 d3) | (go_at_call 89; (with_reducible refine (C75.out _).mono ?_); rintro e w4 ⟨rfl, hb4⟩; have d1 := E1.out.below hb4 E1.out.lt; have d2 := E2.out.below hb4 E2.out.lt; have d3 := E3.out.below hb4 E3.out.lt; have ⟨z0, z1, z2, z3⟩ := d1.c4; have ⟨z5, _⟩ := d2.c1; have ⟨z6, z7, z8, z9⟩ := d3.c2; have lt9 := d3.lt; have HB4 := Lib.hid hb4; clear hb4 d1 d2 d3))
  go_wp2
  refine bodyPost_ret (v := .tuple #[fracV N' D', .int .i64 0]) (by simp [results, Tryz.results58, go_sem, z6, z7]) rfl ⟨rfl, ?_⟩
  have hz := (HB.out.trans (HB2.out.mono HB.out.size))
  have hz3 : Below w.heap.size w w3 := hz.grown HG3.out hz.size (fun j e => by cases e; show w.heap.size ≤ w1.heap.size + 1 + 1; omega)
  exact ((hz3.trans (HB4.out.mono hz3.size)).setCell (by show w.heap.size ≤ w.heap.size + 1 + 1; omega) _).setCell (by show w.heap.size ≤ w.heap.size + 1 + 1; omega) _

/-! ### Chance and Tail -/
theorem says_point (M : Int) (l u s f : Nat) (hl : l + u ≤ 50) (hs : s ≤ l) (hf : f ≤ s) : TailSays 59 M l u s f (sm (sets l u s) f 1) (tot l u s) := fun mb w hm => chance_point M l u s f mb w hl hs hf hm
theorem says_lower (M : Int) (l u s f : Nat) (hl : l + u ≤ 50) (hs : s ≤ l) (hf : f ≤ s) : TailSays 155 M l u s f (low l u s f) (tot l u s) := fun mb w hm => chance_lower M l u s f mb w hl hs hf hm
theorem says_upper (M : Int) (l u s f : Nat) (hl : l + u ≤ 50) (hs : s ≤ l) (hf : f ≤ s) : TailSays 157 M l u s f (up l u s f) (tot l u s) := fun mb w hm => chance_upper M l u s f mb w hl hs hf hm

def AskPost (L M S F u : Int) (k : Nat) (n d r : Int) : Prop := ∀ w, Calls Tryz.prog 58 #[areaV L M S F, .int .i64 u, .agg #[.func (.func k) #[] #[]]] w fun e w' => e = .returned (.tuple #[fracV n d, .int .i64 r]) ∧ Below w.heap.size w w'
set_option maxRecDepth 100000 in
set_option maxHeartbeats 400000 in
theorem Chance_walk (L M S F u n d r : Int) (w : World) (h : AskPost L M S F u 59 n d r) :
    Calls Tryz.prog 22 #[areaV L M S F, .int .i64 u] w fun e w' => e = .returned (.tuple #[fracV n d, .int .i64 r]) ∧ Below w.heap.size w w' := by
  have C52 := Lib.hid (show ∀ w, Calls Tryz.prog 58 #[areaV L M S F, .int .i64 u, .agg #[.func (.func 59) #[] #[]]] w (fun e w' => e = .returned (.tuple #[fracV n d, .int .i64 r]) ∧ Below w.heap.size w w') from h)
  clear h
  go_enter Tryz.func22, Tryz.ntmps22
  go_wp2_with fail
  obtain ⟨b1, b2, hb0, hsz⟩ := two_new w #[.int .i64 L, .int .i64 M, .int .i64 S, .int .i64 F] #[.int .i64 0, .int .i64 0] 69 70
  generalize (w.alloc (.cells #[.int .i64 L, .int .i64 M, .int .i64 S, .int .i64 F] 69)).alloc (.cells #[.int .i64 0, .int .i64 0] 70) = W0 at *
  refine (C52.out _).mono ?_
  rintro e w1 ⟨rfl, hb1⟩
  have c2 := b2.below hb1 b2.lt
  obtain ⟨k6, k7, k8, k9⟩ := c2.c2
  have lt2 := c2.lt
  have HB := Lib.hid (hb0.trans (hb1.mono hb0.size))
  clear b1 b2 c2 hb0 hb1 hsz
  go_wp2
  refine bodyPost_ret (v := .tuple #[fracV n d, .int .i64 r]) (by simp [results, Tryz.results22, go_sem, k6, k7]) rfl ⟨rfl, ?_⟩
  exact (HB.out.setCell (by simp) _).setCell (by simp) _
end Go.Proofs.YtdfebccmjbocjaaGreatDoor.Mi
namespace Go.Proofs.YtdfebccmjbocjaaGreatDoor.Mi
open Go.RowKit Go.Shelf
attribute [local go_sem] Oper.semAt_some

/-- a number that may have been missed -/
abbrev UpTo (M : Nat) := { x : Nat // x ≤ M }
set_option maxRecDepth 100000 in
set_option maxHeartbeats 1000000 in
theorem numbers_stops (M : Nat) (hM : M ≤ 50) (n : Nat) (hn : 1 ≤ n) (Bn : Nat) (w : World) (hBn : Bn < w.heap.size) (hc : w.cell? ⟨Bn, 1, none⟩ = some (.int .i64 M)) :
    SeqStopsK Fence.wide n Tryz.prog 158 #[.pointer (some ⟨Bn, 0, none⟩)] (fun x : UpTo M => #[Value.int .i64 (x.1 : Int)]) (fun _ _ => True) (fun xs => xs.map (·.1) = List.range (M + 1)) (fun _ => True) (M + 1) w := fun l J Jx W hW _ _ hY h0 => by
  have hcW := (hW.cell (p := ⟨Bn, 1, none⟩) hBn).trans hc
  refine callsIn_of_wp Tryz.func158 rfl trivial ?_ rfl
  simp only [Tryz.ntmps158, List.size_toArray, List.length_cons, List.length_nil, Nat.reduceAdd, Nat.reduceSub, Array.replicate_succ, Array.replicate_zero, List.push_toArray, List.append_toArray, List.nil_append, List.cons_append]
  gi_wp2
  gi_loopw [7] (fun y wr => ∃ (k : Nat) (pre : List (UpTo M)), k ≤ M + 1 ∧ y = .int .i64 (k : Int) ∧ Hid (pre.length = k ∧ pre.map (·.1) = List.range k ∧ J pre wr))
    (fun y _ => M + 1 - (intOf y).toNat)
  case atStart => exact ⟨0, [], by omega, rfl, rfl, rfl, h0⟩
  case round =>
    obtain ⟨k, pre, hp, rfl, HP⟩ := hrel
    by_cases hlt : k < M + 1
    · obtain ⟨fn, tmps, assign, body, hy, hR⟩ := hY pre ⟨k, by omega⟩ wr HP.out.2.2 (by rw [HP.out.1]; exact hlt)
      dsimp only at hy
      gi_wp2
      refine hR.mono ?_
      rintro e W3 (⟨rfl, hJ3, _⟩ | ⟨rfl, hJx3⟩)
      · gi_wp2
        go_roundw
        case rel => exact ⟨k + 1, pre ++ [⟨k, by omega⟩], by omega, by go_num, by simp [HP.out.1], by rw [List.map_append, HP.out.2.1, List.range_succ]; rfl, hJ3⟩
        case measure => simp [intOf]; omega
      · gi_wp2
        refine bodyPost_ret (results_none rfl _ _ _) rfl ?_
        exact ⟨⟨_, rfl⟩, .inr ⟨_, trivial, hJx3⟩⟩
    · obtain rfl : k = M + 1 := by omega
      gi_wp2
      go_end0
      exact ⟨⟨_, rfl⟩, .inl ⟨pre, HP.out.2.1, HP.out.2.2⟩⟩
end Go.Proofs.YtdfebccmjbocjaaGreatDoor.Mi
namespace Mis
/-- one number more is looked at -/
def scanStep (num den : Nat → Nat) (s : (Nat × Nat) × List Nat) (n : Nat) : (Nat × Nat) × List Nat :=
  let b := if lower s.1.1 s.1.2 (num n) (den n) then (num n, den n) else s.1
  let o := if lower s.1.1 s.1.2 (num n) (den n) then [] else s.2
  (b, if decide (0 < num n) && !lower (num n) (den n) b.1 b.2 then o ++ [n] else o)
def scanL (num den : Nat → Nat) (l : List Nat) : (Nat × Nat) × List Nat := l.foldl (scanStep num den) ((0, 1), [])
theorem scanL_snoc (num den : Nat → Nat) (l : List Nat) (x : Nat) : scanL num den (l ++ [x]) = scanStep num den (scanL num den l) x := by simp [scanL]
theorem scanL_range (num den : Nat → Nat) : ∀ n, scanL num den (List.range n) = scan num den n
  | 0 => rfl
  | n+1 => by rw [List.range_succ, scanL_snoc, scanL_range num den n]; rfl
/-- the best so far is higher than x: x replaces all -/
theorem scanStep_new {num den : Nat → Nat} {s : (Nat × Nat) × List Nat} {n : Nat} (h : lower s.1.1 s.1.2 (num n) (den n) = true) (hp : 0 < num n) : scanStep num den s n = ((num n, den n), [n]) := by
  simp [scanStep, h, hp, lower_self]
theorem scanStep_same {num den : Nat → Nat} {s : (Nat × Nat) × List Nat} {n : Nat} (h : lower s.1.1 s.1.2 (num n) (den n) = false) (hp : 0 < num n) (hl : lower (num n) (den n) s.1.1 s.1.2 = false) : scanStep num den s n = (s.1, s.2 ++ [n]) := by
  simp [scanStep, h, hp, hl]
theorem scanStep_less {num den : Nat → Nat} {s : (Nat × Nat) × List Nat} {n : Nat} (h : lower s.1.1 s.1.2 (num n) (den n) = false) (hl : lower (num n) (den n) s.1.1 s.1.2 = true) : scanStep num den s n = s := by
  simp [scanStep, h, hl]
theorem scanStep_none {num den : Nat → Nat} {s : (Nat × Nat) × List Nat} {n : Nat} (h : lower s.1.1 s.1.2 (num n) (den n) = false) (hp : num n = 0) : scanStep num den s n = s := by
  unfold scanStep
  rw [h]
  simp [hp]
theorem scanL_bound {num den : Nat → Nat} {B : Nat} (hB : 1 ≤ B) : ∀ (l : List Nat), (∀ x, x ∈ l → num x ≤ B ∧ den x ≤ B) → (scanL num den l).1.1 ≤ B ∧ (scanL num den l).1.2 ≤ B ∧ (scanL num den l).2.length ≤ l.length ∧ ∀ x, x ∈ (scanL num den l).2 → x ∈ l := by
  intro l
  suffices h : ∀ (r : List Nat), r <+: l → (∀ x, x ∈ r → num x ≤ B ∧ den x ≤ B) → (scanL num den r).1.1 ≤ B ∧ (scanL num den r).1.2 ≤ B ∧ (scanL num den r).2.length ≤ r.length ∧ ∀ x, x ∈ (scanL num den r).2 → x ∈ r from h l (List.prefix_refl l)
  intro r _
  -- by the last element
  have : ∀ (n : Nat) (r : List Nat), r.length = n → (∀ x, x ∈ r → num x ≤ B ∧ den x ≤ B) → (scanL num den r).1.1 ≤ B ∧ (scanL num den r).1.2 ≤ B ∧ (scanL num den r).2.length ≤ r.length ∧ ∀ x, x ∈ (scanL num den r).2 → x ∈ r := by
    intro n
    induction n with
    | zero =>
      intro r hr _
      obtain rfl := List.length_eq_zero_iff.1 hr
      simp [scanL]; omega
    | succ n ih =>
      intro r hr hx
      obtain ⟨q, y, rfl⟩ : ∃ q y, r = q ++ [y] := by
        rcases List.eq_nil_or_concat r with h | ⟨q, y, h⟩
        · subst h; simp at hr
        · exact ⟨q, y, by simpa using h⟩
      obtain ⟨i1, i2, i3, i4⟩ := ih q (by simpa using hr) (fun x h => hx x (by simp [h]))
      have hy := hx y (by simp)
      rw [scanL_snoc]
      generalize scanL num den q = s at *
      unfold scanStep
      simp only []
      split
      · split
        · refine ⟨hy.1, hy.2, by simp, fun x h => by simp at h; simp [h]⟩
        · refine ⟨hy.1, hy.2, by simp, fun x h => by simp at h⟩
      · split
        · refine ⟨i1, i2, by simp; exact i3, fun x h => ?_⟩
          rcases List.mem_append.1 h with h | h
          · exact List.mem_append_left _ (i4 x h)
          · exact List.mem_append_right _ h
        · exact ⟨i1, i2, by simp; omega, fun x h => List.mem_append_left _ (i4 x h)⟩
  exact this r.length r rfl
/-- the range of the numbers that p holds of, over a list that rises -/
def rngStep (p : Nat → Bool) (s : Option (Nat × Nat)) (n : Nat) : Option (Nat × Nat) := if p n then some (match s with | none => n | some r => r.1, n) else s
def rngL (p : Nat → Bool) (l : List Nat) : Option (Nat × Nat) := l.foldl (rngStep p) none
theorem rngL_snoc (p : Nat → Bool) (l : List Nat) (x : Nat) : rngL p (l ++ [x]) = rngStep p (rngL p l) x := by simp [rngL]
theorem rngL_range (p : Nat → Bool) : ∀ n, rngL p (List.range n) = rng p n
  | 0 => rfl
  | n+1 => by rw [List.range_succ, rngL_snoc, rngL_range p n]; rfl
end Mis
namespace Go.Proofs.YtdfebccmjbocjaaGreatDoor.Mi
open Go.RowKit Go.Shelf
open Mis (ch sets tot sm low up scanL scanStep lower)
attribute [local go_sem] Oper.semAt_some

theorem numbers_any (L M S F : Int) (w : World) : Calls Tryz.prog 130 #[areaV L M S F] w fun e w' => e = .returned (.func (.func 158) #[] #[.pointer (some ⟨w.heap.size, 0, none⟩)]) ∧ w.alloc (.cells #[.int .i64 L, .int .i64 M, .int .i64 S, .int .i64 F] 69) = w' := by
  go_enter Tryz.func130, Tryz.ntmps130
  go_wp2
  go_ret
  exact ⟨rfl, rfl⟩

theorem ownRest {β : Type} (B0 b1 b2 mb : Nat) (c1 : Array Value) (f2 : β → Array Value) (t1 t2 : TypeId) (w : World) (h1 : b1 < B0) (h2 : b2 < B0) (h3 : mb < B0) (h4 : w.heap.size ≤ B0) :
    OwnFrom B0 (fun (s : β) W => Blk W b1 c1 t1 ∧ Blk W b2 (f2 s) t2 ∧ Memo W mb ∧ Below w.heap.size w W) := fun s W W' row ⟨g1, g2, g3, g4⟩ hg hr =>
  ⟨g1.kept hg (fun e => by have := (hr _ e.symm).1; omega), g2.kept hg (fun e => by have := (hr _ e.symm).1; omega), g3.kept hg (fun e => by have := (hr _ e.symm).1; omega), g4.grown hg g4.size (fun j e => Nat.le_trans h4 (hr j e).1)⟩
theorem row_ne_memo {W : World} {base : Nat} {e : TypeId} {size : Nat} {v : Value} {k : Nat} {xs : List Value} (h : W.ownsRow base e size v k xs) {mb : Nat} (hm : Memo W mb) : v.ownBlock = none ∨ v.ownBlock ≠ some mb := by
  rcases h.2 with ⟨rfl, _⟩ | ⟨g, cap, cur, rfl, _, hgb, _⟩
  · exact .inl rfl
  · refine .inr fun e' => ?_
    obtain rfl : g = mb := by simpa [Value.ownBlock] using e'
    obtain ⟨es, clock, hb, _⟩ := hm
    rw [hb] at hgb; cases hgb
theorem Blk.not_row {W : World} {b : Nat} {cs : Array Value} {t e : TypeId} (h : Blk W b cs t) (hte : t ≠ e) {base size k : Nat} {v : Value} {xs : List Value} (hr : W.ownsRow base e size v k xs) : some b ≠ v.ownBlock := by
  rcases hr.2 with ⟨rfl, _⟩ | ⟨g, cap, cur, rfl, _, hgb, _⟩
  · simp [Value.ownBlock]
  · intro e'
    obtain rfl : b = g := by simpa [Value.ownBlock] using e'
    have := (show W.heap[b]? = _ from h).symm.trans hgb
    simp at this
    exact hte this.2
/-- behind an append, and the store of the new slice into its variable's box -/
theorem Blk.app {W w1 : World} {b B : Nat} {cs : Array Value} {t e : TypeId} {tmp : Obj} {base size k : Nat} {v v' : Value} {xs : List Value} (h : Blk W b cs t) (hte : t ≠ e) (hr : W.ownsRow base e size v k xs) (hg : (W.alloc tmp).grownBy w1 v.ownBlock) (hne : b ≠ B) : Blk (w1.setCell ⟨B, 0, none⟩ v') b cs t :=
  ((h.alloc tmp).kept hg (h.not_row hte hr)).other hne _
theorem Memo.app {W w1 : World} {mb B : Nat} {e : TypeId} {tmp : Obj} {base size k : Nat} {v v' : Value} {xs : List Value} (h : Memo W mb) (hr : W.ownsRow base e size v k xs) (hg : (W.alloc tmp).grownBy w1 v.ownBlock) (hne : mb ≠ B) : Memo (w1.setCell ⟨B, 0, none⟩ v') mb :=
  ((h.alloc tmp).kept hg (by rcases row_ne_memo hr h with h1 | h1; · rw [h1]; simp
                             · exact h1.symm)).setCell hne _
theorem row_below {W W' : World} {base : Nat} {e : TypeId} {size : Nat} {v : Value} {k : Nat} {xs : List Value} (h : W.ownsRow base e size v k xs) (hb : Below W.heap.size W W') : W'.ownsRow base e size v k xs := by
  refine h.kept (grownBy_below hb none) ?_
  rcases h.2 with ⟨rfl, _⟩ | ⟨g, cap, cur, rfl, _, hgb, _⟩
  · exact .inl rfl
  · exact .inr (by simp [Value.ownBlock])
theorem num_le (l s f u : Nat) (hf : f ≤ s) : sm (sets l u s) f 1 ≤ tot l u s := by
  have e1 := Mis.sm_add (sets l u s) 0 f 1
  have e2 := Mis.low_le l u s f hf
  unfold Mis.low at e2
  simp only [Nat.zero_add] at e1
  show sm (sets l u s) f 1 ≤ _
  omega
theorem keeps_row {W W' : World} {mb B0 : Nat} (hg : W.grownBy W' (some mb)) (hlt : mb < B0) : KeepsFrom B0 W W' := KeepsFrom.of_grownBy hg (fun j e => by cases e; exact hlt)
theorem keeps_below {W W' : World} {B0 : Nat} (hb : Below W.heap.size W W') : KeepsFrom B0 W W' := KeepsFrom.of_grownBy (grownBy_below hb none) (fun j e => by cases e)
theorem tInfo3 : (Tryz.prog.info? 3).map (fun i => (i.zero, i.size, i.bytes)) = some (some (.int .i64 0), 1, 8) := by kernel_rfl
/-- the chance of Found, u missed -/
def numOf (l s f u : Nat) : Nat := sm (sets l u s) f 1
def denOf (l s u : Nat) : Nat := tot l u s
def dueOf (l M s f : Nat) : List Nat := (List.range (M + 1)).filter (Mis.likely (numOf l s f) (denOf l s) (M + 1))
def intsV (xs : List Nat) : List Value := xs.map fun (x : Nat) => Value.int .i64 (x : Int)
def stOf {M : Nat} (l s f : Nat) (pre : List (UpTo M)) : (Nat × Nat) × List Nat := scanL (numOf l s f) (denOf l s) (pre.map (·.1))
theorem stOf_nil {M : Nat} (l s f : Nat) : stOf l s f ([] : List (UpTo M)) = ((0, 1), []) := rfl
theorem stOf_snoc {M : Nat} (l s f : Nat) (pre : List (UpTo M)) (x : UpTo M) : stOf l s f (pre ++ [x]) = scanStep (numOf l s f) (denOf l s) (stOf l s f pre) x.1 := by
  unfold stOf; rw [List.map_append]; exact Mis.scanL_snoc _ _ _ _
def LikelyPost (l M s f : Nat) (w : World) (e : Ending) (w' : World) : Prop :=
  ∃ v r, e = .returned (.tuple #[v, .int .i64 r]) ∧ (dueOf l M s f = [] → v = .slice none 0 0 ∧ r = 9) ∧ (dueOf l M s f ≠ [] → r = 0) ∧ w'.ownsRow w.heap.size 3 1 v (dueOf l M s f).length (intsV (dueOf l M s f)) ∧ Below w.heap.size w w'

end Go.Proofs.YtdfebccmjbocjaaGreatDoor.Mi
namespace Go.Proofs.YtdfebccmjbocjaaGreatDoor.Mi
open Go.RowKit Go.Shelf
open Mis (ch sets tot sm low up lower)
attribute [local go_sem] Oper.semAt_some

abbrev doubtV (L M S F : Int) (mb : Nat) (n d : Int) : Value := .agg #[.int .i64 L, .int .i64 M, .int .i64 S, .int .i64 F, .map (some mb), .int .i64 n, .int .i64 d]

set_option maxRecDepth 100000 in
set_option maxHeartbeats 2000000 in
set_option linter.unusedSimpArgs false in
theorem excluded_any (M : Int) (l u s f mb n d : Nat) (w : World) (hl : l + u ≤ 50) (hs : s ≤ l) (hf : f ≤ s) (hn : n ≤ 1000) (hd : d ≤ 1000) (hm : Memo w mb) :
    Calls Tryz.prog 129 #[doubtV l M s f mb n d, .int .i64 u] w fun e w' => e = .returned (.bool (Mis.excl l s f n d u)) ∧ Memo w' mb ∧ w.grownBy w' (some mb) := by
  have hlow : low l u s f ≤ tot l u s := Mis.low_le l u s f hf
  have hup : up l u s f ≤ tot l u s := by
    have e := Mis.sm_add (sets l u s) 0 f (s + 1 - f)
    have e2 := Mis.low_full l u s
    unfold Mis.low at e2
    have e4 : f + (s + 1 - f) = s + 1 := by omega
    rw [e4] at e
    unfold Mis.up
    simp only [Nat.zero_add] at e
    omega
  have htot := tot_le l u s hl
  have C61a := Lib.hid (show ∀ (mb : Nat) (w : World), Memo w mb → Calls Tryz.prog 88 #[workV l M s f mb, .int .i64 u, .agg #[.func (.func 155) #[] #[]]] w (fun e w' => e = .returned (fracV (low l u s f) (tot l u s)) ∧ Memo w' mb ∧ w.grownBy w' (some mb)) from says_lower M l u s f hl hs hf)
  have C61b := Lib.hid (show ∀ (mb : Nat) (w : World), Memo w mb → Calls Tryz.prog 88 #[workV l M s f mb, .int .i64 u, .agg #[.func (.func 157) #[] #[]]] w (fun e w' => e = .returned (fracV (up l u s f) (tot l u s)) ∧ Memo w' mb ∧ w.grownBy w' (some mb)) from says_upper M l u s f hl hs hf)
  have C62a := Lib.hid (fun w => below_any (low l u s f) (tot l u s) n d w (by omega) (by omega) (by omega) (by omega))
  have C62b := Lib.hid (fun w => below_any (up l u s f) (tot l u s) n d w (by omega) (by omega) (by omega) (by omega))
  have HE := Lib.hid (show Mis.excl l s f n d u = (lower (low l u s f) (tot l u s) n d || lower (up l u s f) (tot l u s) n d) from rfl)
  generalize low l u s f = A at *
  generalize up l u s f = B at *
  generalize tot l u s = T at *
  have HM := Lib.hid (hm.alloc (.cells #[.int .i64 l, .int .i64 M, .int .i64 s, .int .i64 f, .map (some mb), .int .i64 n, .int .i64 d] 187))
  have hmlt := hm.lt
  clear hlow hup htot hm
  obtain ⟨b1, b2, b3⟩ := one_new w #[.int .i64 l, .int .i64 M, .int .i64 s, .int .i64 f, .map (some mb), .int .i64 n, .int .i64 d] 187
  have B1 := Lib.hid b1
  have B2 := Lib.hid b2
  clear b1 b2 b3
  cases c1 : lower A T n d with
  | true =>
    rw [c1] at C62a HE
    clear c1
    go_enter Tryz.func129, Tryz.ntmps129
    go_wp2_with fail
    generalize w.alloc (.cells #[.int .i64 l, .int .i64 M, .int .i64 s, .int .i64 f, .map (some mb), .int .i64 n, .int .i64 d] 187) = W0 at *
    obtain ⟨k0, k1, k2, k3, k4, k5, k6⟩ := B1.out.c7
    refine wp_region_held_drew (S := (fun w' => w'.cell? ⟨w.heap.size, 0, none⟩ = some (.int .i64 l) ∧ w'.cell? ⟨w.heap.size, 1, none⟩ = some (.int .i64 M) ∧ w'.cell? ⟨w.heap.size, 2, none⟩ = some (.int .i64 s) ∧ w'.cell? ⟨w.heap.size, 3, none⟩ = some (.int .i64 f) ∧ w'.cell? ⟨w.heap.size, 4, none⟩ = some (.map (some mb)) ∧ w'.cell? ⟨w.heap.size, 5, none⟩ = some (.int .i64 n) ∧ w'.cell? ⟨w.heap.size, 6, none⟩ = some (.int .i64 d))) (by kernel_rfl) ⟨k0, k1, k2, k3, k4, k5, k6⟩ (fun hHeld => ?_)
    refine wpAnyH_take (i := 0) (v := ?_) rfl (by kernel_rfl) (by kernel_rfl) (by kernel_rfl) (fun _ _ _ h => h) (Or.inl ⟨by rfl, ?h0⟩) hHeld ?_
    case h0 =>
      intro w' hSw
      (try dsimp only at hSw)
      go_simp
      with_reducible rfl
    (try simp only [Act.put, List.setIfInBounds_toArray, List.set_cons_zero, List.set_cons_succ])
    refine wpAnyH_take (i := 1) (v := ?_) rfl (by kernel_rfl) (by kernel_rfl) (by kernel_rfl) (fun _ _ _ h => h) (Or.inl ⟨by rfl, ?h1⟩) hHeld ?_
    case h1 =>
      intro w' hSw
      (try dsimp only at hSw)
      go_simp
      with_reducible rfl
    (try simp only [Act.put, List.setIfInBounds_toArray, List.set_cons_zero, List.set_cons_succ])
    refine wpAnyH_take (i := 2) (v := ?_) rfl (by kernel_rfl) (by kernel_rfl) (by kernel_rfl) (fun _ _ _ h => h) (Or.inl ⟨by rfl, ?h2⟩) hHeld ?_
    case h2 =>
      intro w' hSw
      (try dsimp only at hSw)
      go_simp
      with_reducible rfl
    (try simp only [Act.put, List.setIfInBounds_toArray, List.set_cons_zero, List.set_cons_succ])
    refine wpAnyH_take (i := 3) (v := ?_) rfl (by kernel_rfl) (by kernel_rfl) (by kernel_rfl) (fun _ _ _ h => h) (Or.inl ⟨by rfl, ?h3⟩) hHeld ?_
    case h3 =>
      intro w' hSw
      (try dsimp only at hSw)
      go_simp
      with_reducible rfl
    (try simp only [Act.put, List.setIfInBounds_toArray, List.set_cons_zero, List.set_cons_succ])
    refine wpAnyH_take (i := 5) (v := ?_) rfl (by kernel_rfl) (by kernel_rfl) (by kernel_rfl) (fun _ _ _ h => h) (Or.inl ⟨by rfl, ?h5⟩) hHeld ?_
    case h5 =>
      intro w' hSw
      (try dsimp only at hSw)
      go_simp
      with_reducible rfl
    (try simp only [Act.put, List.setIfInBounds_toArray, List.set_cons_zero, List.set_cons_succ])
    refine wpAnyH_take (i := 6) (v := ?_) rfl (by kernel_rfl) (by kernel_rfl) (by kernel_rfl) (fun _ _ _ h => h) (Or.inl ⟨by rfl, ?h6⟩) hHeld ?_
    case h6 =>
      intro w' hSw
      (try dsimp only at hSw)
      go_simp
      with_reducible rfl
    (try simp only [Act.put, List.setIfInBounds_toArray, List.set_cons_zero, List.set_cons_succ])
    refine wpAnyH_ready (rs := [4]) (by kernel_rfl) (by simp) ?_
    refine AllReadyH.cons rfl (fun K hK => ?_) AllReadyH.nil
    go_simp
    (with_reducible refine (C61a.out _ _ ?_).mono ?_)
    · exact HM.out
    rintro e w1 ⟨rfl, hm1, hg1⟩
    have d1 := B1.out.drew.kept hg1 (by simp; omega)
    have ⟨x0, x1, x2, x3, x4, x5, x6⟩ := d1.c7
    have HM1 := Lib.hid hm1
    have HG1 := Lib.hid hg1
    have D1 := Lib.hid d1
    clear hm1 hg1 d1
    (try go_wp2_with fail)
    refine hK.out _ _ ⟨x0, x1, x2, x3, x4, x5, x6⟩ (fun hHeld => ?_)
    clear hK K
    (try simp only [Act.put, List.setIfInBounds_toArray, List.set_cons_zero, List.set_cons_succ])
    refine wpAnyH_ready (rs := [7]) (by kernel_rfl) (by simp) ?_
    refine AllReadyH.cons rfl (fun K hK => ?_) AllReadyH.nil
    go_simp
    (with_reducible refine (C62a.out _).mono ?_)
    rintro e w2 ⟨rfl, hb2⟩
    have e1 := D1.out.below hb2 D1.out.lt
    have ⟨y0, y1, y2, y3, y4, y5, y6⟩ := e1.c7
    have HB2 := Lib.hid hb2
    have E1 := Lib.hid e1
    clear hb2 e1
    (try go_wp2_with fail)
    refine hK.out _ _ ⟨y0, y1, y2, y3, y4, y5, y6⟩ (fun hHeld => ?_)
    clear hK K
    (try simp only [Act.put, List.setIfInBounds_toArray, List.set_cons_zero, List.set_cons_succ])
    refine wpAnyH_take (i := 8) (v := ?_) rfl (by kernel_rfl) (by kernel_rfl) (by kernel_rfl) (fun _ _ _ h => h) (Or.inl ⟨by rfl, ?h8⟩) hHeld ?_
    case h8 =>
      intro w' hSw
      (try dsimp only at hSw)
      go_simp
      with_reducible rfl
    (try simp only [Act.put, List.setIfInBounds_toArray, List.set_cons_zero, List.set_cons_succ])
    refine wpAnyH_take (i := 9) (v := undef) rfl (by kernel_rfl) (by kernel_rfl) (by kernel_rfl) (fun _ _ _ h => h) (Or.inr ⟨by kernel_rfl, rfl⟩) hHeld ?_
    (try simp only [Act.put, List.setIfInBounds_toArray, List.set_cons_zero, List.set_cons_succ])
    refine wpAnyH_take (i := 10) (v := undef) rfl (by kernel_rfl) (by kernel_rfl) (by kernel_rfl) (fun _ _ _ h => h) (Or.inr ⟨by kernel_rfl, rfl⟩) hHeld ?_
    (try simp only [Act.put, List.setIfInBounds_toArray, List.set_cons_zero, List.set_cons_succ])
    refine wpAnyH_take (i := 11) (v := undef) rfl (by kernel_rfl) (by kernel_rfl) (by kernel_rfl) (fun _ _ _ h => h) (Or.inr ⟨by kernel_rfl, rfl⟩) hHeld ?_
    (try simp only [Act.put, List.setIfInBounds_toArray, List.set_cons_zero, List.set_cons_succ])
    refine wpAnyH_take (i := 12) (v := undef) rfl (by kernel_rfl) (by kernel_rfl) (by kernel_rfl) (fun _ _ _ h => h) (Or.inr ⟨by kernel_rfl, rfl⟩) hHeld ?_
    (try simp only [Act.put, List.setIfInBounds_toArray, List.set_cons_zero, List.set_cons_succ])
    refine wpAnyH_take (i := 13) (v := undef) rfl (by kernel_rfl) (by kernel_rfl) (by kernel_rfl) (fun _ _ _ h => h) (Or.inr ⟨by kernel_rfl, rfl⟩) hHeld ?_
    (try simp only [Act.put, List.setIfInBounds_toArray, List.set_cons_zero, List.set_cons_succ])
    refine wpAnyH_take (i := 14) (v := undef) rfl (by kernel_rfl) (by kernel_rfl) (by kernel_rfl) (fun _ _ _ h => h) (Or.inr ⟨by kernel_rfl, rfl⟩) hHeld ?_
    (try simp only [Act.put, List.setIfInBounds_toArray, List.set_cons_zero, List.set_cons_succ])
    refine wpAnyH_take (i := 15) (v := undef) rfl (by kernel_rfl) (by kernel_rfl) (by kernel_rfl) (fun _ _ _ h => h) (Or.inr ⟨by kernel_rfl, rfl⟩) hHeld ?_
    (try simp only [Act.put, List.setIfInBounds_toArray, List.set_cons_zero, List.set_cons_succ])
    refine wpAnyH_take (i := 16) (v := undef) rfl (by kernel_rfl) (by kernel_rfl) (by kernel_rfl) (fun _ _ _ h => h) (Or.inr ⟨by kernel_rfl, rfl⟩) hHeld ?_
    (try simp only [Act.put, List.setIfInBounds_toArray, List.set_cons_zero, List.set_cons_succ])
    refine wpAnyH_ready (rs := [17]) (by kernel_rfl) (by simp) ?_
    refine AllReadyH.cons rfl (fun K hK => ?_) AllReadyH.nil
    go_simp
    refine hK.out _ _ ⟨y0, y1, y2, y3, y4, y5, y6⟩ (fun hHeld => ?_)
    clear hK K
    (try simp only [Act.put, List.setIfInBounds_toArray, List.set_cons_zero, List.set_cons_succ])
    refine wpAnyH_ready (rs := [18]) (by kernel_rfl) (by simp) ?_
    refine AllReadyH.cons rfl (fun K hK => ?_) AllReadyH.nil
    go_simp
    refine hK.out _ _ ⟨y0, y1, y2, y3, y4, y5, y6⟩ (fun hHeld => ?_)
    clear hK K
    (try simp only [Act.put, List.setIfInBounds_toArray, List.set_cons_zero, List.set_cons_succ])
    refine wpAnyH_done (by kernel_rfl) ?_ _
    go_wp2
    go_ret
    refine ⟨by rw [HE.out]; simp, HM1.out.below HB2.out HM1.out.lt, ?_⟩
    exact ((grownBy_below B2.out (some mb)).trans' (World.grownBy.drew' HG1.out)).trans' (grownBy_below HB2.out _)
  | false =>
    rw [c1] at C62a HE
    clear c1
    go_enter Tryz.func129, Tryz.ntmps129
    go_wp2_with fail
    generalize w.alloc (.cells #[.int .i64 l, .int .i64 M, .int .i64 s, .int .i64 f, .map (some mb), .int .i64 n, .int .i64 d] 187) = W0 at *
    obtain ⟨k0, k1, k2, k3, k4, k5, k6⟩ := B1.out.c7
    go_region_held3 (fun w' => w'.cell? ⟨w.heap.size, 0, none⟩ = some (.int .i64 l) ∧ w'.cell? ⟨w.heap.size, 1, none⟩ = some (.int .i64 M) ∧ w'.cell? ⟨w.heap.size, 2, none⟩ = some (.int .i64 s) ∧ w'.cell? ⟨w.heap.size, 3, none⟩ = some (.int .i64 f) ∧ w'.cell? ⟨w.heap.size, 4, none⟩ = some (.map (some mb)) ∧ w'.cell? ⟨w.heap.size, 5, none⟩ = some (.int .i64 n) ∧ w'.cell? ⟨w.heap.size, 6, none⟩ = some (.int .i64 d))
      (first | (with_reducible exact ⟨v0, v1, v2, v3, v4, v5, v6⟩) | (with_reducible exact ⟨z0, z1, z2, z3, z4, z5, z6⟩) | (with_reducible exact ⟨y0, y1, y2, y3, y4, y5, y6⟩) | (with_reducible exact ⟨x0, x1, x2, x3, x4, x5, x6⟩) | (with_reducible exact ⟨k0, k1, k2, k3, k4, k5, k6⟩) | go_keep)
      (first | (go_at_call 88; (with_reducible refine (C61a.out _ _ ?_).mono ?_); (exact HM.out); rintro e w1 ⟨rfl, hm1, hg1⟩; have d1 := B1.out.drew.kept hg1 (by simp; omega); have ⟨x0, x1, x2, x3, x4, x5, x6⟩ := d1.c7; have HM1 := Lib.hid hm1; have HG1 := Lib.hid hg1; have D1 := Lib.hid d1; clear hm1 hg1 d1) | (go_at_call 156; (with_reducible refine (C62a.out _).mono ?_); rintro e w2 ⟨rfl, hb2⟩; have e1 := D1.out.below hb2 D1.out.lt; have ⟨y0, y1, y2, y3, y4, y5, y6⟩ := e1.c7; have HB2 := Lib.hid hb2; have E1 := Lib.hid e1; clear hb2 e1) | (go_at_call 88; (with_reducible refine (C61b.out _ _ ?_).mono ?_); (exact HM1.out.below HB2.out HM1.out.lt); rintro e w3 ⟨rfl, hm1, hg1⟩; have d1 := E1.out.kept hg1 (by simp; omega); have ⟨z0, z1, z2, z3, z4, z5, z6⟩ := d1.c7; have HM3 := Lib.hid hm1; have HG3 := Lib.hid hg1; have D3 := Lib.hid d1; clear hm1 hg1 d1) | (go_at_call 156; (with_reducible refine (C62b.out _).mono ?_); rintro e w4 ⟨rfl, hb2⟩; have e1 := D3.out.below hb2 D3.out.lt; have ⟨v0, v1, v2, v3, v4, v5, v6⟩ := e1.c7; have HB4 := Lib.hid hb2; clear hb2 e1))
    go_wp2
    go_ret
    refine ⟨by rw [HE.out]; simp, HM3.out.below HB4.out HM3.out.lt, ?_⟩
    exact ((((grownBy_below B2.out (some mb)).trans' (World.grownBy.drew' HG1.out)).trans' (grownBy_below HB2.out _)).trans' HG3.out).trans' (grownBy_below HB4.out _)
end Go.Proofs.YtdfebccmjbocjaaGreatDoor.Mi
