/- The walk of awake of the laws of layer 6: the document's first examples. -/
import Derived.Test.YtkfobnhnehbkeaaApi
import Derived.Deep.RegionHeld3
namespace Go.Proofs.Ytkfobnhnehbkeaa
open Go.RowKit Go.Shelf
open Mis (ch sets tot sm low up)

theorem Blk.b {W W' : World} {b : Nat} {cs : Array Value} {t : TypeId} (h : Blk W b cs t) (hb : Below W.heap.size W W') : Blk W' b cs t := h.below hb h.lt
/-- a list of numbers that the call owns: its block, its cells -/
def Got (W : World) (base g cap : Nat) (xs : List Int) : Prop := W.ownsRow base 3 1 (.slice (some ⟨g, 0, none⟩) xs.length cap) xs.length (xs.map (Value.int .i64))
theorem aw1 (w : World) : Calls Try.prog 19 #[areaV 10 5 4 3, .int .i64 3] w fun e w' => e = .returned (.tuple #[fracV 72 143, .int .i64 0]) ∧ Below w.heap.size w w' := by
  have h := Chance_ok (l := 10) (M := 5) (s := 4) (f := 3) (by unfold okA; decide) (u := 3) (by decide) w
  have e : lowV (sm (sets 10 3 4) 3 1) (tot 10 3 4) = fracV 72 143 := by
    have h1 : sm (sets 10 3 4) 3 1 / Nat.gcd (sm (sets 10 3 4) 3 1) (tot 10 3 4) = 72 := by decide +kernel
    have h2 : tot 10 3 4 / Nat.gcd (sm (sets 10 3 4) 3 1) (tot 10 3 4) = 143 := by decide +kernel
    unfold lowV; rw [h1, h2]; rfl
  unfold ChPost at h
  rw [e] at h
  exact h
theorem aw2 (w : World) : Calls Try.prog 21 #[areaV 10 5 4 3, .int .i64 2, .bool true] w fun e w' => e = .returned (.tuple #[fracV 19 33, .int .i64 0]) ∧ Below w.heap.size w w' := by
  have h := Most_ok (l := 10) (M := 5) (s := 4) (f := 3) (by unfold okA; decide) (u := 2) (by decide) w
  have e : lowV (low 10 2 4 3) (tot 10 2 4) = fracV 19 33 := by
    have h1 : low 10 2 4 3 / Nat.gcd (low 10 2 4 3) (tot 10 2 4) = 19 := by decide +kernel
    have h2 : tot 10 2 4 / Nat.gcd (low 10 2 4 3) (tot 10 2 4) = 33 := by decide +kernel
    unfold lowV; rw [h1, h2]; rfl
  unfold ChPost at h
  rw [e] at h
  exact h
theorem aw3 (w : World) : Calls Try.prog 28 #[areaV 10 5 4 3] w fun e w' => ∃ g cap, e = .returned (.tuple #[.slice (some ⟨g, 0, none⟩) 1 cap, .int .i64 0]) ∧ Got w' w.heap.size g cap [3] ∧ Below w.heap.size w w' := by
  refine (Likely_ok 10 5 4 3 w (by decide) (by decide) (by decide) (by decide)).mono ?_
  rintro e w' ⟨v, r, rfl, _, h2, h3, h4⟩
  have e1 : dueOf 10 5 4 3 = [3] := by decide +kernel
  rw [e1] at h2 h3
  obtain rfl := h2 (by simp)
  obtain ⟨g, cap, rfl⟩ := ownsRow_succ (k := 0) h3
  exact ⟨g, cap, rfl, h3, h4⟩
theorem aw4 (w : World) : Calls Try.prog 36 #[areaV 10 5 4 3, fracV 2 5] w fun e w' => e = .returned (.tuple #[rangeV 2 5, .int .i64 0]) ∧ Below w.heap.size w w' := by
  have h := Missed_any 10 5 4 3 2 5 w
  unfold TotalPost at h
  have e : totRes [⟨10, 5, 4, 3⟩] 2 5 = (2, 5, 0) := by decide +kernel
  rw [e] at h
  exact h
theorem aw5 (w : World) : Calls Try.prog 37 #[.int .i64 10, .int .i64 5, .int .i64 2, fracV 1 2] w fun e w' => e = .returned (.tuple #[.int .i64 4, .int .i64 0]) ∧ Below w.heap.size w w' := by
  refine (Enough_ok 10 5 2 1 2 w (by decide) (by decide) (by decide) (by decide) (by decide)).mono ?_
  rintro e w' ⟨⟨v, r, rfl, h⟩, hb⟩
  have e1 : Mis.first (sufB 10 5 2 1 2) 0 (10 + 1) = some 4 := by decide +kernel
  rw [e1] at h
  obtain ⟨rfl, rfl⟩ := h
  exact ⟨rfl, hb⟩
theorem aw6 (g cap : Nat) (w : World) (hg : g < w.heap.size) (h : IntsAt w g 0 [7, 0, 2]) : Calls Try.prog 40 #[.int .i64 5, .slice (some ⟨g, 0, none⟩) 3 cap] w fun e w' => ∃ g cap, e = .returned (.tuple #[.slice (some ⟨g, 0, none⟩) 3 cap, .int .i64 0]) ∧ Got w' w.heap.size g cap [0, 2, 4] ∧ Below w.heap.size w w' := by
  refine (Draw_ok 5 (some ⟨g, 0, none⟩) g 0 cap [7, 0, 2] w (fun _ => rfl) (fun _ => hg) (by decide) (by decide) h (by decide)).mono ?_
  rintro e w' ⟨v, rfl, h3, h4⟩
  have e1 : Mis.drawn 5 (natsOf [7, 0, 2]) = [0, 2, 4] := by decide +kernel
  rw [e1] at h3
  obtain ⟨g, cap, rfl⟩ := ownsRow_succ (k := 2) h3
  exact ⟨g, cap, rfl, h3, h4⟩
/-- three numbers laid down -/
theorem ints3 (w : World) (a b c : Int) (t : TypeId) : IntsAt (w.alloc (.cells #[.int .i64 a, .int .i64 b, .int .i64 c] t)) w.heap.size 0 [a, b, c] := fun i x e => by
  have h := Blk.new w #[.int .i64 a, .int .i64 b, .int .i64 c] t
  match i, e with
  | 0, e => simp at e; subst e; exact h.cell 0
  | 1, e => simp at e; subst e; exact h.cell 1
  | 2, e => simp at e; subst e; exact h.cell 2
theorem ints1 (w : World) (a : Int) (t : TypeId) : IntsAt (w.alloc (.cells #[.int .i64 a] t)) w.heap.size 0 [a] := fun i x e => by
  have h := Blk.new w #[.int .i64 a] t
  match i, e with
  | 0, e => simp at e; subst e; exact h.cell 0

theorem aw7 (g cap h c : Nat) (w : World) (h1 : IntsAt w g 0 [3]) (h2 : IntsAt w h 0 [3]) : Calls Try.prog 30 #[.slice (some ⟨g, 0, none⟩) 1 cap, .slice (some ⟨h, 0, none⟩) 1 c] w fun e w' => e = .returned (.bool true) ∧ ∃ q, w' = w.drewN q :=
  ints_any (some ⟨g, 0, none⟩) (some ⟨h, 0, none⟩) g 0 h 0 cap c [3] [3] w (fun _ => rfl) (fun _ => rfl) (by decide) h1 h2
theorem aw8 (g cap h c : Nat) (w : World) (h1 : IntsAt w g 0 [0, 2, 4]) (h2 : IntsAt w h 0 [0, 2, 4]) : Calls Try.prog 30 #[.slice (some ⟨g, 0, none⟩) 3 cap, .slice (some ⟨h, 0, none⟩) 3 c] w fun e w' => e = .returned (.bool true) ∧ ∃ q, w' = w.drewN q :=
  ints_any (some ⟨g, 0, none⟩) (some ⟨h, 0, none⟩) g 0 h 0 cap c [0, 2, 4] [0, 2, 4] w (fun _ => rfl) (fun _ => rfl) (by decide) h1 h2
/-- what is kept through awake's last statement -/
def AwS (w : World) (bc bt bm g6 g12 : Nat) (W : World) : Prop :=
  Blk W bc #[.int .i64 72, .int .i64 143] 25 ∧ Blk W bt #[.int .i64 19, .int .i64 33] 25 ∧ Blk W bm #[.int .i64 2, .int .i64 5] 48 ∧ (IntsAt W g6 0 [3] ∧ g6 < W.heap.size) ∧ (IntsAt W g12 0 [0, 2, 4] ∧ g12 < W.heap.size) ∧ Below w.heap.size w W
section
variable {w W W' : World} {bc bt bm g6 g12 : Nat}
theorem AwS.below (h : AwS w bc bt bm g6 g12 W) (hb : Below W.heap.size W W') : AwS w bc bt bm g6 g12 W' := by
  obtain ⟨h1, h2, h3, ⟨h4, h5⟩, ⟨h6, h7⟩, h8⟩ := h
  have := hb.size
  exact ⟨h1.b hb, h2.b hb, h3.b hb, ⟨h4.below hb h5, by omega⟩, ⟨h6.below hb h7, by omega⟩, h8.trans (hb.mono h8.size)⟩
theorem AwS.drewN (h : AwS w bc bt bm g6 g12 W) (q : Nat) : AwS w bc bt bm g6 g12 (W.drewN q) := h.below ((Below.refl _ _).drewN' q)
theorem AwS.drew (h : AwS w bc bt bm g6 g12 W) : AwS w bc bt bm g6 g12 W.drew := h.below (Below.refl _ _).drew
theorem AwS.alloc (h : AwS w bc bt bm g6 g12 W) (o : Obj) : AwS w bc bt bm g6 g12 (W.alloc o) := h.below ((Below.refl _ _).alloc (Nat.le_refl _) o)
theorem AwS.r6 (h : AwS w bc bt bm g6 g12 W) : IntsAt W g6 0 [3] := h.2.2.2.1.1
theorem AwS.r12 (h : AwS w bc bt bm g6 g12 W) : IntsAt W g12 0 [0, 2, 4] := h.2.2.2.2.1.1
theorem AwS.bel (h : AwS w bc bt bm g6 g12 W) : Below w.heap.size w W := h.2.2.2.2.2
theorem AwS.c1 (h : AwS w bc bt bm g6 g12 W) : W.cell? ⟨bc, 0, none⟩ = some (.int .i64 72) := h.1.cell 0
theorem AwS.c2 (h : AwS w bc bt bm g6 g12 W) : W.cell? ⟨bc, 1, none⟩ = some (.int .i64 143) := h.1.cell 1
theorem AwS.c3 (h : AwS w bc bt bm g6 g12 W) : W.cell? ⟨bt, 0, none⟩ = some (.int .i64 19) := h.2.1.cell 0
theorem AwS.c4 (h : AwS w bc bt bm g6 g12 W) : W.cell? ⟨bt, 1, none⟩ = some (.int .i64 33) := h.2.1.cell 1
theorem AwS.c5 (h : AwS w bc bt bm g6 g12 W) : W.cell? ⟨bm, 0, none⟩ = some (.int .i64 2) := h.2.2.1.cell 0
theorem AwS.c6 (h : AwS w bc bt bm g6 g12 W) : W.cell? ⟨bm, 1, none⟩ = some (.int .i64 5) := h.2.2.1.cell 1
end

set_option maxRecDepth 100000 in
set_option maxHeartbeats 4000000 in
theorem awake_any (w : World) : Calls Try.prog 24 #[] w fun e w' => e = .returned (.bool true) ∧ Below w.heap.size w w' := by
  go_enter Try.func24, Try.ntmps24
  go_wp2_with fail
  refine (ten_any _).mono ?_
  rintro e w1 ⟨rfl, h1⟩
  have H1 := Lib.hid h1
  clear h1
  go_wp2_with fail
  refine (aw1 _).mono ?_
  rintro e w2 ⟨rfl, h2⟩
  have H2 := Lib.hid h2
  clear h2
  go_wp2_with fail
  refine (ten_any _).mono ?_
  rintro e w3 ⟨rfl, h3⟩
  have H3 := Lib.hid h3
  clear h3
  go_wp2_with fail
  refine (aw2 _).mono ?_
  rintro e w4 ⟨rfl, h4⟩
  have H4 := Lib.hid h4
  clear h4
  go_wp2_with fail
  refine (ten_any _).mono ?_
  rintro e w5 ⟨rfl, h5⟩
  have H5 := Lib.hid h5
  clear h5
  go_wp2_with fail
  refine (aw3 _).mono ?_
  rintro e w6 ⟨g6, c6, rfl, h6, h6'⟩
  have G6 := Lib.hid h6
  have H6 := Lib.hid h6'
  clear h6 h6'
  go_wp2_with fail
  refine (ten_any _).mono ?_
  rintro e w7 ⟨rfl, h7⟩
  have H7 := Lib.hid h7
  clear h7
  go_wp2_with fail
  refine (over_any _ _ _).mono ?_
  rintro e w8 ⟨rfl, h8⟩
  have H8 := Lib.hid h8
  clear h8
  go_wp2_with fail
  refine (aw4 _).mono ?_
  rintro e w9 ⟨rfl, h9⟩
  have H9 := Lib.hid h9
  clear h9
  go_wp2_with fail
  refine (over_any _ _ _).mono ?_
  rintro e w10 ⟨rfl, h10⟩
  have H10 := Lib.hid h10
  clear h10
  go_wp2_with fail
  refine (aw5 _).mono ?_
  rintro e w11 ⟨rfl, h11⟩
  have H11 := Lib.hid h11
  clear h11
  go_wp2_with fail
  have hsz : w11.heap.size < (w11.alloc (.cells #[.int .i64 7, .int .i64 0, .int .i64 2] 3)).heap.size := by simp
  refine (aw6 _ _ _ hsz (ints3 _ _ _ _ _)).mono ?_
  rintro e w12 ⟨g12, c12, rfl, h12, h12'⟩
  have hS : AwS w w2.heap.size w4.heap.size w9.heap.size g6 g12 w12 := by
    have b1 : Below w.heap.size w w2 := H1.out.trans (H2.out.mono H1.out.size)
    have k1 : Below (w2.alloc (.cells #[.int .i64 72, .int .i64 143] 25)).heap.size (w2.alloc (.cells #[.int .i64 72, .int .i64 143] 25)) w4 := H3.out.trans (H4.out.mono H3.out.size)
    have k2 : Below (w4.alloc (.cells #[.int .i64 19, .int .i64 33] 25)).heap.size (w4.alloc (.cells #[.int .i64 19, .int .i64 33] 25)) w6 := H5.out.trans (H6.out.mono H5.out.size)
    have k3 : Below w6.heap.size w6 w9 := (H7.out.trans (H8.out.mono H7.out.size)).trans (H9.out.mono (Nat.le_trans H7.out.size H8.out.size))
    have k4 : Below (w9.alloc (.cells #[.int .i64 2, .int .i64 5] 48)).heap.size (w9.alloc (.cells #[.int .i64 2, .int .i64 5] 48)) w11 := H10.out.trans (H11.out.mono H10.out.size)
    have k5 : Below w11.heap.size w11 w12 := ((Below.refl _ _).alloc (Nat.le_refl _) _).trans (h12'.mono (by simp))
    have r6 : IntsAt w6 g6 0 [3] := ownsRow_ints G6.out
    have r12 : IntsAt w12 g12 0 [0, 2, 4] := ownsRow_ints h12
    have g6lt : g6 < w6.heap.size := (G6.out.lt g6 rfl).2
    have g12lt : g12 < w12.heap.size := (h12.lt g12 rfl).2
    have a3 : Below w6.heap.size w6 (w9.alloc (.cells #[.int .i64 2, .int .i64 5] 48)) := k3.alloc k3.size _
    have a4 : Below w6.heap.size w6 w12 := (a3.trans (k4.mono a3.size)).trans (k5.mono (Nat.le_trans a3.size k4.size))
    have a5 : Below (w4.alloc (.cells #[.int .i64 19, .int .i64 33] 25)).heap.size (w4.alloc (.cells #[.int .i64 19, .int .i64 33] 25)) w12 := k2.trans (a4.mono k2.size)
    have a6 : Below w4.heap.size w4 w12 := ((Below.refl _ _).alloc (Nat.le_refl _) _).trans (a5.mono (by simp))
    have a7 : Below (w2.alloc (.cells #[.int .i64 72, .int .i64 143] 25)).heap.size (w2.alloc (.cells #[.int .i64 72, .int .i64 143] 25)) w12 := k1.trans (a6.mono k1.size)
    have a8 : Below w2.heap.size w2 w12 := ((Below.refl _ _).alloc (Nat.le_refl _) _).trans (a7.mono (by simp))
    have a9 : Below (w9.alloc (.cells #[.int .i64 2, .int .i64 5] 48)).heap.size (w9.alloc (.cells #[.int .i64 2, .int .i64 5] 48)) w12 := k4.trans (k5.mono k4.size)
    exact ⟨(Blk.new _ _ _).b a7, (Blk.new _ _ _).b a5, (Blk.new _ _ _).b a9, ⟨r6.below a4 g6lt, Nat.lt_of_lt_of_le g6lt a4.size⟩, ⟨r12, g12lt⟩, b1.trans (a8.mono b1.size)⟩
  generalize w2.heap.size = bc at *
  generalize w4.heap.size = bt at *
  generalize w9.heap.size = bm at *
  have K1 : ∀ W, AwS w bc bt bm g6 g12 W → W.cell? ⟨bc, 0, none⟩ = some (.int .i64 72) := fun W h => h.c1
  have K2 : ∀ W, AwS w bc bt bm g6 g12 W → W.cell? ⟨bc, 1, none⟩ = some (.int .i64 143) := fun W h => h.c2
  have K3 : ∀ W, AwS w bc bt bm g6 g12 W → W.cell? ⟨bt, 0, none⟩ = some (.int .i64 19) := fun W h => h.c3
  have K4 : ∀ W, AwS w bc bt bm g6 g12 W → W.cell? ⟨bt, 1, none⟩ = some (.int .i64 33) := fun W h => h.c4
  have K5 : ∀ W, AwS w bc bt bm g6 g12 W → W.cell? ⟨bm, 0, none⟩ = some (.int .i64 2) := fun W h => h.c5
  have K6 : ∀ W, AwS w bc bt bm g6 g12 W → W.cell? ⟨bm, 1, none⟩ = some (.int .i64 5) := fun W h => h.c6
  clear H1 H2 H3 H4 H5 H6 H7 H8 H9 H10 H11 G6 h12 h12' hsz
  go_wp2_with fail
  go_region_held3 (AwS w bc bt bm g6 g12)
    (first | assumption | exact AwS.drew (by assumption) | exact AwS.alloc (by assumption) _ | exact AwS.drew (AwS.alloc (by assumption) _) | exact AwS.alloc (AwS.drew (by assumption)) _ | go_keep)
    (first | (go_at_call 46; (with_reducible refine (over_any _ _ _).mono ?_); rintro e wn ⟨rfl, hb⟩; have hSn := AwS.below (by first | assumption | exact AwS.drew (by assumption)) hb; clear hb) | (go_at_call 47; (with_reducible refine (between_any _ _ _).mono ?_); rintro e wn ⟨rfl, hb⟩; have hSn := AwS.below (by first | assumption | exact AwS.drew (by assumption)) hb; clear hb) | (go_at_call 30; (with_reducible refine (aw7 _ _ _ _ _ ?_ ?_).mono ?_); (exact AwS.r6 (by assumption)); (exact ints1 _ _ _); rintro e wn ⟨rfl, q, rfl⟩; have hSn := AwS.drewN (by assumption) q) | (go_at_call 30; (with_reducible refine (aw8 _ _ _ _ _ ?_ ?_).mono ?_); (exact AwS.r12 (by assumption)); (exact ints3 _ _ _ _ _); rintro e wn ⟨rfl, q, rfl⟩; have hSn := AwS.drewN (by assumption) q))
  all_goals
    go_wp2
    go_ret
    exact ⟨rfl, AwS.bel (by assumption)⟩
end Go.Proofs.Ytkfobnhnehbkeaa
