/- The walks of Excluded of the reference of layer 6. -/
import Derived.Test.YtkfobnhnehbkeaaKeep
import Derived.Test.YtkfobnhnehbkeaaRef3
set_option linter.unusedVariables false
set_option linter.unusedSimpArgs false
namespace Go.Proofs.Ytkfobnhnehbkeaa
open Go.RowKit Go.Shelf
open Mis (ch sets tot sm low up lower excl)

theorem rBetween_low {l M s f : Nat} (h : okA l M s f) {u : Nat} (hu : u ≤ M) (w : World) : Calls Try.prog 27 #[areaV l M s f, .int .i64 u, .int .i64 0, .int .i64 f] w fun e w' => e = .returned (fracV (low l u s f : Nat) (tot l u s)) ∧ Below w.heap.size w w' := by
  obtain ⟨h1, h2, h3⟩ := h
  have := rBetween_any l M s f l u s 0 (f + 1) rfl rfl w (by omega) (by omega) (by omega) h2
  rwa [show ((f + 1 : Nat) : Int) - 1 = f by omega] at this
theorem rBetween_up {l M s f : Nat} (h : okA l M s f) {u : Nat} (hu : u ≤ M) (w : World) : Calls Try.prog 27 #[areaV l M s f, .int .i64 u, .int .i64 f, .int .i64 s] w fun e w' => e = .returned (fracV (up l u s f : Nat) (tot l u s)) ∧ Below w.heap.size w w' := by
  obtain ⟨h1, h2, h3⟩ := h
  have := rBetween_any l M s f l u s f (s + 1) rfl rfl w (by omega) (by omega) (by omega) h2
  rwa [show ((s + 1 : Nat) : Int) - 1 = s by omega] at this
theorem rBetween_point {l M s f : Nat} (h : okA l M s f) {u : Nat} (hu : u ≤ M) (w : World) : Calls Try.prog 27 #[areaV l M s f, .int .i64 u, .int .i64 f, .int .i64 f] w fun e w' => e = .returned (fracV (sm (sets l u s) f 1 : Nat) (tot l u s)) ∧ Below w.heap.size w w' := by
  obtain ⟨h1, h2, h3⟩ := h
  have := rBetween_any l M s f l u s f (f + 1) rfl rfl w (by omega) (by omega) (by omega) h2
  rwa [show ((f + 1 : Nat) : Int) - 1 = f by omega, show f + 1 - f = 1 by omega] at this
theorem okA.pos {l M s f : Nat} (h : okA l M s f) (u : Nat) : 0 < tot l u s := Mis.tot_pos l u s h.2.1
theorem okA.big {l M s f : Nat} (h : okA l M s f) {u : Nat} (hu : u ≤ M) : tot l u s ≤ 4611686018427387904 := bigT (by obtain ⟨h1, _, _⟩ := h; omega)
theorem okA.low {l M s f : Nat} (h : okA l M s f) {u : Nat} (hu : u ≤ M) : Mis.low l u s f ≤ 4611686018427387904 := Nat.le_trans (Mis.low_le l u s f h.2.2) (h.big hu)
theorem okA.up {l M s f : Nat} (h : okA l M s f) {u : Nat} (hu : u ≤ M) : Mis.up l u s f ≤ 4611686018427387904 := Nat.le_trans (Mis.up_le l u s f h.2.2) (h.big hu)
theorem okA.point {l M s f : Nat} (h : okA l M s f) {u : Nat} (hu : u ≤ M) : sm (sets l u s) f 1 ≤ 4611686018427387904 := Nat.le_trans (num_le l s f u h.2.2) (h.big hu)

set_option maxRecDepth 100000 in
set_option maxHeartbeats 4000000 in
theorem rExcl_any {l M s f : Nat} (h : okA l M s f) {u : Nat} (hu : u ≤ M) (n d : Nat) (hd1 : 1 ≤ d) (hd : d ≤ 1000) (hn : n ≤ d) (w : World) :
    Calls Try.prog 66 #[areaV l M s f, .int .i64 u, fracV n d] w fun e w' => e = .returned (.bool (excl l s f n d u)) ∧ Below w.heap.size w w' := by
  have A27 := Lib.hid (fun w => rBetween_low h hu w)
  have B27 := Lib.hid (fun w => rBetween_up h hu w)
  have A29 := Lib.hid (fun w => rBelow_any (low l u s f) (tot l u s) n d w (h.pos u) (by omega) (h.low hu) (h.big hu) (by omega) (by omega))
  have B29 := Lib.hid (fun w => rBelow_any (up l u s f) (tot l u s) n d w (h.pos u) (by omega) (h.up hu) (h.big hu) (by omega) (by omega))
  have hE : excl l s f n d u = (lower (low l u s f) (tot l u s) n d || lower (up l u s f) (tot l u s) n d) := rfl
  have HE := Lib.hid hE
  generalize excl l s f n d u = r at *
  generalize low l u s f = N1 at *
  generalize up l u s f = N2 at *
  generalize tot l u s = D at *
  have hs0 := ((KS.start w).new #[.int .i64 l, .int .i64 M, .int .i64 s, .int .i64 f] 23).new #[.int .i64 n, .int .i64 d] 36
  rw [World.size_alloc] at hs0
  clear hE h hu hd1 hd hn
  cases c1 : lower N1 D n d with
  | true =>
    rw [c1] at A29 HE
    clear c1
    go_enter Try.func66, Try.ntmps66
    go_wp2_with fail
    generalize (w.alloc (.cells #[.int .i64 l, .int .i64 M, .int .i64 s, .int .i64 f] 23)).alloc (.cells #[.int .i64 n, .int .i64 d] 36) = W0 at *
    obtain ⟨BS, hBS⟩ : ∃ BS : List (Nat × Array Value × TypeId), BS = [(w.heap.size + 1, #[.int .i64 n, .int .i64 d], 36), (w.heap.size, #[.int .i64 l, .int .i64 M, .int .i64 s, .int .i64 f], 23)] := ⟨_, rfl⟩
    have hS : KS w BS W0 := by rw [hBS]; exact hs0
    have K0_0 : ∀ W, KS w BS W → W.cell? ⟨w.heap.size + 1, 0, none⟩ = some (.int .i64 n) := fun W h => by rw [hBS] at h; exact (h.blkAt 0 rfl).cell 0
    have K0_1 : ∀ W, KS w BS W → W.cell? ⟨w.heap.size + 1, 1, none⟩ = some (.int .i64 d) := fun W h => by rw [hBS] at h; exact (h.blkAt 0 rfl).cell 1
    have K1_0 : ∀ W, KS w BS W → W.cell? ⟨w.heap.size, 0, none⟩ = some (.int .i64 l) := fun W h => by rw [hBS] at h; exact (h.blkAt 1 rfl).cell 0
    have K1_1 : ∀ W, KS w BS W → W.cell? ⟨w.heap.size, 1, none⟩ = some (.int .i64 M) := fun W h => by rw [hBS] at h; exact (h.blkAt 1 rfl).cell 1
    have K1_2 : ∀ W, KS w BS W → W.cell? ⟨w.heap.size, 2, none⟩ = some (.int .i64 s) := fun W h => by rw [hBS] at h; exact (h.blkAt 1 rfl).cell 2
    have K1_3 : ∀ W, KS w BS W → W.cell? ⟨w.heap.size, 3, none⟩ = some (.int .i64 f) := fun W h => by rw [hBS] at h; exact (h.blkAt 1 rfl).cell 3
    have HBS := Lib.hid hBS
    clear hBS
    refine wp_region_held_drew (S := KS w BS) (by kernel_rfl) hS.drew (fun hHeld => ?_)
    refine wpAnyH_take (i := 0) (v := ?_) rfl (by kernel_rfl) (by kernel_rfl) (by kernel_rfl) (fun _ _ _ h => h) (Or.inl ⟨by rfl, ?h0⟩) hHeld ?_
    case h0 =>
      intro w' hSw
      (try dsimp only at hSw)
      go_simp
      (try with_reducible rfl)
    (try simp only [Act.put, List.setIfInBounds_toArray, List.set_cons_zero, List.set_cons_succ])
    refine wpAnyH_take (i := 1) (v := ?_) rfl (by kernel_rfl) (by kernel_rfl) (by kernel_rfl) (fun _ _ _ h => h) (Or.inl ⟨by rfl, ?h1⟩) hHeld ?_
    case h1 =>
      intro w' hSw
      (try dsimp only at hSw)
      go_simp
      (try with_reducible rfl)
    (try simp only [Act.put, List.setIfInBounds_toArray, List.set_cons_zero, List.set_cons_succ])
    refine wpAnyH_take (i := 2) (v := ?_) rfl (by kernel_rfl) (by kernel_rfl) (by kernel_rfl) (fun _ _ _ h => h) (Or.inl ⟨by rfl, ?h2⟩) hHeld ?_
    case h2 =>
      intro w' hSw
      (try dsimp only at hSw)
      go_simp
      (try with_reducible rfl)
    (try simp only [Act.put, List.setIfInBounds_toArray, List.set_cons_zero, List.set_cons_succ])
    refine wpAnyH_take (i := 3) (v := ?_) rfl (by kernel_rfl) (by kernel_rfl) (by kernel_rfl) (fun _ _ _ h => h) (Or.inl ⟨by rfl, ?h3⟩) hHeld ?_
    case h3 =>
      intro w' hSw
      (try dsimp only at hSw)
      go_simp
      (try with_reducible rfl)
    (try simp only [Act.put, List.setIfInBounds_toArray, List.set_cons_zero, List.set_cons_succ])
    refine wpAnyH_take (i := 5) (v := ?_) rfl (by kernel_rfl) (by kernel_rfl) (by kernel_rfl) (fun _ _ _ h => h) (Or.inl ⟨by rfl, ?h5⟩) hHeld ?_
    case h5 =>
      intro w' hSw
      (try dsimp only at hSw)
      go_simp
      (try with_reducible rfl)
    (try simp only [Act.put, List.setIfInBounds_toArray, List.set_cons_zero, List.set_cons_succ])
    refine wpAnyH_ready (rs := [4]) (by kernel_rfl) (by simp) ?_
    refine AllReadyH.cons rfl (fun K hK => ?_) AllReadyH.nil
    go_simp
    (with_reducible refine (A27.out _).mono ?_)
    rintro e wn ⟨rfl, hb⟩
    have hSn := KS.below hHeld hb
    clear hb hHeld
    (try go_wp2_with fail)
    refine hK.out _ _ hSn (fun hHeld => ?_)
    clear hK K hSn
    (try simp only [Act.put, List.setIfInBounds_toArray, List.set_cons_zero, List.set_cons_succ])
    refine wpAnyH_ready (rs := [6]) (by kernel_rfl) (by simp) ?_
    refine AllReadyH.cons rfl (fun K hK => ?_) AllReadyH.nil
    go_simp
    (with_reducible refine (A29.out _).mono ?_)
    rintro e wn ⟨rfl, hb⟩
    have hSn := KS.below hHeld hb
    clear hb hHeld
    (try go_wp2_with fail)
    refine hK.out _ _ hSn (fun hHeld => ?_)
    clear hK K hSn
    (try simp only [Act.put, List.setIfInBounds_toArray, List.set_cons_zero, List.set_cons_succ])
    refine wpAnyH_take (i := 7) (v := ?_) rfl (by kernel_rfl) (by kernel_rfl) (by kernel_rfl) (fun _ _ _ h => h) (Or.inl ⟨by rfl, ?h7⟩) hHeld ?_
    case h7 =>
      intro w' hSw
      (try dsimp only at hSw)
      go_simp
      (try with_reducible rfl)
    (try simp only [Act.put, List.setIfInBounds_toArray, List.set_cons_zero, List.set_cons_succ])
    refine wpAnyH_take (i := 8) (v := undef) rfl (by kernel_rfl) (by kernel_rfl) (by kernel_rfl) (fun _ _ _ h => h) (Or.inr ⟨by kernel_rfl, rfl⟩) hHeld ?_
    (try simp only [Act.put, List.setIfInBounds_toArray, List.set_cons_zero, List.set_cons_succ])
    refine wpAnyH_take (i := 9) (v := undef) rfl (by kernel_rfl) (by kernel_rfl) (by kernel_rfl) (fun _ _ _ h => h) (Or.inr ⟨by kernel_rfl, rfl⟩) hHeld ?_
    (try simp only [Act.put, List.setIfInBounds_toArray, List.set_cons_zero, List.set_cons_succ])
    refine wpAnyH_take (i := 10) (v := undef) rfl (by kernel_rfl) (by kernel_rfl) (by kernel_rfl) (fun _ _ _ h => h) (Or.inr ⟨by kernel_rfl, rfl⟩) hHeld ?_
    (try simp only [Act.put, List.setIfInBounds_toArray, List.set_cons_zero, List.set_cons_succ])
    refine wpAnyH_take (i := 11) (v := undef) rfl (by kernel_rfl) (by kernel_rfl) (by kernel_rfl) (fun _ _ _ h => h) (Or.inr ⟨by kernel_rfl, rfl⟩) hHeld ?_
    (try simp only [Act.put, List.setIfInBounds_toArray, List.set_cons_zero, List.set_cons_succ])
    refine wpAnyH_take (i := 12) (v := undef) rfl (by kernel_rfl) (by kernel_rfl) (by kernel_rfl) (fun _ _ _ h => h) (Or.inr ⟨by kernel_rfl, rfl⟩) hHeld ?_
    (try simp only [Act.put, List.setIfInBounds_toArray, List.set_cons_zero, List.set_cons_succ])
    refine wpAnyH_take (i := 13) (v := undef) rfl (by kernel_rfl) (by kernel_rfl) (by kernel_rfl) (fun _ _ _ h => h) (Or.inr ⟨by kernel_rfl, rfl⟩) hHeld ?_
    (try simp only [Act.put, List.setIfInBounds_toArray, List.set_cons_zero, List.set_cons_succ])
    refine wpAnyH_take (i := 14) (v := undef) rfl (by kernel_rfl) (by kernel_rfl) (by kernel_rfl) (fun _ _ _ h => h) (Or.inr ⟨by kernel_rfl, rfl⟩) hHeld ?_
    (try simp only [Act.put, List.setIfInBounds_toArray, List.set_cons_zero, List.set_cons_succ])
    refine wpAnyH_take (i := 15) (v := undef) rfl (by kernel_rfl) (by kernel_rfl) (by kernel_rfl) (fun _ _ _ h => h) (Or.inr ⟨by kernel_rfl, rfl⟩) hHeld ?_
    (try simp only [Act.put, List.setIfInBounds_toArray, List.set_cons_zero, List.set_cons_succ])
    refine wpAnyH_take (i := 16) (v := undef) rfl (by kernel_rfl) (by kernel_rfl) (by kernel_rfl) (fun _ _ _ h => h) (Or.inr ⟨by kernel_rfl, rfl⟩) hHeld ?_
    (try simp only [Act.put, List.setIfInBounds_toArray, List.set_cons_zero, List.set_cons_succ])
    refine wpAnyH_ready (rs := [17]) (by kernel_rfl) (by simp) ?_
    refine AllReadyH.cons rfl (fun K hK => ?_) AllReadyH.nil
    go_simp
    refine hK.out _ _ hHeld (fun hHeld => ?_)
    clear hK K
    (try simp only [Act.put, List.setIfInBounds_toArray, List.set_cons_zero, List.set_cons_succ])
    refine wpAnyH_ready (rs := [18]) (by kernel_rfl) (by simp) ?_
    refine AllReadyH.cons rfl (fun K hK => ?_) AllReadyH.nil
    go_simp
    refine hK.out _ _ hHeld (fun hHeld => ?_)
    clear hK K
    (try simp only [Act.put, List.setIfInBounds_toArray, List.set_cons_zero, List.set_cons_succ])
    refine wpAnyH_done (by kernel_rfl) ?_ _
    go_wp2
    go_ret
    exact ⟨by rw [HE.out]; rfl, hHeld.bel⟩
  | false =>
    rw [c1] at A29 HE
    clear c1
    go_enter Try.func66, Try.ntmps66
    go_wp2_with fail
    generalize (w.alloc (.cells #[.int .i64 l, .int .i64 M, .int .i64 s, .int .i64 f] 23)).alloc (.cells #[.int .i64 n, .int .i64 d] 36) = W0 at *
    obtain ⟨BS, hBS⟩ : ∃ BS : List (Nat × Array Value × TypeId), BS = [(w.heap.size + 1, #[.int .i64 n, .int .i64 d], 36), (w.heap.size, #[.int .i64 l, .int .i64 M, .int .i64 s, .int .i64 f], 23)] := ⟨_, rfl⟩
    have hS : KS w BS W0 := by rw [hBS]; exact hs0
    have K0_0 : ∀ W, KS w BS W → W.cell? ⟨w.heap.size + 1, 0, none⟩ = some (.int .i64 n) := fun W h => by rw [hBS] at h; exact (h.blkAt 0 rfl).cell 0
    have K0_1 : ∀ W, KS w BS W → W.cell? ⟨w.heap.size + 1, 1, none⟩ = some (.int .i64 d) := fun W h => by rw [hBS] at h; exact (h.blkAt 0 rfl).cell 1
    have K1_0 : ∀ W, KS w BS W → W.cell? ⟨w.heap.size, 0, none⟩ = some (.int .i64 l) := fun W h => by rw [hBS] at h; exact (h.blkAt 1 rfl).cell 0
    have K1_1 : ∀ W, KS w BS W → W.cell? ⟨w.heap.size, 1, none⟩ = some (.int .i64 M) := fun W h => by rw [hBS] at h; exact (h.blkAt 1 rfl).cell 1
    have K1_2 : ∀ W, KS w BS W → W.cell? ⟨w.heap.size, 2, none⟩ = some (.int .i64 s) := fun W h => by rw [hBS] at h; exact (h.blkAt 1 rfl).cell 2
    have K1_3 : ∀ W, KS w BS W → W.cell? ⟨w.heap.size, 3, none⟩ = some (.int .i64 f) := fun W h => by rw [hBS] at h; exact (h.blkAt 1 rfl).cell 3
    have HBS := Lib.hid hBS
    clear hBS
    go_region_held3 (KS w BS)
    (first | assumption | exact KS.drew (by assumption) | exact KS.alloc (by assumption) _ | exact KS.drew (KS.alloc (by assumption) _) | exact KS.alloc (KS.drew (by assumption)) _ | go_keep)
    (first | (go_at_call 27; (with_reducible refine (A27.out _).mono ?_); rintro e wn ⟨rfl, hb⟩; have hSn := KS.below (by first | assumption | exact KS.drew (by assumption)) hb; clear hb) | (go_at_call 27; (with_reducible refine (B27.out _).mono ?_); rintro e wn ⟨rfl, hb⟩; have hSn := KS.below (by first | assumption | exact KS.drew (by assumption)) hb; clear hb) | (go_at_call 29; (with_reducible refine (A29.out _).mono ?_); rintro e wn ⟨rfl, hb⟩; have hSn := KS.below (by first | assumption | exact KS.drew (by assumption)) hb; clear hb) | (go_at_call 29; (with_reducible refine (B29.out _).mono ?_); rintro e wn ⟨rfl, hb⟩; have hSn := KS.below (by first | assumption | exact KS.drew (by assumption)) hb; clear hb))
    all_goals
      go_wp2
      go_ret
      exact ⟨by rw [HE.out]; simp, KS.bel (by assumption)⟩
end Go.Proofs.Ytkfobnhnehbkeaa
