/- sheet: entries, pairs; whether two entries fit. -/
import Derived.Test.YtdfebccmjbocjaaGreatDoorZe
set_option linter.unusedVariables false
set_option linter.unusedSimpArgs false
namespace Go.Proofs.YtdfebccmjbocjaaGreatDoor
open Go.RowKit Go.Shelf

structure Ent where
  s : Nat
  x : Nat
  k : Nat
  lo : Nat
  hi : Nat
deriving DecidableEq
abbrev entA (e : Ent) : Array Value := #[.int .i64 (e.s : Int), .int .i64 (e.x : Int), .int .i64 (e.k : Int), .int .i64 (e.lo : Int), .int .i64 (e.hi : Int)]
abbrev entV (e : Ent) : Value := .agg (entA e)
abbrev prA (p : Nat × Nat) : Array Value := #[.int .i64 (p.1 : Int), .int .i64 (p.2 : Int)]
abbrev prV (p : Nat × Nat) : Value := .agg (prA p)
def fitE (a b : Ent) : Bool := !decide (a.s = b.s) && (decide (a.x = b.x) && (decide (a.k = b.k) && decide (max a.lo b.lo ≤ min a.hi b.hi)))
set_option maxRecDepth 100000 in
set_option maxHeartbeats 3200000 in
theorem fits_s (a b : Ent) (h : a.s = b.s) (w : World) : Calls Tryz.prog 74 #[entV a, entV b] w fun e w' => e = .returned (.bool false) ∧ Below w.heap.size w w' := by
  have t1 : ((a.s : Int) != (b.s : Int)) = false := by simp; omega
  obtain ⟨a0, a1, a2, a3, a4⟩ := a
  obtain ⟨b0, b1, b2, b3, b4⟩ := b
  simp only at *
  obtain ⟨_, _, B2, _⟩ := two_new w (entA ⟨a0, a1, a2, a3, a4⟩) (entA ⟨b0, b1, b2, b3, b4⟩) 82 82
  have BB := Lib.hid B2
  clear h B2
  go_enter Tryz.func74, Tryz.ntmps74
  go_wp2_with fail
  go_quiet (fail)
  go_wp2_with fail
  go_ret
  exact ⟨rfl, BB.out.drewN' _⟩
set_option maxRecDepth 100000 in
set_option maxHeartbeats 3200000 in
theorem fits_x (a b : Ent) (h0 : ¬ a.s = b.s) (h : ¬ a.x = b.x) (w : World) : Calls Tryz.prog 74 #[entV a, entV b] w fun e w' => e = .returned (.bool false) ∧ Below w.heap.size w w' := by
  have t1 : ((a.s : Int) != (b.s : Int)) = true := by simp; omega
  have t2 : ((a.x : Int) == (b.x : Int)) = false := by simp; omega
  obtain ⟨a0, a1, a2, a3, a4⟩ := a
  obtain ⟨b0, b1, b2, b3, b4⟩ := b
  simp only at *
  obtain ⟨_, _, B2, _⟩ := two_new w (entA ⟨a0, a1, a2, a3, a4⟩) (entA ⟨b0, b1, b2, b3, b4⟩) 82 82
  have BB := Lib.hid B2
  clear h h0 B2
  go_enter Tryz.func74, Tryz.ntmps74
  go_wp2_with fail
  go_quiet (fail)
  go_wp2_with fail
  go_ret
  exact ⟨rfl, BB.out.drewN' _⟩
set_option maxRecDepth 100000 in
set_option maxHeartbeats 3200000 in
theorem fits_k (a b : Ent) (h0 : ¬ a.s = b.s) (h1 : a.x = b.x) (h : ¬ a.k = b.k) (w : World) : Calls Tryz.prog 74 #[entV a, entV b] w fun e w' => e = .returned (.bool false) ∧ Below w.heap.size w w' := by
  have t1 : ((a.s : Int) != (b.s : Int)) = true := by simp; omega
  have t2 : ((a.x : Int) == (b.x : Int)) = true := by simp; omega
  have t3 : ((a.k : Int) == (b.k : Int)) = false := by simp; omega
  obtain ⟨a0, a1, a2, a3, a4⟩ := a
  obtain ⟨b0, b1, b2, b3, b4⟩ := b
  simp only at *
  obtain ⟨_, _, B2, _⟩ := two_new w (entA ⟨a0, a1, a2, a3, a4⟩) (entA ⟨b0, b1, b2, b3, b4⟩) 82 82
  have BB := Lib.hid B2
  clear h h0 h1 B2
  go_enter Tryz.func74, Tryz.ntmps74
  go_wp2_with fail
  go_quiet (fail)
  go_wp2_with fail
  go_ret
  exact ⟨rfl, BB.out.drewN' _⟩
set_option maxRecDepth 100000 in
set_option maxHeartbeats 3200000 in
theorem fits_all (a b : Ent) (h0 : ¬ a.s = b.s) (h1 : a.x = b.x) (h2 : a.k = b.k) (w : World) : Calls Tryz.prog 74 #[entV a, entV b] w fun e w' => e = .returned (.bool (decide (max a.lo b.lo ≤ min a.hi b.hi))) ∧ Below w.heap.size w w' := by
  have t1 : ((a.s : Int) != (b.s : Int)) = true := by simp; omega
  have t2 : ((a.x : Int) == (b.x : Int)) = true := by simp; omega
  have t3 : ((a.k : Int) == (b.k : Int)) = true := by simp; omega
  obtain ⟨a0, a1, a2, a3, a4⟩ := a
  obtain ⟨b0, b1, b2, b3, b4⟩ := b
  simp only at *
  have hR : decide (max a3 b3 ≤ min a4 b4) = decide (max (a3 : Int) (b3 : Int) ≤ min (a4 : Int) (b4 : Int)) := decide_eq_decide.2 (by omega)
  rw [hR]
  obtain ⟨u, hu⟩ : ∃ u, u = max (a3 : Int) (b3 : Int) := ⟨_, rfl⟩
  obtain ⟨v, hv⟩ : ∃ v, v = min (a4 : Int) (b4 : Int) := ⟨_, rfl⟩
  have CU := Lib.hid (fun W B c h0 h1 => hu ▸ maximum_s B c (a3 : Int) (b3 : Int) W h0 h1)
  have CV := Lib.hid (fun W B c h0 h1 => hv ▸ minimum_s B c (a4 : Int) (b4 : Int) W h0 h1)
  rw [← hu, ← hv]
  clear hu hv hR h0 h1 h2
  have s0 := ((KS.start w).new (entA ⟨a0, a1, a2, a3, a4⟩) 82).new (entA ⟨b0, b1, b2, b3, b4⟩) 82
  rw [World.size_alloc] at s0
  have S0 := Lib.hid s0
  clear s0
  go_enter Tryz.func74, Tryz.ntmps74
  go_wp2_with fail
  obtain ⟨W0, hW0⟩ : ∃ W0, W0 = ((w.alloc (.cells (entA ⟨a0, a1, a2, a3, a4⟩) 82)).alloc (.cells (entA ⟨b0, b1, b2, b3, b4⟩) 82)) := ⟨_, rfl⟩
  rw [← hW0] at S0 ⊢
  clear hW0
  obtain ⟨BS, hBS⟩ : ∃ BS : List (Nat × Array Value × TypeId), BS = [(w.heap.size + 1, entA ⟨b0, b1, b2, b3, b4⟩, 82), (w.heap.size, entA ⟨a0, a1, a2, a3, a4⟩, 82)] := ⟨_, rfl⟩
  have hS : KS w BS W0.drew := by rw [hBS]; exact S0.out.drew
  have KA0 : ∀ W, KS w BS W → W.cell? ⟨w.heap.size, 0, none⟩ = some (.int .i64 (a0 : Int)) := fun W h => by rw [hBS] at h; exact (h.blkAt 1 rfl).cell 0
  have KB0 : ∀ W, KS w BS W → W.cell? ⟨w.heap.size + 1, 0, none⟩ = some (.int .i64 (b0 : Int)) := fun W h => by rw [hBS] at h; exact (h.blkAt 0 rfl).cell 0
  have KA1 : ∀ W, KS w BS W → W.cell? ⟨w.heap.size, 1, none⟩ = some (.int .i64 (a1 : Int)) := fun W h => by rw [hBS] at h; exact (h.blkAt 1 rfl).cell 1
  have KB1 : ∀ W, KS w BS W → W.cell? ⟨w.heap.size + 1, 1, none⟩ = some (.int .i64 (b1 : Int)) := fun W h => by rw [hBS] at h; exact (h.blkAt 0 rfl).cell 1
  have KA2 : ∀ W, KS w BS W → W.cell? ⟨w.heap.size, 2, none⟩ = some (.int .i64 (a2 : Int)) := fun W h => by rw [hBS] at h; exact (h.blkAt 1 rfl).cell 2
  have KB2 : ∀ W, KS w BS W → W.cell? ⟨w.heap.size + 1, 2, none⟩ = some (.int .i64 (b2 : Int)) := fun W h => by rw [hBS] at h; exact (h.blkAt 0 rfl).cell 2
  have KA3 : ∀ W, KS w BS W → W.cell? ⟨w.heap.size, 3, none⟩ = some (.int .i64 (a3 : Int)) := fun W h => by rw [hBS] at h; exact (h.blkAt 1 rfl).cell 3
  have KB3 : ∀ W, KS w BS W → W.cell? ⟨w.heap.size + 1, 3, none⟩ = some (.int .i64 (b3 : Int)) := fun W h => by rw [hBS] at h; exact (h.blkAt 0 rfl).cell 3
  have KA4 : ∀ W, KS w BS W → W.cell? ⟨w.heap.size, 4, none⟩ = some (.int .i64 (a4 : Int)) := fun W h => by rw [hBS] at h; exact (h.blkAt 1 rfl).cell 4
  have KB4 : ∀ W, KS w BS W → W.cell? ⟨w.heap.size + 1, 4, none⟩ = some (.int .i64 (b4 : Int)) := fun W h => by rw [hBS] at h; exact (h.blkAt 0 rfl).cell 4
  clear hBS S0
  refine wp_joinZ (ι := Act) (f := fun _ bb => bb) (mid := fun bb W' => bb.tmps[4]? = some (.bool (decide (u ≤ v))) ∧ bb.defers = [] ∧ KS w BS W') ?_ ?_
  · refine wp_region_held_drew (S := KS w BS) (by kernel_rfl) hS (fun hHeld => ?_)
    clear hS
    refine wpAnyH_take (i := 0) (v := ?_) rfl (by kernel_rfl) (by kernel_rfl) (by kernel_rfl) (fun _ _ _ h => (by cases h.1)) (Or.inl ⟨by rfl, ?h0⟩) hHeld ?_
    case h0 =>
      intro w' hSw
      (try dsimp only at hSw)
      go_simp
      (try with_reducible rfl)
    (try simp only [Act.put]); (try simp only [List.setIfInBounds_toArray]); (try simp only [List.set_cons_succ]); (try simp only [List.set_cons_zero])
    refine wpAnyH_take (i := 1) (v := ?_) rfl (by kernel_rfl) (by kernel_rfl) (by kernel_rfl) (fun _ _ _ h => (by cases h.1)) (Or.inl ⟨by rfl, ?h1⟩) hHeld ?_
    case h1 =>
      intro w' hSw
      (try dsimp only at hSw)
      go_simp
      (try with_reducible rfl)
    (try simp only [Act.put]); (try simp only [List.setIfInBounds_toArray]); (try simp only [List.set_cons_succ]); (try simp only [List.set_cons_zero])
    refine wpAnyH_take (i := 2) (v := ?_) rfl (by kernel_rfl) (by kernel_rfl) (by kernel_rfl) (fun _ _ _ h => (by cases h.1)) (Or.inl ⟨by rfl, ?h2⟩) hHeld ?_
    case h2 =>
      intro w' hSw
      (try dsimp only at hSw)
      go_simp
      (try with_reducible rfl)
    (try simp only [Act.put]); (try simp only [List.setIfInBounds_toArray]); (try simp only [List.set_cons_succ]); (try simp only [List.set_cons_zero])
    refine wpAnyH_take (i := 3) (v := ?_) rfl (by kernel_rfl) (by kernel_rfl) (by kernel_rfl) (fun _ _ _ h => (by cases h.1)) (Or.inl ⟨by rfl, ?h3⟩) hHeld ?_
    case h3 =>
      intro w' hSw
      (try dsimp only at hSw)
      go_simp
      (try with_reducible rfl)
    (try simp only [Act.put]); (try simp only [List.setIfInBounds_toArray]); (try simp only [List.set_cons_succ]); (try simp only [List.set_cons_zero])
    refine wpAnyH_take (i := 4) (v := ?_) rfl (by kernel_rfl) (by kernel_rfl) (by kernel_rfl) (fun _ _ _ h => (by cases h.1)) (Or.inl ⟨by rfl, ?h4⟩) hHeld ?_
    case h4 =>
      intro w' hSw
      (try dsimp only at hSw)
      go_simp
      (try with_reducible rfl)
    (try simp only [Act.put]); (try simp only [List.setIfInBounds_toArray]); (try simp only [List.set_cons_succ]); (try simp only [List.set_cons_zero])
    refine wpAnyH_take (i := 5) (v := ?_) rfl (by kernel_rfl) (by kernel_rfl) (by kernel_rfl) (fun _ _ _ h => (by cases h.1)) (Or.inl ⟨by rfl, ?h5⟩) hHeld ?_
    case h5 =>
      intro w' hSw
      (try dsimp only at hSw)
      go_simp
      (try with_reducible rfl)
    (try simp only [Act.put]); (try simp only [List.setIfInBounds_toArray]); (try simp only [List.set_cons_succ]); (try simp only [List.set_cons_zero])
    refine wpAnyH_take (i := 6) (v := ?_) rfl (by kernel_rfl) (by kernel_rfl) (by kernel_rfl) (fun _ _ _ h => (by cases h.1)) (Or.inl ⟨by kernel_rfl, ?h6⟩) hHeld ?_
    case h6 =>
      intro w' hSw
      (try dsimp only at hSw)
      go_simp
      (try with_reducible rfl)
    (try simp only [Act.put]); (try simp only [List.setIfInBounds_toArray]); (try simp only [List.set_cons_succ]); (try simp only [List.set_cons_zero])
    refine wpAnyH_take (i := 7) (v := ?_) rfl (by kernel_rfl) (by kernel_rfl) (by kernel_rfl) (fun _ _ _ h => (by cases h.1)) (Or.inl ⟨by kernel_rfl, ?h7⟩) hHeld ?_
    case h7 =>
      intro w' hSw
      (try dsimp only at hSw)
      go_simp
      (try with_reducible rfl)
    (try simp only [Act.put]); (try simp only [List.setIfInBounds_toArray]); (try simp only [List.set_cons_succ]); (try simp only [List.set_cons_zero])
    refine wpAnyH_take (i := 8) (v := ?_) rfl (by kernel_rfl) (by kernel_rfl) (by kernel_rfl) (fun _ _ _ h => (by cases h.1)) (Or.inl ⟨by kernel_rfl, ?h8⟩) hHeld ?_
    case h8 =>
      intro w' hSw
      (try dsimp only at hSw)
      go_simp
      (try with_reducible rfl)
    (try simp only [Act.put]); (try simp only [List.setIfInBounds_toArray]); (try simp only [List.set_cons_succ]); (try simp only [List.set_cons_zero])
    refine wpAnyH_take (i := 9) (v := ?_) rfl (by kernel_rfl) (by kernel_rfl) (by kernel_rfl) (fun _ _ _ h => (by cases h.1)) (Or.inl ⟨by kernel_rfl, ?h9⟩) hHeld ?_
    case h9 =>
      intro w' hSw
      (try dsimp only at hSw)
      go_simp
      (try with_reducible rfl)
    (try simp only [Act.put]); (try simp only [List.setIfInBounds_toArray]); (try simp only [List.set_cons_succ]); (try simp only [List.set_cons_zero])
    refine wpAnyH_take (i := 10) (v := ?_) rfl (by kernel_rfl) (by kernel_rfl) (by kernel_rfl) (fun _ _ _ h => (by cases h.1)) (Or.inl ⟨by kernel_rfl, ?h10⟩) hHeld ?_
    case h10 =>
      intro w' hSw
      (try dsimp only at hSw)
      go_simp
      (try with_reducible rfl)
    (try simp only [Act.put]); (try simp only [List.setIfInBounds_toArray]); (try simp only [List.set_cons_succ]); (try simp only [List.set_cons_zero])
    refine wpAnyH_take (i := 11) (v := ?_) rfl (by kernel_rfl) (by kernel_rfl) (by kernel_rfl) (fun _ _ _ h => (by cases h.1)) (Or.inl ⟨by rfl, ?h11⟩) hHeld ?_
    case h11 =>
      intro w' hSw
      (try dsimp only at hSw)
      go_simp
      (try with_reducible rfl)
    (try simp only [Act.put]); (try simp only [List.setIfInBounds_toArray]); (try simp only [List.set_cons_succ]); (try simp only [List.set_cons_zero])
    refine wpAnyH_take (i := 12) (v := ?_) rfl (by kernel_rfl) (by kernel_rfl) (by kernel_rfl) (fun _ _ _ h => (by cases h.1)) (Or.inl ⟨by rfl, ?h12⟩) hHeld ?_
    case h12 =>
      intro w' hSw
      (try dsimp only at hSw)
      go_simp
      (try with_reducible rfl)
    (try simp only [Act.put]); (try simp only [List.setIfInBounds_toArray]); (try simp only [List.set_cons_succ]); (try simp only [List.set_cons_zero])
    refine wpAnyH_take (i := 13) (v := ?_) rfl (by kernel_rfl) (by kernel_rfl) (by kernel_rfl) (fun _ _ _ h => (by cases h.1)) (Or.inl ⟨by kernel_rfl, ?h13⟩) hHeld ?_
    case h13 =>
      intro w' hSw
      (try dsimp only at hSw)
      go_simp
      (try with_reducible rfl)
    (try simp only [Act.put]); (try simp only [List.setIfInBounds_toArray]); (try simp only [List.set_cons_succ]); (try simp only [List.set_cons_zero])
    refine wpAnyH_take (i := 14) (v := ?_) rfl (by kernel_rfl) (by kernel_rfl) (by kernel_rfl) (fun _ _ _ h => (by cases h.1)) (Or.inl ⟨by kernel_rfl, ?h14⟩) hHeld ?_
    case h14 =>
      intro w' hSw
      (try dsimp only at hSw)
      go_simp
      (try with_reducible rfl)
    (try simp only [Act.put]); (try simp only [List.setIfInBounds_toArray]); (try simp only [List.set_cons_succ]); (try simp only [List.set_cons_zero])
    refine wpAnyH_take (i := 15) (v := ?_) rfl (by kernel_rfl) (by kernel_rfl) (by kernel_rfl) (fun _ _ _ h => (by cases h.1)) (Or.inl ⟨by kernel_rfl, ?h15⟩) hHeld ?_
    case h15 =>
      intro w' hSw
      (try dsimp only at hSw)
      go_simp
      (try with_reducible rfl)
    (try simp only [Act.put]); (try simp only [List.setIfInBounds_toArray]); (try simp only [List.set_cons_succ]); (try simp only [List.set_cons_zero])
    refine wpAnyH_take (i := 16) (v := ?_) rfl (by kernel_rfl) (by kernel_rfl) (by kernel_rfl) (fun _ _ _ h => (by cases h.1)) (Or.inl ⟨by kernel_rfl, ?h16⟩) hHeld ?_
    case h16 =>
      intro w' hSw
      (try dsimp only at hSw)
      go_simp
      (try with_reducible rfl)
    (try simp only [Act.put]); (try simp only [List.setIfInBounds_toArray]); (try simp only [List.set_cons_succ]); (try simp only [List.set_cons_zero])
    refine wpAnyH_take (i := 17) (v := ?_) rfl (by kernel_rfl) (by kernel_rfl) (by kernel_rfl) (fun _ _ _ h => (by cases h.1)) (Or.inl ⟨by kernel_rfl, ?h17⟩) hHeld ?_
    case h17 =>
      intro w' hSw
      (try dsimp only at hSw)
      go_simp
      (try with_reducible rfl)
    (try simp only [Act.put]); (try simp only [List.setIfInBounds_toArray]); (try simp only [List.set_cons_succ]); (try simp only [List.set_cons_zero])
    refine wpAnyH_take (i := 18) (v := ?_) rfl (by kernel_rfl) (by kernel_rfl) (by kernel_rfl) (fun _ _ _ h => (by cases h.1)) (Or.inl ⟨by rfl, ?h18⟩) hHeld ?_
    case h18 =>
      intro w' hSw
      (try dsimp only at hSw)
      go_simp
      (try with_reducible rfl)
    (try simp only [Act.put]); (try simp only [List.setIfInBounds_toArray]); (try simp only [List.set_cons_succ]); (try simp only [List.set_cons_zero])
    refine wpAnyH_take (i := 19) (v := ?_) rfl (by kernel_rfl) (by kernel_rfl) (by kernel_rfl) (fun _ _ _ h => (by cases h.1)) (Or.inl ⟨by rfl, ?h19⟩) hHeld ?_
    case h19 =>
      intro w' hSw
      (try dsimp only at hSw)
      go_simp
      (try with_reducible rfl)
    (try simp only [Act.put]); (try simp only [List.setIfInBounds_toArray]); (try simp only [List.set_cons_succ]); (try simp only [List.set_cons_zero])
    refine wpAnyH_take (i := 20) (v := ?_) rfl (by kernel_rfl) (by kernel_rfl) (by kernel_rfl) (fun _ _ _ h => (by cases h.1)) (Or.inl ⟨by kernel_rfl, ?h20⟩) hHeld ?_
    case h20 =>
      intro w' hSw
      (try dsimp only at hSw)
      go_simp
      (try with_reducible rfl)
    (try simp only [Act.put]); (try simp only [List.setIfInBounds_toArray]); (try simp only [List.set_cons_succ]); (try simp only [List.set_cons_zero])
    refine wpAnyH_take (i := 21) (v := ?_) rfl (by kernel_rfl) (by kernel_rfl) (by kernel_rfl) (fun _ _ _ h => (by cases h.1)) (Or.inl ⟨by kernel_rfl, ?h21⟩) hHeld ?_
    case h21 =>
      intro w' hSw
      (try dsimp only at hSw)
      go_simp
      (try with_reducible rfl)
    (try simp only [Act.put]); (try simp only [List.setIfInBounds_toArray]); (try simp only [List.set_cons_succ]); (try simp only [List.set_cons_zero])
    refine wpAnyH_take (i := 22) (v := ?_) rfl (by kernel_rfl) (by kernel_rfl) (by kernel_rfl) (fun _ _ _ h => (by cases h.1)) (Or.inl ⟨by kernel_rfl, ?h22⟩) hHeld ?_
    case h22 =>
      intro w' hSw
      (try dsimp only at hSw)
      go_simp
      (try with_reducible rfl)
    (try simp only [Act.put]); (try simp only [List.setIfInBounds_toArray]); (try simp only [List.set_cons_succ]); (try simp only [List.set_cons_zero])
    refine wpAnyH_take (i := 23) (v := ?_) rfl (by kernel_rfl) (by kernel_rfl) (by kernel_rfl) (fun _ _ _ h => (by cases h.1)) (Or.inl ⟨by kernel_rfl, ?h23⟩) hHeld ?_
    case h23 =>
      intro w' hSw
      (try dsimp only at hSw)
      go_simp
      (try with_reducible rfl)
    (try simp only [Act.put]); (try simp only [List.setIfInBounds_toArray]); (try simp only [List.set_cons_succ]); (try simp only [List.set_cons_zero])
    refine wpAnyH_take (i := 24) (v := ?_) rfl (by kernel_rfl) (by kernel_rfl) (by kernel_rfl) (fun _ _ _ h => (by cases h.1)) (Or.inl ⟨by kernel_rfl, ?h24⟩) hHeld ?_
    case h24 =>
      intro w' hSw
      (try dsimp only at hSw)
      go_simp
      (try with_reducible rfl)
    (try simp only [Act.put]); (try simp only [List.setIfInBounds_toArray]); (try simp only [List.set_cons_succ]); (try simp only [List.set_cons_zero])
    refine wpAnyH_take (i := 25) (v := ?_) rfl (by kernel_rfl) (by kernel_rfl) (by kernel_rfl) (fun _ _ _ h => (by cases h.1)) (Or.inl ⟨by kernel_rfl, ?h25⟩) hHeld ?_
    case h25 =>
      intro w' hSw
      (try dsimp only at hSw)
      go_simp
      (try with_reducible rfl)
    (try simp only [Act.put]); (try simp only [List.setIfInBounds_toArray]); (try simp only [List.set_cons_succ]); (try simp only [List.set_cons_zero])
    refine wpAnyH_take (i := 28) (v := ?_) rfl (by kernel_rfl) (by kernel_rfl) (by kernel_rfl) (fun _ _ _ h => (by cases h.1)) (Or.inl ⟨by kernel_rfl, ?h28⟩) hHeld ?_
    case h28 =>
      intro w' hSw
      (try dsimp only at hSw)
      go_simp
      (try with_reducible rfl)
    (try simp only [Act.put]); (try simp only [List.setIfInBounds_toArray]); (try simp only [List.set_cons_succ]); (try simp only [List.set_cons_zero])
    refine wpAnyH_take (i := 29) (v := ?_) rfl (by kernel_rfl) (by kernel_rfl) (by kernel_rfl) (fun _ _ _ h => (by cases h.1)) (Or.inl ⟨by kernel_rfl, ?h29⟩) hHeld ?_
    case h29 =>
      intro w' hSw
      (try dsimp only at hSw)
      go_simp
      (try with_reducible rfl)
    (try simp only [Act.put]); (try simp only [List.setIfInBounds_toArray]); (try simp only [List.set_cons_succ]); (try simp only [List.set_cons_zero])
    refine wpAnyH_take (i := 30) (v := ?_) rfl (by kernel_rfl) (by kernel_rfl) (by kernel_rfl) (fun _ _ _ h => (by cases h.1)) (Or.inl ⟨by kernel_rfl, ?h30⟩) hHeld ?_
    case h30 =>
      intro w' hSw
      (try dsimp only at hSw)
      go_simp
      (try with_reducible rfl)
    (try simp only [Act.put]); (try simp only [List.setIfInBounds_toArray]); (try simp only [List.set_cons_succ]); (try simp only [List.set_cons_zero])
    refine wpAnyH_take (i := 31) (v := ?_) rfl (by kernel_rfl) (by kernel_rfl) (by kernel_rfl) (fun _ _ _ h => (by cases h.1)) (Or.inl ⟨by kernel_rfl, ?h31⟩) hHeld ?_
    case h31 =>
      intro w' hSw
      (try dsimp only at hSw)
      go_simp
      (try with_reducible rfl)
    (try simp only [Act.put]); (try simp only [List.setIfInBounds_toArray]); (try simp only [List.set_cons_succ]); (try simp only [List.set_cons_zero])
    refine wpAnyH_take (i := 32) (v := ?_) rfl (by kernel_rfl) (by kernel_rfl) (by kernel_rfl) (fun _ _ _ h => (by cases h.1)) (Or.inl ⟨by kernel_rfl, ?h32⟩) hHeld ?_
    case h32 =>
      intro w' hSw
      (try dsimp only at hSw)
      go_simp
      (try with_reducible rfl)
    (try simp only [Act.put]); (try simp only [List.setIfInBounds_toArray]); (try simp only [List.set_cons_succ]); (try simp only [List.set_cons_zero])
    refine wpAnyH_take (i := 33) (v := ?_) rfl (by kernel_rfl) (by kernel_rfl) (by kernel_rfl) (fun _ _ _ h => (by cases h.1)) (Or.inl ⟨by kernel_rfl, ?h33⟩) hHeld ?_
    case h33 =>
      intro w' hSw
      (try dsimp only at hSw)
      go_simp
      (try with_reducible rfl)
    (try simp only [Act.put]); (try simp only [List.setIfInBounds_toArray]); (try simp only [List.set_cons_succ]); (try simp only [List.set_cons_zero])
    refine wpAnyH_ready (rs := [26, 34]) (by kernel_rfl) (by simp) ?_
    refine AllReadyH.cons rfl (fun K hK => ?_) (AllReadyH.cons rfl (fun K hK => ?_) (AllReadyH.nil))
    · go_simp
      have nn := Blk.new W0.drew #[.int .i64 (a3 : Int), .int .i64 (b3 : Int)] 3
      have NA := Lib.hid nn
      clear nn
      refine hK.out _ _ (hHeld.alloc _) (fun hHeld => ?_)
      clear hK K
      (try simp only [Act.put]); (try simp only [List.setIfInBounds_toArray]); (try simp only [List.set_cons_succ]); (try simp only [List.set_cons_zero])
      refine wpAnyH_ready (rs := [27, 34]) (by kernel_rfl) (by simp) ?_
      refine AllReadyH.cons rfl (fun K hK => ?_) (AllReadyH.cons rfl (fun K hK => ?_) (AllReadyH.nil))
      · go_simp
        refine (CU.out _ _ _ (NA.out.cell 0) (NA.out.cell 1)).mono ?_
        rintro e w9 ⟨rfl, rfl⟩
        refine hK.out _ _ hHeld (fun hHeld => ?_)
        clear hK K
        (try simp only [Act.put]); (try simp only [List.setIfInBounds_toArray]); (try simp only [List.set_cons_succ]); (try simp only [List.set_cons_zero])
        refine wpAnyH_ready (rs := [34]) (by kernel_rfl) (by simp) ?_
        refine AllReadyH.cons rfl (fun K hK => ?_) (AllReadyH.nil)
        go_simp
        have nn := Blk.new (W0.drew.alloc (.cells #[.int .i64 (a3 : Int), .int .i64 (b3 : Int)] 3)) #[.int .i64 (a4 : Int), .int .i64 (b4 : Int)] 3
        rw [World.size_alloc] at nn
        have NA := Lib.hid (NA.out.alloc (.cells #[.int .i64 (a4 : Int), .int .i64 (b4 : Int)] 3))
        have NB := Lib.hid nn
        clear nn
        refine hK.out _ _ (hHeld.alloc _) (fun hHeld => ?_)
        clear hK K
        (try simp only [Act.put]); (try simp only [List.setIfInBounds_toArray]); (try simp only [List.set_cons_succ]); (try simp only [List.set_cons_zero])
        refine wpAnyH_ready (rs := [35]) (by kernel_rfl) (by simp) ?_
        refine AllReadyH.cons rfl (fun K hK => ?_) (AllReadyH.nil)
        go_simp
        refine (CV.out _ _ _ (NB.out.cell 0) (NB.out.cell 1)).mono ?_
        rintro e w9 ⟨rfl, rfl⟩
        refine hK.out _ _ hHeld (fun hHeld => ?_)
        clear hK K
        (try simp only [Act.put]); (try simp only [List.setIfInBounds_toArray]); (try simp only [List.set_cons_succ]); (try simp only [List.set_cons_zero])
        refine wpAnyH_take (i := 36) (v := ?_) rfl (by kernel_rfl) (by kernel_rfl) (by kernel_rfl) (fun _ _ _ h => (by cases h.1)) (Or.inl ⟨by kernel_rfl, ?h36⟩) hHeld ?_
        case h36 =>
          intro w' hSw
          (try dsimp only at hSw)
          go_simp
          (try with_reducible rfl)
        (try simp only [Act.put]); (try simp only [List.setIfInBounds_toArray]); (try simp only [List.set_cons_succ]); (try simp only [List.set_cons_zero])
        refine wpAnyH_take (i := 37) (v := ?_) rfl (by kernel_rfl) (by kernel_rfl) (by kernel_rfl) (fun _ _ _ h => (by cases h.1)) (Or.inl ⟨by rfl, ?h37⟩) hHeld ?_
        case h37 =>
          intro w' hSw
          (try dsimp only at hSw)
          go_simp
          (try with_reducible rfl)
        (try simp only [Act.put]); (try simp only [List.setIfInBounds_toArray]); (try simp only [List.set_cons_succ]); (try simp only [List.set_cons_zero])
        refine wpAnyH_ready (rs := [38]) (by kernel_rfl) (by simp) ?_
        refine AllReadyH.cons rfl (fun K hK => ?_) (AllReadyH.nil)
        go_simp
        refine hK.out _ _ hHeld (fun hHeld => ?_)
        clear hK K
        (try simp only [Act.put]); (try simp only [List.setIfInBounds_toArray]); (try simp only [List.set_cons_succ]); (try simp only [List.set_cons_zero])
        refine wpAnyH_done (by kernel_rfl) ?_ _
        exact ⟨rfl, _, rfl, rfl, rfl, hHeld⟩
      · go_simp
        have nn := Blk.new (W0.drew.alloc (.cells #[.int .i64 (a3 : Int), .int .i64 (b3 : Int)] 3)) #[.int .i64 (a4 : Int), .int .i64 (b4 : Int)] 3
        rw [World.size_alloc] at nn
        have NA := Lib.hid (NA.out.alloc (.cells #[.int .i64 (a4 : Int), .int .i64 (b4 : Int)] 3))
        have NB := Lib.hid nn
        clear nn
        refine hK.out _ _ (hHeld.alloc _) (fun hHeld => ?_)
        clear hK K
        (try simp only [Act.put]); (try simp only [List.setIfInBounds_toArray]); (try simp only [List.set_cons_succ]); (try simp only [List.set_cons_zero])
        refine wpAnyH_ready (rs := [27]) (by kernel_rfl) (by simp) ?_
        refine AllReadyH.cons rfl (fun K hK => ?_) (AllReadyH.nil)
        go_simp
        refine (CU.out _ _ _ (NA.out.cell 0) (NA.out.cell 1)).mono ?_
        rintro e w9 ⟨rfl, rfl⟩
        refine hK.out _ _ hHeld (fun hHeld => ?_)
        clear hK K
        (try simp only [Act.put]); (try simp only [List.setIfInBounds_toArray]); (try simp only [List.set_cons_succ]); (try simp only [List.set_cons_zero])
        refine wpAnyH_ready (rs := [35]) (by kernel_rfl) (by simp) ?_
        refine AllReadyH.cons rfl (fun K hK => ?_) (AllReadyH.nil)
        go_simp
        refine (CV.out _ _ _ (NB.out.cell 0) (NB.out.cell 1)).mono ?_
        rintro e w9 ⟨rfl, rfl⟩
        refine hK.out _ _ hHeld (fun hHeld => ?_)
        clear hK K
        (try simp only [Act.put]); (try simp only [List.setIfInBounds_toArray]); (try simp only [List.set_cons_succ]); (try simp only [List.set_cons_zero])
        refine wpAnyH_take (i := 36) (v := ?_) rfl (by kernel_rfl) (by kernel_rfl) (by kernel_rfl) (fun _ _ _ h => (by cases h.1)) (Or.inl ⟨by kernel_rfl, ?h36⟩) hHeld ?_
        case h36 =>
          intro w' hSw
          (try dsimp only at hSw)
          go_simp
          (try with_reducible rfl)
        (try simp only [Act.put]); (try simp only [List.setIfInBounds_toArray]); (try simp only [List.set_cons_succ]); (try simp only [List.set_cons_zero])
        refine wpAnyH_take (i := 37) (v := ?_) rfl (by kernel_rfl) (by kernel_rfl) (by kernel_rfl) (fun _ _ _ h => (by cases h.1)) (Or.inl ⟨by rfl, ?h37⟩) hHeld ?_
        case h37 =>
          intro w' hSw
          (try dsimp only at hSw)
          go_simp
          (try with_reducible rfl)
        (try simp only [Act.put]); (try simp only [List.setIfInBounds_toArray]); (try simp only [List.set_cons_succ]); (try simp only [List.set_cons_zero])
        refine wpAnyH_ready (rs := [38]) (by kernel_rfl) (by simp) ?_
        refine AllReadyH.cons rfl (fun K hK => ?_) (AllReadyH.nil)
        go_simp
        refine hK.out _ _ hHeld (fun hHeld => ?_)
        clear hK K
        (try simp only [Act.put]); (try simp only [List.setIfInBounds_toArray]); (try simp only [List.set_cons_succ]); (try simp only [List.set_cons_zero])
        refine wpAnyH_done (by kernel_rfl) ?_ _
        exact ⟨rfl, _, rfl, rfl, rfl, hHeld⟩
    · go_simp
      have nn := Blk.new W0.drew #[.int .i64 (a4 : Int), .int .i64 (b4 : Int)] 3
      have NB := Lib.hid nn
      clear nn
      refine hK.out _ _ (hHeld.alloc _) (fun hHeld => ?_)
      clear hK K
      (try simp only [Act.put]); (try simp only [List.setIfInBounds_toArray]); (try simp only [List.set_cons_succ]); (try simp only [List.set_cons_zero])
      refine wpAnyH_ready (rs := [26]) (by kernel_rfl) (by simp) ?_
      refine AllReadyH.cons rfl (fun K hK => ?_) (AllReadyH.nil)
      go_simp
      have nn := Blk.new (W0.drew.alloc (.cells #[.int .i64 (a4 : Int), .int .i64 (b4 : Int)] 3)) #[.int .i64 (a3 : Int), .int .i64 (b3 : Int)] 3
      rw [World.size_alloc] at nn
      have NB := Lib.hid (NB.out.alloc (.cells #[.int .i64 (a3 : Int), .int .i64 (b3 : Int)] 3))
      have NA := Lib.hid nn
      clear nn
      refine hK.out _ _ (hHeld.alloc _) (fun hHeld => ?_)
      clear hK K
      (try simp only [Act.put]); (try simp only [List.setIfInBounds_toArray]); (try simp only [List.set_cons_succ]); (try simp only [List.set_cons_zero])
      refine wpAnyH_ready (rs := [27]) (by kernel_rfl) (by simp) ?_
      refine AllReadyH.cons rfl (fun K hK => ?_) (AllReadyH.nil)
      go_simp
      refine (CU.out _ _ _ (NA.out.cell 0) (NA.out.cell 1)).mono ?_
      rintro e w9 ⟨rfl, rfl⟩
      refine hK.out _ _ hHeld (fun hHeld => ?_)
      clear hK K
      (try simp only [Act.put]); (try simp only [List.setIfInBounds_toArray]); (try simp only [List.set_cons_succ]); (try simp only [List.set_cons_zero])
      refine wpAnyH_ready (rs := [35]) (by kernel_rfl) (by simp) ?_
      refine AllReadyH.cons rfl (fun K hK => ?_) (AllReadyH.nil)
      go_simp
      refine (CV.out _ _ _ (NB.out.cell 0) (NB.out.cell 1)).mono ?_
      rintro e w9 ⟨rfl, rfl⟩
      refine hK.out _ _ hHeld (fun hHeld => ?_)
      clear hK K
      (try simp only [Act.put]); (try simp only [List.setIfInBounds_toArray]); (try simp only [List.set_cons_succ]); (try simp only [List.set_cons_zero])
      refine wpAnyH_take (i := 36) (v := ?_) rfl (by kernel_rfl) (by kernel_rfl) (by kernel_rfl) (fun _ _ _ h => (by cases h.1)) (Or.inl ⟨by kernel_rfl, ?h36⟩) hHeld ?_
      case h36 =>
        intro w' hSw
        (try dsimp only at hSw)
        go_simp
        (try with_reducible rfl)
      (try simp only [Act.put]); (try simp only [List.setIfInBounds_toArray]); (try simp only [List.set_cons_succ]); (try simp only [List.set_cons_zero])
      refine wpAnyH_take (i := 37) (v := ?_) rfl (by kernel_rfl) (by kernel_rfl) (by kernel_rfl) (fun _ _ _ h => (by cases h.1)) (Or.inl ⟨by rfl, ?h37⟩) hHeld ?_
      case h37 =>
        intro w' hSw
        (try dsimp only at hSw)
        go_simp
        (try with_reducible rfl)
      (try simp only [Act.put]); (try simp only [List.setIfInBounds_toArray]); (try simp only [List.set_cons_succ]); (try simp only [List.set_cons_zero])
      refine wpAnyH_ready (rs := [38]) (by kernel_rfl) (by simp) ?_
      refine AllReadyH.cons rfl (fun K hK => ?_) (AllReadyH.nil)
      go_simp
      refine hK.out _ _ hHeld (fun hHeld => ?_)
      clear hK K
      (try simp only [Act.put]); (try simp only [List.setIfInBounds_toArray]); (try simp only [List.set_cons_succ]); (try simp only [List.set_cons_zero])
      refine wpAnyH_done (by kernel_rfl) ?_ _
      exact ⟨rfl, _, rfl, rfl, rfl, hHeld⟩
  rintro ⟨bt, bd⟩ W1 ⟨h4, hd, hS1⟩
  simp only at h4 hd
  subst hd
  have HS := Lib.hid hS1
  clear hS1 KA0 KA1 KA2 KA3 KA4 KB0 KB1 KB2 KB3 KB4
  go_wp2_with fail
  refine bodyPost_ret (v := .bool (decide (u ≤ v))) (by simp [results, Tryz.results74, go_sem, h4]) rfl ⟨rfl, HS.out.2⟩
theorem fits_any (a b : Ent) (w : World) : Calls Tryz.prog 74 #[entV a, entV b] w fun e w' => e = .returned (.bool (fitE a b)) ∧ Below w.heap.size w w' := by
  unfold fitE
  by_cases h0 : a.s = b.s
  · rw [decide_eq_true h0]; exact fits_s a b h0 w
  rw [decide_eq_false h0]
  by_cases h1 : a.x = b.x
  · rw [decide_eq_true h1]
    by_cases h2 : a.k = b.k
    · rw [decide_eq_true h2]; exact fits_all a b h0 h1 h2 w
    · rw [decide_eq_false h2]; exact fits_k a b h0 h1 h2 w
  · rw [decide_eq_false h1]; exact fits_x a b h0 h1 w
end Go.Proofs.YtdfebccmjbocjaaGreatDoor
