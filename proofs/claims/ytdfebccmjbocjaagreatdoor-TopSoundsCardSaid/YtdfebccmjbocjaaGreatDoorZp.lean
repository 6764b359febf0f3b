/- sheet: join. -/
import Derived.Test.YtdfebccmjbocjaaGreatDoorZi
import Derived.Test.YtdfebccmjbocjaaGreatDoorZn
set_option linter.unusedVariables false
set_option linter.unusedSimpArgs false
namespace Go.Proofs.YtdfebccmjbocjaaGreatDoor
open Go.RowKit Go.Shelf

/-- what join leaves: the row's list, the work's cells -/
def JoinPost (g gr base : Nat) (l : List Nat) (cs : Array Value) (w : World) (e : Ending) (w' : World) : Prop :=
  e = .returned (.tuple #[]) ∧ ∃ n c, OwnS w' base (.slice (some ⟨gr, 0, none⟩) n c) l ∧ Blk w' g (cs.setIfInBounds 7 (.slice (some ⟨gr, 0, none⟩) n c)) 107 ∧ Kx (fun k => k = g ∨ k = gr) w w'
theorem set_same {cs : Array Value} {i : Nat} {v : Value} (h : cs[i]? = some v) : cs.setIfInBounds i v = cs := by
  apply Array.ext_getElem?
  intro j
  rw [Array.getElem?_setIfInBounds]
  by_cases hj : i = j
  · subst hj
    obtain ⟨hl, _⟩ := Array.getElem?_eq_some_iff.1 h
    rw [if_pos rfl, if_pos hl, h]
  · rw [if_neg hj]
theorem or_bits (x y : Nat) (hx : x < 1024) (hy : y < 1024) : bits BinOp.or IntKind.u64 (x : Int) (y : Int) = ((x ||| y : Nat) : Int) := bits_or_u64_nat x y (by omega) (by omega)
set_option maxRecDepth 100000 in
set_option maxHeartbeats 3200000 in
theorem join_same (g gr base n c n0 : Nat) (l : List Nat) (p : Nat × Nat) (cs : Array Value) (w : World) (hB : Blk w g cs 107) (h7 : cs[7]? = some (.slice (some ⟨gr, 0, none⟩) n c)) (hO : w.ownsRow base 109 1 (.slice (some ⟨gr, 0, none⟩) n c) n (setsV l)) (hN : l.length = n) (hc : Sh.Cov n0 l) (hn0 : n0 ≤ 10) (h1 : p.1 < n0) (h2 : p.2 < n0) (hbase : base ≤ gr) (hab : Sh.blockAt l p.1 = Sh.blockAt l p.2) :
    Calls Tryz.prog 103 #[.pointer (some ⟨g, 0, none⟩), prV p] w (JoinPost g gr base (Sh.joinB l p) cs w) := by
  have hlt : ∀ x ∈ l, x < 1024 := fun x hx => by
    have h1 := hc.lt x hx
    have h2 : 2 ^ n0 ≤ 2 ^ 10 := Nat.pow_le_pow_right (by omega) hn0
    omega
  have ha := Sh.blockAt_lt hc h1
  have hb := Sh.blockAt_lt hc h2
  have hg := hB.lt
  have hgr := (hO.lt gr rfl).2
  have hne : g ≠ gr := fun e => by
    subst e
    rcases hO.2 with ⟨e, _⟩ | ⟨g2, cap, cur, e, _, hh, _⟩
    · cases e
    · cases e
      have h2 : w.heap[g]? = _ := hB
      rw [h2] at hh; cases hh
  have hat : SetsAt w gr 0 l := OwnS.at_ (base := base) (n := n) (c := c) (by unfold OwnS; rw [hN]; exact hO)
  have hl10 := hc.len
  have s0 := (KS.start w).new (prA p) 113
  have S0 := Lib.hid s0
  have C1 := Lib.hid (fun W (hW : Below w.heap.size w W) => block_any g gr c n p.1 l W (Nat.lt_of_lt_of_le hg hW.size) (Nat.lt_of_lt_of_le hgr hW.size) ((hW.cell (p := ⟨g, 7, none⟩) hg).trans ((hB.cell 7).trans h7)) hN (by omega) hlt (by omega) (hat.below hW hgr) (hc.all p.1 h1))
  have C2 := Lib.hid (fun W (hW : Below w.heap.size w W) => block_any g gr c n p.2 l W (Nat.lt_of_lt_of_le hg hW.size) (Nat.lt_of_lt_of_le hgr hW.size) ((hW.cell (p := ⟨g, 7, none⟩) hg).trans ((hB.cell 7).trans h7)) hN (by omega) hlt (by omega) (hat.below hW hgr) (hc.all p.2 h2))
  obtain ⟨A, hA⟩ : ∃ A, A = Sh.blockAt l p.1 := ⟨_, rfl⟩
  obtain ⟨B, hBq⟩ : ∃ B, B = Sh.blockAt l p.2 := ⟨_, rfl⟩
  rw [← hA] at C1 ha
  rw [← hBq] at C2 hb
  have HA := Lib.hid hA
  have HB := Lib.hid hBq
  have t1 : ((A : Int) != (B : Int)) = false := by rw [hA, hBq, hab]; simp
  have HX := Lib.hid (And.intro hB (And.intro h7 (And.intro hO hN)))
  have HJ := Lib.hid (show Sh.joinB l p = l by unfold Sh.joinB; rw [if_pos hab])
  clear hB h7 hO hN hc h1 h2 hA hBq hab hlt hat s0 hl10 ha hb HA HB
  obtain ⟨BS, hBS⟩ : ∃ BS : List (Nat × Array Value × TypeId), BS = [(w.heap.size, prA p, 113)] := ⟨_, rfl⟩
  have hS : KS w BS (w.alloc (.cells (prA p) 113)).drew := by rw [hBS]; exact S0.out.drew
  have K0 : ∀ W, KS w BS W → W.cell? ⟨w.heap.size, 0, none⟩ = some (.int .i64 (p.1 : Int)) := fun W h => by rw [hBS] at h; exact (h.blkAt 0 rfl).cell 0
  have K1 : ∀ W, KS w BS W → W.cell? ⟨w.heap.size, 1, none⟩ = some (.int .i64 (p.2 : Int)) := fun W h => by rw [hBS] at h; exact (h.blkAt 0 rfl).cell 1
  have HBS := Lib.hid hBS
  clear hBS
  go_enter Tryz.func103, Tryz.ntmps103
  go_wp2_with fail
  refine wp_joinZ (ι := Unit) (f := fun aa _ => ((((((((((aa.put (some 6) (.pointer (some ⟨g, 0, none⟩))).put (some 7) (.pointer (some ⟨w.heap.size, 0, none⟩))).put (some 8) (.int .i64 (p.1 : Int))).put (some 9) (.int .i64 (A : Int))).put (some 10) (.pointer (some ⟨g, 0, none⟩))).put (some 11) (.pointer (some ⟨w.heap.size, 1, none⟩))).put (some 12) (.int .i64 (p.2 : Int))).put (some 13) (.int .i64 (B : Int))).put (some 4) (.int .i64 (A : Int))).put (some 5) (.int .i64 (B : Int)))) (mid := fun _ W' => KS w BS W') ?_ ?_
  · refine wp_region_held_drew (S := KS w BS) (by kernel_rfl) hS (fun hHeld => ?_)
    clear hS
    refine wpAnyH_take (i := 0) (v := ?_) rfl (by kernel_rfl) (by kernel_rfl) (by kernel_rfl) (fun _ _ _ h => (by cases h.1)) (Or.inl ⟨by rfl, ?h0⟩) hHeld ?_
    case h0 =>
      intro w' hSw
      (try dsimp only at hSw)
      go_simp
      (try with_reducible rfl)
    (try simp only [Act.put]); (try simp only [List.setIfInBounds_toArray]); (try simp only [List.set_cons_succ]); (try simp only [List.set_cons_zero])
    refine wpAnyH_take (i := 1) (v := ?_) rfl (by kernel_rfl) (by kernel_rfl) (by kernel_rfl) (fun _ _ _ h => (by cases h.1)) (Or.inl ⟨by rfl, ?h1⟩) hHeld ?_
    case h1 =>
      intro w' hSw
      (try dsimp only at hSw)
      go_simp
      (try with_reducible rfl)
    (try simp only [Act.put]); (try simp only [List.setIfInBounds_toArray]); (try simp only [List.set_cons_succ]); (try simp only [List.set_cons_zero])
    refine wpAnyH_take (i := 2) (v := ?_) rfl (by kernel_rfl) (by kernel_rfl) (by kernel_rfl) (fun _ _ _ h => (by cases h.1)) (Or.inl ⟨by rfl, ?h2⟩) hHeld ?_
    case h2 =>
      intro w' hSw
      (try dsimp only at hSw)
      go_simp
      (try with_reducible rfl)
    (try simp only [Act.put]); (try simp only [List.setIfInBounds_toArray]); (try simp only [List.set_cons_succ]); (try simp only [List.set_cons_zero])
    refine wpAnyH_take (i := 4) (v := ?_) rfl (by kernel_rfl) (by kernel_rfl) (by kernel_rfl) (fun _ _ _ h => (by cases h.1)) (Or.inl ⟨by rfl, ?h4⟩) hHeld ?_
    case h4 =>
      intro w' hSw
      (try dsimp only at hSw)
      go_simp
      (try with_reducible rfl)
    (try simp only [Act.put]); (try simp only [List.setIfInBounds_toArray]); (try simp only [List.set_cons_succ]); (try simp only [List.set_cons_zero])
    refine wpAnyH_take (i := 5) (v := ?_) rfl (by kernel_rfl) (by kernel_rfl) (by kernel_rfl) (fun _ _ _ h => (by cases h.1)) (Or.inl ⟨by rfl, ?h5⟩) hHeld ?_
    case h5 =>
      intro w' hSw
      (try dsimp only at hSw)
      go_simp
      (try with_reducible rfl)
    (try simp only [Act.put]); (try simp only [List.setIfInBounds_toArray]); (try simp only [List.set_cons_succ]); (try simp only [List.set_cons_zero])
    refine wpAnyH_take (i := 6) (v := ?_) rfl (by kernel_rfl) (by kernel_rfl) (by kernel_rfl) (fun _ _ _ h => (by cases h.1)) (Or.inl ⟨by rfl, ?h6⟩) hHeld ?_
    case h6 =>
      intro w' hSw
      (try dsimp only at hSw)
      go_simp
      (try with_reducible rfl)
    (try simp only [Act.put]); (try simp only [List.setIfInBounds_toArray]); (try simp only [List.set_cons_succ]); (try simp only [List.set_cons_zero])
    refine wpAnyH_ready (rs := [3]) (by kernel_rfl) (by simp) ?_
    refine AllReadyH.cons rfl (fun K hK => ?_) (AllReadyH.nil)
    go_simp
    refine (C1.out _ hHeld.bel).mono ?_
    rintro e w9 ⟨rfl, hb9⟩
    refine hK.out _ _ (hHeld.below hb9) (fun hHeld => ?_)
    clear hK K hb9
    (try simp only [Act.put]); (try simp only [List.setIfInBounds_toArray]); (try simp only [List.set_cons_succ]); (try simp only [List.set_cons_zero])
    refine wpAnyH_ready (rs := [7]) (by kernel_rfl) (by simp) ?_
    refine AllReadyH.cons rfl (fun K hK => ?_) (AllReadyH.nil)
    go_simp
    refine (C2.out _ hHeld.bel).mono ?_
    rintro e w9 ⟨rfl, hb9⟩
    refine hK.out _ _ (hHeld.below hb9) (fun hHeld => ?_)
    clear hK K hb9
    (try simp only [Act.put]); (try simp only [List.setIfInBounds_toArray]); (try simp only [List.set_cons_succ]); (try simp only [List.set_cons_zero])
    refine wpAnyH_ready (rs := [8]) (by kernel_rfl) (by simp) ?_
    refine AllReadyH.cons rfl (fun K hK => ?_) (AllReadyH.nil)
    go_simp
    refine hK.out _ _ hHeld (fun hHeld => ?_)
    clear hK K
    (try simp only [Act.put]); (try simp only [List.setIfInBounds_toArray]); (try simp only [List.set_cons_succ]); (try simp only [List.set_cons_zero])
    refine wpAnyH_ready (rs := [9]) (by kernel_rfl) (by simp) ?_
    refine AllReadyH.cons rfl (fun K hK => ?_) (AllReadyH.nil)
    go_simp
    refine hK.out _ _ hHeld (fun hHeld => ?_)
    clear hK K
    (try simp only [Act.put]); (try simp only [List.setIfInBounds_toArray]); (try simp only [List.set_cons_succ]); (try simp only [List.set_cons_zero])
    refine wpAnyH_done (by kernel_rfl) ?_ _
    exact ⟨rfl, (), rfl, hHeld⟩
  rintro _ w1 hS1
  rw [HBS.out] at hS1
  have S1 := Lib.hid hS1
  clear hS hS1 K0 K1 HBS BS
  simp only [Act.put, List.setIfInBounds_toArray, List.set_cons_zero, List.set_cons_succ]
  go_wp2_with fail
  go_end0
  refine ⟨rfl, n, c, ?_, ?_, Kx.below S1.out.bel⟩
  · rw [HJ.out]
    have h := HX.out.2.2.1.kept (grownBy_below S1.out.bel none) (by simp [Value.ownBlock])
    unfold OwnS; rw [HX.out.2.2.2]; exact h
  · rw [set_same HX.out.2.1]; exact HX.out.1.b S1.out.bel
set_option maxRecDepth 100000 in
set_option maxHeartbeats 3200000 in
theorem join_other (g gr base n c n0 : Nat) (l : List Nat) (p : Nat × Nat) (cs : Array Value) (w : World) (hB : Blk w g cs 107) (h7 : cs[7]? = some (.slice (some ⟨gr, 0, none⟩) n c)) (hO : w.ownsRow base 109 1 (.slice (some ⟨gr, 0, none⟩) n c) n (setsV l)) (hN : l.length = n) (hc : Sh.Cov n0 l) (hn0 : n0 ≤ 10) (h1 : p.1 < n0) (h2 : p.2 < n0) (hbase : base ≤ gr) (hab : ¬ Sh.blockAt l p.1 = Sh.blockAt l p.2) :
    Calls Tryz.prog 103 #[.pointer (some ⟨g, 0, none⟩), prV p] w (JoinPost g gr base (Sh.joinB l p) cs w) := by
  have hlt : ∀ x ∈ l, x < 1024 := fun x hx => by
    have h1 := hc.lt x hx
    have h2 : 2 ^ n0 ≤ 2 ^ 10 := Nat.pow_le_pow_right (by omega) hn0
    omega
  have ha := Sh.blockAt_lt hc h1
  have hb := Sh.blockAt_lt hc h2
  have hg := hB.lt
  have hgr := (hO.lt gr rfl).2
  have hne : g ≠ gr := fun e => by
    subst e
    rcases hO.2 with ⟨e, _⟩ | ⟨g2, cap, cur, e, _, hh, _⟩
    · cases e
    · cases e
      have h2 : w.heap[g]? = _ := hB
      rw [h2] at hh; cases hh
  have hat : SetsAt w gr 0 l := OwnS.at_ (base := base) (n := n) (c := c) (by unfold OwnS; rw [hN]; exact hO)
  have hl10 := hc.len
  have s0 := (KS.start w).new (prA p) 113
  have S0 := Lib.hid s0
  have C1 := Lib.hid (fun W (hW : Below w.heap.size w W) => block_any g gr c n p.1 l W (Nat.lt_of_lt_of_le hg hW.size) (Nat.lt_of_lt_of_le hgr hW.size) ((hW.cell (p := ⟨g, 7, none⟩) hg).trans ((hB.cell 7).trans h7)) hN (by omega) hlt (by omega) (hat.below hW hgr) (hc.all p.1 h1))
  have C2 := Lib.hid (fun W (hW : Below w.heap.size w W) => block_any g gr c n p.2 l W (Nat.lt_of_lt_of_le hg hW.size) (Nat.lt_of_lt_of_le hgr hW.size) ((hW.cell (p := ⟨g, 7, none⟩) hg).trans ((hB.cell 7).trans h7)) hN (by omega) hlt (by omega) (hat.below hW hgr) (hc.all p.2 h2))
  obtain ⟨A, hA⟩ : ∃ A, A = Sh.blockAt l p.1 := ⟨_, rfl⟩
  obtain ⟨B, hBq⟩ : ∃ B, B = Sh.blockAt l p.2 := ⟨_, rfl⟩
  rw [← hA] at C1 ha
  rw [← hBq] at C2 hb
  have HA := Lib.hid hA
  have HB := Lib.hid hBq
  have t1 : ((A : Int) != (B : Int)) = true := by rw [hA, hBq]; simp; omega
  have HX := Lib.hid (And.intro hB (And.intro h7 (And.intro hO hN)))
  obtain ⟨x, hx⟩ : ∃ x, l[A]? = some x := ⟨_, List.getElem?_eq_getElem (by omega)⟩
  obtain ⟨y, hy⟩ : ∃ y, l[B]? = some y := ⟨_, List.getElem?_eq_getElem (by omega)⟩
  have hx1 := hlt x (List.mem_of_getElem? hx)
  have hy1 := hlt y (List.mem_of_getElem? hy)
  have HJ := Lib.hid (show Sh.joinB l p = (l.set A (x ||| y)).eraseIdx B by
    unfold Sh.joinB; rw [if_neg hab, ← hA, ← hBq, List.getD_eq_getElem?_getD, List.getD_eq_getElem?_getD, hx, hy]; rfl)
  have HXY := Lib.hid (And.intro hx hy)
  have HAT := Lib.hid hat
  have OB := Lib.hid (or_bits x y hx1 hy1)
  have hAn : A < n := by omega
  have hB10 : (B : Int) ≤ 10 := by omega
  have hBn : B < n := by omega
  clear hB h7 hO hN hc h1 h2 hA hBq hab hlt hat s0 hl10 ha hb hx hy HA HB
  obtain ⟨BS, hBS⟩ : ∃ BS : List (Nat × Array Value × TypeId), BS = [(w.heap.size, prA p, 113)] := ⟨_, rfl⟩
  have hS : KS w BS (w.alloc (.cells (prA p) 113)).drew := by rw [hBS]; exact S0.out.drew
  have K0 : ∀ W, KS w BS W → W.cell? ⟨w.heap.size, 0, none⟩ = some (.int .i64 (p.1 : Int)) := fun W h => by rw [hBS] at h; exact (h.blkAt 0 rfl).cell 0
  have K1 : ∀ W, KS w BS W → W.cell? ⟨w.heap.size, 1, none⟩ = some (.int .i64 (p.2 : Int)) := fun W h => by rw [hBS] at h; exact (h.blkAt 0 rfl).cell 1
  have HBS := Lib.hid hBS
  clear hBS
  go_enter Tryz.func103, Tryz.ntmps103
  go_wp2_with fail
  refine wp_joinZ (ι := Unit) (f := fun aa _ => ((((((((((aa.put (some 6) (.pointer (some ⟨g, 0, none⟩))).put (some 7) (.pointer (some ⟨w.heap.size, 0, none⟩))).put (some 8) (.int .i64 (p.1 : Int))).put (some 9) (.int .i64 (A : Int))).put (some 10) (.pointer (some ⟨g, 0, none⟩))).put (some 11) (.pointer (some ⟨w.heap.size, 1, none⟩))).put (some 12) (.int .i64 (p.2 : Int))).put (some 13) (.int .i64 (B : Int))).put (some 4) (.int .i64 (A : Int))).put (some 5) (.int .i64 (B : Int)))) (mid := fun _ W' => KS w BS W') ?_ ?_
  · refine wp_region_held_drew (S := KS w BS) (by kernel_rfl) hS (fun hHeld => ?_)
    clear hS
    refine wpAnyH_take (i := 0) (v := ?_) rfl (by kernel_rfl) (by kernel_rfl) (by kernel_rfl) (fun _ _ _ h => (by cases h.1)) (Or.inl ⟨by rfl, ?h0⟩) hHeld ?_
    case h0 =>
      intro w' hSw
      (try dsimp only at hSw)
      go_simp
      (try with_reducible rfl)
    (try simp only [Act.put]); (try simp only [List.setIfInBounds_toArray]); (try simp only [List.set_cons_succ]); (try simp only [List.set_cons_zero])
    refine wpAnyH_take (i := 1) (v := ?_) rfl (by kernel_rfl) (by kernel_rfl) (by kernel_rfl) (fun _ _ _ h => (by cases h.1)) (Or.inl ⟨by rfl, ?h1⟩) hHeld ?_
    case h1 =>
      intro w' hSw
      (try dsimp only at hSw)
      go_simp
      (try with_reducible rfl)
    (try simp only [Act.put]); (try simp only [List.setIfInBounds_toArray]); (try simp only [List.set_cons_succ]); (try simp only [List.set_cons_zero])
    refine wpAnyH_take (i := 2) (v := ?_) rfl (by kernel_rfl) (by kernel_rfl) (by kernel_rfl) (fun _ _ _ h => (by cases h.1)) (Or.inl ⟨by rfl, ?h2⟩) hHeld ?_
    case h2 =>
      intro w' hSw
      (try dsimp only at hSw)
      go_simp
      (try with_reducible rfl)
    (try simp only [Act.put]); (try simp only [List.setIfInBounds_toArray]); (try simp only [List.set_cons_succ]); (try simp only [List.set_cons_zero])
    refine wpAnyH_take (i := 4) (v := ?_) rfl (by kernel_rfl) (by kernel_rfl) (by kernel_rfl) (fun _ _ _ h => (by cases h.1)) (Or.inl ⟨by rfl, ?h4⟩) hHeld ?_
    case h4 =>
      intro w' hSw
      (try dsimp only at hSw)
      go_simp
      (try with_reducible rfl)
    (try simp only [Act.put]); (try simp only [List.setIfInBounds_toArray]); (try simp only [List.set_cons_succ]); (try simp only [List.set_cons_zero])
    refine wpAnyH_take (i := 5) (v := ?_) rfl (by kernel_rfl) (by kernel_rfl) (by kernel_rfl) (fun _ _ _ h => (by cases h.1)) (Or.inl ⟨by rfl, ?h5⟩) hHeld ?_
    case h5 =>
      intro w' hSw
      (try dsimp only at hSw)
      go_simp
      (try with_reducible rfl)
    (try simp only [Act.put]); (try simp only [List.setIfInBounds_toArray]); (try simp only [List.set_cons_succ]); (try simp only [List.set_cons_zero])
    refine wpAnyH_take (i := 6) (v := ?_) rfl (by kernel_rfl) (by kernel_rfl) (by kernel_rfl) (fun _ _ _ h => (by cases h.1)) (Or.inl ⟨by rfl, ?h6⟩) hHeld ?_
    case h6 =>
      intro w' hSw
      (try dsimp only at hSw)
      go_simp
      (try with_reducible rfl)
    (try simp only [Act.put]); (try simp only [List.setIfInBounds_toArray]); (try simp only [List.set_cons_succ]); (try simp only [List.set_cons_zero])
    refine wpAnyH_ready (rs := [3]) (by kernel_rfl) (by simp) ?_
    refine AllReadyH.cons rfl (fun K hK => ?_) (AllReadyH.nil)
    go_simp
    refine (C1.out _ hHeld.bel).mono ?_
    rintro e w9 ⟨rfl, hb9⟩
    refine hK.out _ _ (hHeld.below hb9) (fun hHeld => ?_)
    clear hK K hb9
    (try simp only [Act.put]); (try simp only [List.setIfInBounds_toArray]); (try simp only [List.set_cons_succ]); (try simp only [List.set_cons_zero])
    refine wpAnyH_ready (rs := [7]) (by kernel_rfl) (by simp) ?_
    refine AllReadyH.cons rfl (fun K hK => ?_) (AllReadyH.nil)
    go_simp
    refine (C2.out _ hHeld.bel).mono ?_
    rintro e w9 ⟨rfl, hb9⟩
    refine hK.out _ _ (hHeld.below hb9) (fun hHeld => ?_)
    clear hK K hb9
    (try simp only [Act.put]); (try simp only [List.setIfInBounds_toArray]); (try simp only [List.set_cons_succ]); (try simp only [List.set_cons_zero])
    refine wpAnyH_ready (rs := [8]) (by kernel_rfl) (by simp) ?_
    refine AllReadyH.cons rfl (fun K hK => ?_) (AllReadyH.nil)
    go_simp
    refine hK.out _ _ hHeld (fun hHeld => ?_)
    clear hK K
    (try simp only [Act.put]); (try simp only [List.setIfInBounds_toArray]); (try simp only [List.set_cons_succ]); (try simp only [List.set_cons_zero])
    refine wpAnyH_ready (rs := [9]) (by kernel_rfl) (by simp) ?_
    refine AllReadyH.cons rfl (fun K hK => ?_) (AllReadyH.nil)
    go_simp
    refine hK.out _ _ hHeld (fun hHeld => ?_)
    clear hK K
    (try simp only [Act.put]); (try simp only [List.setIfInBounds_toArray]); (try simp only [List.set_cons_succ]); (try simp only [List.set_cons_zero])
    refine wpAnyH_done (by kernel_rfl) ?_ _
    exact ⟨rfl, (), rfl, hHeld⟩
  rintro _ w1 hS1
  rw [HBS.out] at hS1
  have S1 := Lib.hid hS1
  clear hS hS1 K0 K1 HBS BS
  simp only [Act.put, List.setIfInBounds_toArray, List.set_cons_zero, List.set_cons_succ]
  have b1 := HX.out.1.b S1.out.bel
  have q7 := (b1.cell 7).trans HX.out.2.1
  have hgl := b1.lt
  have hat1 := HAT.out.below S1.out.bel hgr
  have qA := hat1 A x HXY.out.1
  have qB := hat1 B y HXY.out.2
  rw [Nat.zero_add] at qA qB
  have r1 := HX.out.2.2.1.kept (grownBy_below S1.out.bel none) (by simp [Value.ownBlock])
  have hgrl := (r1.lt gr rfl).2
  have fr := r1.frozenAt A
  have i0 : (0 : Int) ≤ (A : Int) := by omega
  have i1 : (A : Int) < (n : Int) := by omega
  have i2 : (0 : Int) ≤ (B : Int) := by omega
  have i3 : (B : Int) < (n : Int) := by omega
  have B1 := Lib.hid b1
  have R1 := Lib.hid r1
  clear b1 hat1 r1
  go_wp2_with fail
  go_region
  have r2 := (R1.out.stored A (.int .u64 ((x ||| y : Nat) : Int))).1
  rw [← setsV_set] at r2
  have b2 := B1.out.other (a := ⟨gr, A, none⟩) hne (.int .u64 ((x ||| y : Nat) : Int))
  have x2 : Kx (fun k => k = g ∨ k = gr) w (w1.setCell ⟨gr, A, none⟩ (.int .u64 ((x ||| y : Nat) : Int))).drew := ((Kx.below S1.out.bel).trans (Kx.set (a := ⟨gr, A, none⟩) (.inr rfl) _)).trans Kx.drew
  rw [OB.out]
  obtain ⟨W2, hW2⟩ : ∃ W2, W2 = (w1.setCell ⟨gr, A, none⟩ (.int .u64 ((x ||| y : Nat) : Int))).drew := ⟨_, rfl⟩
  have R2 : Hid (W2.ownsRow base 109 1 (.slice (some ⟨gr, 0, none⟩) n c) n (setsV (l.set A (x ||| y)))) := by rw [hW2]; exact Lib.hid r2.drew
  have B2 : Hid (Blk W2 g cs 107) := by rw [hW2]; exact Lib.hid b2.drew
  have X2 : Hid (Kx (fun k => k = g ∨ k = gr) w W2) := by rw [hW2]; exact Lib.hid x2
  rw [← hW2]
  have m7 := (B2.out.cell 7).trans HX.out.2.1
  have ml := B2.out.lt
  have CD := Lib.hid (delete_set (i := B) R2.out hBn)
  clear r2 b2 x2 hW2 q7 hgl qA qB hgrl fr i0 i1
  go_wp2_with fail
  (with_reducible refine CD.out.mono ?_)
  rintro e w3 ⟨rfl, r3, g3⟩
  have b3 := B2.out.kept g3 (by simpa using hne)
  have f7 := b3.frozen 7
  have c7 := (b3.cell 7).trans HX.out.2.1
  have hl3 := b3.lt
  have R3 := Lib.hid r3
  have B3 := Lib.hid b3
  have X3 := Lib.hid (X2.out.trans (Kx.grown g3 (fun r e => by cases e; exact .inr rfl)))
  clear r3 g3 b3
  go_wp2_with fail
  go_end0
  refine ⟨rfl, n - 1, c, ?_, B3.out.set 7 _, X3.out.trans (Kx.set (a := ⟨g, 7, none⟩) (.inl rfl) _)⟩
  rw [HJ.out]
  have hle : ((l.set A (x ||| y)).eraseIdx B).length = n - 1 := by rw [List.length_eraseIdx_of_lt (by rw [List.length_set, HX.out.2.2.2]; exact hBn), List.length_set, HX.out.2.2.2]
  unfold OwnS
  rw [hle]
  exact (Kx.set (E := fun k => k = g) (a := ⟨g, 7, none⟩) rfl _).own R3.out (fun r e => by simp [Value.ownBlock] at e; omega)
theorem join_any (g gr base n c n0 : Nat) (l : List Nat) (p : Nat × Nat) (cs : Array Value) (w : World) (hB : Blk w g cs 107) (h7 : cs[7]? = some (.slice (some ⟨gr, 0, none⟩) n c)) (hO : w.ownsRow base 109 1 (.slice (some ⟨gr, 0, none⟩) n c) n (setsV l)) (hN : l.length = n) (hc : Sh.Cov n0 l) (hn0 : n0 ≤ 10) (h1 : p.1 < n0) (h2 : p.2 < n0) (hbase : base ≤ gr) :
    Calls Tryz.prog 103 #[.pointer (some ⟨g, 0, none⟩), prV p] w (JoinPost g gr base (Sh.joinB l p) cs w) := by
  by_cases hab : Sh.blockAt l p.1 = Sh.blockAt l p.2
  · exact join_same g gr base n c n0 l p cs w hB h7 hO hN hc hn0 h1 h2 hbase hab
  · exact join_other g gr base n c n0 l p cs w hB h7 hO hN hc hn0 h1 h2 hbase hab
end Go.Proofs.YtdfebccmjbocjaaGreatDoor
