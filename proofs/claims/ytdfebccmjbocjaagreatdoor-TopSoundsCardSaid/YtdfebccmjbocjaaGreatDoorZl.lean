/- sheet: fits, walked. -/
import Derived.Test.YtdfebccmjbocjaaGreatDoorZk
set_option linter.unusedVariables false
set_option linter.unusedSimpArgs false
namespace Go.Proofs.YtdfebccmjbocjaaGreatDoor
open Go.RowKit Go.Shelf

theorem getD_of {es : List Ent} {i : Nat} {e : Ent} (h : es[i]? = some e) : es.getD i ⟨0, 0, 0, 0, 0⟩ = e := by rw [List.getD_eq_getElem?_getD, h]; rfl
/-- so far all pairs fit -/
def FitTo (es : List Ent) (S i : Nat) : Prop := ∀ (i' j x y : Nat), i' < i → (Sh.bits S)[i']? = some x → (Sh.bits S)[j]? = some y → j < i' → fitA es x y = true
def FitIn (es : List Ent) (S i j : Nat) : Prop := ∀ (j' x y : Nat), j' < j → (Sh.bits S)[i]? = some x → (Sh.bits S)[j']? = some y → fitA es x y = true
set_option maxRecDepth 100000 in
set_option maxHeartbeats 3200000 in
theorem fits_w (g : Nat) (e a : Loc) (es : List Ent) (ap : List (Nat × Nat)) (S : Nat) (w : World) (hS : S < 1024) (hn : es.length ≤ 10) (hin : ∀ k ∈ Sh.bits S, k < es.length) (hap : ap.length ≤ 6) (hp : ∀ p ∈ ap, p.1 < 64 ∧ p.2 < 64) (h : FW w g e a es ap) :
    Calls Tryz.prog 42 #[.pointer (some ⟨g, 0, none⟩), .int .u64 (S : Int)] w fun x w' => x = .returned (.bool (Sh.fitsB (fitA es) ap S)) ∧ Below w.heap.size w w' := by
  have s0 := (KS.start w).new #[.int .u64 (S : Int)] 109
  have k0 := (s0.blkAt 0 rfl).c1.1
  have S0 := Lib.hid s0
  have HF := Lib.hid h
  have HIN := Lib.hid hin
  have hg := h.lt
  have CL := Lib.hid (fun W (hW : Below w.heap.size w W) => list_any S hS W (h.below hW).gt (h.below hW).one)
  have hlb := Sh.bits_len S
  obtain ⟨n, hN⟩ : ∃ n, n = (Sh.bits S).length := ⟨_, rfl⟩
  rw [← hN] at hlb
  have HN := Lib.hid hN
  have hc2 : ∀ W, Below w.heap.size w W → W.cell? ⟨g, 2, none⟩ = some (.slice a.a ap.length a.c) := fun W hW => (h.below hW).c2
  have HC2 := Lib.hid hc2
  have CA := Lib.hid (fun W (hW : KS w [(w.heap.size, #[.int .u64 (S : Int)], 109)] W) => allP 75 #[] #[.pointer (some ⟨w.heap.size, 0, none⟩)] a.a a.b a.o a.c ap.length ap (fun p => !S.testBit p.1 || !S.testBit p.2) W rfl ((h.below hW.bel).ap.at_) ((h.below hW.bel).ap.lt) (by omega) ((h.below hW.bel).ap.cells)
    (fun bx W2 hW2 hbx x hx W3 hW3 => clos_apart w.heap.size x bx W3 (hbx.b hW3) (fun W4 hW4 => apart_any x w.heap.size S hS (hp x hx).1 (hp x hx).2 W4 ((((hW.blkAt 0 rfl).b hW2).b hW3).b hW4))))
  rw [fitsB_eq]
  obtain ⟨R, hR⟩ : ∃ R, R = ap.all (fun p => !S.testBit p.1 || !S.testBit p.2) := ⟨_, rfl⟩
  rw [← hR] at CA ⊢
  obtain ⟨Q, hQ⟩ : ∃ Q, Q = pairsOk (fitA es) S := ⟨_, rfl⟩
  have HQ := Lib.hid hQ
  rw [← hQ]
  have HE := Lib.hid hn
  clear h hin hp hN hR hQ hc2 hn s0 hap
  go_enter Tryz.func42, Tryz.ntmps42
  go_wp2_with fail
  (with_reducible refine (CL.out _ S0.out.bel).mono ?_)
  rintro x w1 ⟨v, rfl, hv, hb1⟩
  have s1 := S0.out.below hb1
  have S1 := Lib.hid s1
  have hv2 : w1.ownsRow (w.heap.size + 1) 3 1 v n (natV (Sh.bits S)) := by rw [HN.out]; have h := hv; unfold OwnN at h; rw [World.size_alloc] at h; exact h
  have HV := Lib.hid hv2
  have hs1 := s1.size
  clear hb1 hv k0 s1 S0 hv2
  rcases Joins.ownsRow_forms HV.out with ⟨rfl, h0⟩ | ⟨gl, cl, rfl⟩
  · -- no member
    have hq : Q = true := by
      rw [HQ.out]
      refine pairsOk_true fun i j x y hi => ?_
      have hl := (List.getElem?_eq_some_iff.1 hi).1
      rw [← HN.out] at hl
      omega
    subst hq
    have m0 := HC2.out _ S1.out.bel
    have hg1 := Nat.lt_of_lt_of_le hg S1.out.size
    clear h0
    go_wp2_with fail
    go_loopw [14] (fun x wr => x = .int .i64 0 ∧ wr = w1) (fun _ _ => 0)
    case atStart => exact ⟨rfl, rfl⟩
    case round =>
      obtain ⟨rfl, rfl⟩ := hrel
      go_wp2_with fail
      (with_reducible refine (CA.out _ S1.out).mono ?_)
      rintro x w2 ⟨rfl, hb2⟩
      have HB := Lib.hid hb2
      clear hb2
      go_wp2_with fail
      go_ret
      exact ⟨rfl, S1.out.bel.trans (HB.out.mono S1.out.size)⟩
  have hcl : n ≤ cl := by
    rcases HV.out.2 with ⟨e2, _⟩ | ⟨g2, cap2, cur2, e2, _, _, h2, _⟩
    · cases e2
    · cases e2; exact h2
  have hgl := HV.out.lt gl rfl
  have HGL := Lib.hid hgl
  have hrow : ∀ W, Below w1.heap.size w1 W → ∀ (i x : Nat), (Sh.bits S)[i]? = some x → W.cell? ⟨gl, i, none⟩ = some (.int .i64 (x : Int)) := fun W hW i x hi => by
    have hl := (List.getElem?_eq_some_iff.1 hi).1
    rw [(hW.cell (p := ⟨gl, i, none⟩) HGL.out.2), World.ownsRow.cellAt HV.out i (by rw [Nat.mul_one, HN.out]; exact hl)]
    simp [natV, hi]
  have HROW := Lib.hid hrow
  clear hgl hrow
  obtain ⟨W1, hW1⟩ : ∃ W, W = w1 := ⟨_, rfl⟩
  subst hW1
  go_wp2_with fail
  go_loopw [14] (fun x wr => ∃ i : Nat, i ≤ n ∧ x = .int .i64 (i : Int) ∧ Hid (FitTo es S i ∧ KS w [(w.heap.size, #[.int .u64 (S : Int)], 109)] wr ∧ Below W1.heap.size W1 wr)) (fun x _ => n - (intOf x).toNat)
  case atStart => exact ⟨0, Nat.zero_le _, rfl, fun i' j x y h => by omega, S1.out, Below.refl _ _⟩
  case round =>
    obtain ⟨i, hi, rfl, H⟩ := hrel
    have hg1 := Nat.lt_of_lt_of_le hg H.out.2.1.size
    have hg2 := Nat.lt_of_lt_of_le HGL.out.2 H.out.2.2.size
    by_cases hlt : i < n
    · obtain ⟨x, hx⟩ : ∃ x, (Sh.bits S)[i]? = some x := ⟨_, List.getElem?_eq_getElem (by rw [← HN.out]; exact hlt)⟩
      have k1 := HROW.out wr H.out.2.2 i x hx
      have HX := Lib.hid hx
      have p0 : (0 : Int) ≤ (i : Int) := by omega
      have p1 : (i : Int) < (n : Int) := by omega
      have p2 : (i : Int) ≤ (cl : Int) := by omega
      have p3 : i ≤ cl := by omega
      clear hx
      go_wp2_with fail
      obtain ⟨wr1, hwr1⟩ : ∃ W, W = wr := ⟨_, rfl⟩
      rw [← hwr1] at H k1 hg1 hg2 ⊢
      clear hwr1
      go_loopw [23] (fun x2 wr2 => ∃ j : Nat, j ≤ i ∧ x2 = .int .i64 (j : Int) ∧ Hid (FitIn es S i j ∧ KS w [(w.heap.size, #[.int .u64 (S : Int)], 109)] wr2 ∧ Below W1.heap.size W1 wr2)) (fun x2 _ => i - (intOf x2).toNat)
      case atStart => exact ⟨0, Nat.zero_le _, rfl, fun j' x y h => by omega, H.out.2⟩
      case round =>
        obtain ⟨j, hj, rfl, J⟩ := hrel
        have hh1 := Nat.lt_of_lt_of_le hg J.out.2.1.size
        have hh2 := Nat.lt_of_lt_of_le HGL.out.2 J.out.2.2.size
        clear k1 hg1 hg2
        by_cases hjl : j < i
        · obtain ⟨y, hy⟩ : ∃ y, (Sh.bits S)[j]? = some y := ⟨_, List.getElem?_eq_getElem (by rw [← HN.out]; omega)⟩
          have k2 := HROW.out wr J.out.2.2 j y hy
          have HY := Lib.hid hy
          have xl := HIN.out x (List.mem_of_getElem? HX.out)
          have yl := HIN.out y (List.mem_of_getElem? hy)
          obtain ⟨ex, hex⟩ : ∃ ex, es[x]? = some ex := ⟨_, List.getElem?_eq_getElem xl⟩
          obtain ⟨ey, hey⟩ : ∃ ey, es[y]? = some ey := ⟨_, List.getElem?_eq_getElem yl⟩
          have hne : es ≠ [] := by rintro rfl; simp at xl
          have ea := HF.out.es.at_ hne
          have hlb2 := HF.out.es.lt hne
          have HFI := Lib.hid (show fitA es x y = fitE ex ey by unfold fitA; rw [getD_of hex, getD_of hey])
          have HFB := Lib.hid (fun W (hW : KS w [(w.heap.size, #[.int .u64 (S : Int)], 109)] W) => HF.out.below hW.bel)
          obtain ⟨BS, hBS⟩ : ∃ BS : List (Nat × Array Value × TypeId), BS = [(w.heap.size, #[.int .u64 (S : Int)], 109)] := ⟨_, rfl⟩
          have hS : KS w BS wr.drew := by rw [hBS]; exact J.out.2.1.drew
          have KG : ∀ W, KS w BS W → W.cell? ⟨g, 0, none⟩ = some (.slice (some ⟨e.b, e.o, none⟩) es.length e.c) := fun W hW => by rw [hBS] at hW; rw [← ea]; exact (HFB.out W hW).c0
          have KX0 : ∀ W, KS w BS W → W.cell? ⟨e.b, e.o + x * 5, none⟩ = some (.int .i64 (ex.s : Int)) := fun W hW => by rw [hBS] at hW; exact ((HFB.out W hW).es.cells x ex hex).1
          have KX1 : ∀ W, KS w BS W → W.cell? ⟨e.b, e.o + x * 5 + 1, none⟩ = some (.int .i64 (ex.x : Int)) := fun W hW => by rw [hBS] at hW; exact ((HFB.out W hW).es.cells x ex hex).2.1
          have KX2 : ∀ W, KS w BS W → W.cell? ⟨e.b, e.o + x * 5 + 2, none⟩ = some (.int .i64 (ex.k : Int)) := fun W hW => by rw [hBS] at hW; exact ((HFB.out W hW).es.cells x ex hex).2.2.1
          have KX3 : ∀ W, KS w BS W → W.cell? ⟨e.b, e.o + x * 5 + 3, none⟩ = some (.int .i64 (ex.lo : Int)) := fun W hW => by rw [hBS] at hW; exact ((HFB.out W hW).es.cells x ex hex).2.2.2.1
          have KX4 : ∀ W, KS w BS W → W.cell? ⟨e.b, e.o + x * 5 + 4, none⟩ = some (.int .i64 (ex.hi : Int)) := fun W hW => by rw [hBS] at hW; exact ((HFB.out W hW).es.cells x ex hex).2.2.2.2
          have KY0 : ∀ W, KS w BS W → W.cell? ⟨e.b, e.o + y * 5, none⟩ = some (.int .i64 (ey.s : Int)) := fun W hW => by rw [hBS] at hW; exact ((HFB.out W hW).es.cells y ey hey).1
          have KY1 : ∀ W, KS w BS W → W.cell? ⟨e.b, e.o + y * 5 + 1, none⟩ = some (.int .i64 (ey.x : Int)) := fun W hW => by rw [hBS] at hW; exact ((HFB.out W hW).es.cells y ey hey).2.1
          have KY2 : ∀ W, KS w BS W → W.cell? ⟨e.b, e.o + y * 5 + 2, none⟩ = some (.int .i64 (ey.k : Int)) := fun W hW => by rw [hBS] at hW; exact ((HFB.out W hW).es.cells y ey hey).2.2.1
          have KY3 : ∀ W, KS w BS W → W.cell? ⟨e.b, e.o + y * 5 + 3, none⟩ = some (.int .i64 (ey.lo : Int)) := fun W hW => by rw [hBS] at hW; exact ((HFB.out W hW).es.cells y ey hey).2.2.2.1
          have KY4 : ∀ W, KS w BS W → W.cell? ⟨e.b, e.o + y * 5 + 4, none⟩ = some (.int .i64 (ey.hi : Int)) := fun W hW => by rw [hBS] at hW; exact ((HFB.out W hW).es.cells y ey hey).2.2.2.2
          have KL : ∀ W, KS w BS W → g < W.heap.size := fun W hW => by rw [hBS] at hW; exact (HFB.out W hW).lt
          have i0 : (0 : Int) ≤ (x : Int) := by omega
          have i1 : (x : Int) < (es.length : Int) := by omega
          have i2 : (0 : Int) ≤ (y : Int) := by omega
          have i3 : (y : Int) < (es.length : Int) := by omega
          have q0 : (0 : Int) ≤ (j : Int) := by omega
          have q1 : (j : Int) < (i : Int) := by omega
          have CF := Lib.hid (fun W => fits_any ex ey W)
          have HBS := Lib.hid hBS
          have HBW := Lib.hid J.out.2.2
          generalize fitE ex ey = q at *
          clear hy hex hey hne ea hBS
          go_wp2_with fail
          refine wp_joinZ (ι := Unit) (f := fun aa _ => ((((((((((((((((((aa.put (some 27) (.pointer (some ⟨g, 0, none⟩))).put (some 28) (.pointer (some ⟨g, 0, none⟩))).put (some 29) (.pointer (some ⟨g, 0, none⟩))).put (some 30) (.pointer (some ⟨g, 0, none⟩))).put (some 31) (.slice (some ⟨e.b, e.o, none⟩) es.length e.c)).put (some 32) (.int .i64 (x : Int))).put (some 33) (.pointer (some ⟨e.b, e.o + x * 5, none⟩))).put (some 34) (.agg #[.int .i64 (ex.s : Int), .int .i64 (ex.x : Int), .int .i64 (ex.k : Int), .int .i64 (ex.lo : Int), .int .i64 (ex.hi : Int)])).put (some 35) (.pointer (some ⟨g, 0, none⟩))).put (some 36) (.pointer (some ⟨g, 0, none⟩))).put (some 37) (.pointer (some ⟨g, 0, none⟩))).put (some 38) (.pointer (some ⟨g, 0, none⟩))).put (some 39) (.slice (some ⟨e.b, e.o, none⟩) es.length e.c)).put (some 40) (.int .i64 (y : Int))).put (some 41) (.pointer (some ⟨e.b, e.o + y * 5, none⟩))).put (some 42) (.agg #[.int .i64 (ey.s : Int), .int .i64 (ey.x : Int), .int .i64 (ey.k : Int), .int .i64 (ey.lo : Int), .int .i64 (ey.hi : Int)])).put (some 43) (.bool q)).put (some 44) (.bool (!q)))) (mid := fun _ W' => KS w BS W' ∧ Below W1.heap.size W1 W') ?_ ?_
          · have HBD : Below W1.heap.size W1 wr.drew := HBW.out.drew
            have HBD := Lib.hid HBD
            refine wp_region_held_drew (S := KS w BS) (by kernel_rfl) hS (fun hHeld => ?_)
            clear hS
            refine wpAnyH_take (i := 0) (v := ?_) rfl (by kernel_rfl) (by kernel_rfl) (by kernel_rfl) (fun _ _ _ h => (by cases h.1)) (Or.inl ⟨by rfl, ?h0⟩) hHeld ?_
            case h0 =>
              intro w' hSw
              (try dsimp only at hSw)
              go_simp
              (try with_reducible rfl)
            (try simp only [Act.put]); (try simp only [List.setIfInBounds_toArray]); (try simp only [List.set_cons_succ]); (try simp only [List.set_cons_zero])
            refine wpAnyH_take (i := 5) (v := ?_) rfl (by kernel_rfl) (by kernel_rfl) (by kernel_rfl) (fun _ _ _ h => (by cases h.1)) (Or.inl ⟨by rfl, ?h5⟩) hHeld ?_
            case h5 =>
              intro w' hSw
              (try dsimp only at hSw)
              go_simp
              (try with_reducible rfl)
            (try simp only [Act.put]); (try simp only [List.setIfInBounds_toArray]); (try simp only [List.set_cons_succ]); (try simp only [List.set_cons_zero])
            refine wpAnyH_take (i := 8) (v := ?_) rfl (by kernel_rfl) (by kernel_rfl) (by kernel_rfl) (fun _ _ _ h => (by cases h.1)) (Or.inl ⟨by rfl, ?h8⟩) hHeld ?_
            case h8 =>
              intro w' hSw
              (try dsimp only at hSw)
              go_simp
              (try with_reducible rfl)
            (try simp only [Act.put]); (try simp only [List.setIfInBounds_toArray]); (try simp only [List.set_cons_succ]); (try simp only [List.set_cons_zero])
            refine wpAnyH_take (i := 13) (v := ?_) rfl (by kernel_rfl) (by kernel_rfl) (by kernel_rfl) (fun _ _ _ h => (by cases h.1)) (Or.inl ⟨by rfl, ?h13⟩) hHeld ?_
            case h13 =>
              intro w' hSw
              (try dsimp only at hSw)
              go_simp
              (try with_reducible rfl)
            (try simp only [Act.put]); (try simp only [List.setIfInBounds_toArray]); (try simp only [List.set_cons_succ]); (try simp only [List.set_cons_zero])
            refine wpAnyH_ready (rs := [1, 9]) (by kernel_rfl) (by simp) ?_
            refine AllReadyH.cons rfl (fun K hK => ?_) (AllReadyH.cons rfl (fun K hK => ?_) (AllReadyH.nil))
            · go_simp
              refine hK.out _ _ hHeld (fun hHeld => ?_)
              clear hK K
              (try simp only [Act.put]); (try simp only [List.setIfInBounds_toArray]); (try simp only [List.set_cons_succ]); (try simp only [List.set_cons_zero])
              refine wpAnyH_take (i := 2) (v := ?_) rfl (by kernel_rfl) (by kernel_rfl) (by kernel_rfl) (fun _ _ _ h => (by cases h.1)) (Or.inl ⟨by rfl, ?h2⟩) hHeld ?_
              case h2 =>
                intro w' hSw
                (try dsimp only at hSw)
                go_simp
                (try with_reducible rfl)
              (try simp only [Act.put]); (try simp only [List.setIfInBounds_toArray]); (try simp only [List.set_cons_succ]); (try simp only [List.set_cons_zero])
              refine wpAnyH_take (i := 3) (v := ?_) rfl (by kernel_rfl) (by kernel_rfl) (by kernel_rfl) (fun _ _ _ h => (by cases h.1)) (Or.inl ⟨by rfl, ?h3⟩) hHeld ?_
              case h3 =>
                intro w' hSw
                (try dsimp only at hSw)
                go_simp
                (try with_reducible rfl)
              (try simp only [Act.put]); (try simp only [List.setIfInBounds_toArray]); (try simp only [List.set_cons_succ]); (try simp only [List.set_cons_zero])
              refine wpAnyH_take (i := 4) (v := ?_) rfl (by kernel_rfl) (by kernel_rfl) (by kernel_rfl) (fun _ _ _ h => (by cases h.1)) (Or.inl ⟨by rfl, ?h4⟩) hHeld ?_
              case h4 =>
                intro w' hSw
                (try dsimp only at hSw)
                go_simp
                (try with_reducible rfl)
              (try simp only [Act.put]); (try simp only [List.setIfInBounds_toArray]); (try simp only [List.set_cons_succ]); (try simp only [List.set_cons_zero])
              refine wpAnyH_take (i := 6) (v := ?_) rfl (by kernel_rfl) (by kernel_rfl) (by kernel_rfl) (fun _ _ _ h => (by cases h.1)) (Or.inl ⟨by rfl, ?h6⟩) hHeld ?_
              case h6 =>
                intro w' hSw
                (try dsimp only at hSw)
                go_simp
                (try with_reducible rfl)
              (try simp only [Act.put]); (try simp only [List.setIfInBounds_toArray]); (try simp only [List.set_cons_succ]); (try simp only [List.set_cons_zero])
              refine wpAnyH_take (i := 7) (v := ?_) rfl (by kernel_rfl) (by kernel_rfl) (by kernel_rfl) (fun _ _ _ h => (by cases h.1)) (Or.inl ⟨by rfl, ?h7⟩) hHeld ?_
              case h7 =>
                intro w' hSw
                (try dsimp only at hSw)
                go_simp
                (try with_reducible rfl)
              (try simp only [Act.put]); (try simp only [List.setIfInBounds_toArray]); (try simp only [List.set_cons_succ]); (try simp only [List.set_cons_zero])
              refine wpAnyH_ready (rs := [9]) (by kernel_rfl) (by simp) ?_
              refine AllReadyH.cons rfl (fun K hK => ?_) (AllReadyH.nil)
              go_simp
              refine hK.out _ _ hHeld (fun hHeld => ?_)
              clear hK K
              (try simp only [Act.put]); (try simp only [List.setIfInBounds_toArray]); (try simp only [List.set_cons_succ]); (try simp only [List.set_cons_zero])
              refine wpAnyH_take (i := 10) (v := ?_) rfl (by kernel_rfl) (by kernel_rfl) (by kernel_rfl) (fun _ _ _ h => (by cases h.1)) (Or.inl ⟨by rfl, ?h10⟩) hHeld ?_
              case h10 =>
                intro w' hSw
                (try dsimp only at hSw)
                go_simp
                (try with_reducible rfl)
              (try simp only [Act.put]); (try simp only [List.setIfInBounds_toArray]); (try simp only [List.set_cons_succ]); (try simp only [List.set_cons_zero])
              refine wpAnyH_take (i := 11) (v := ?_) rfl (by kernel_rfl) (by kernel_rfl) (by kernel_rfl) (fun _ _ _ h => (by cases h.1)) (Or.inl ⟨by rfl, ?h11⟩) hHeld ?_
              case h11 =>
                intro w' hSw
                (try dsimp only at hSw)
                go_simp
                (try with_reducible rfl)
              (try simp only [Act.put]); (try simp only [List.setIfInBounds_toArray]); (try simp only [List.set_cons_succ]); (try simp only [List.set_cons_zero])
              refine wpAnyH_take (i := 12) (v := ?_) rfl (by kernel_rfl) (by kernel_rfl) (by kernel_rfl) (fun _ _ _ h => (by cases h.1)) (Or.inl ⟨by rfl, ?h12⟩) hHeld ?_
              case h12 =>
                intro w' hSw
                (try dsimp only at hSw)
                go_simp
                (try with_reducible rfl)
              (try simp only [Act.put]); (try simp only [List.setIfInBounds_toArray]); (try simp only [List.set_cons_succ]); (try simp only [List.set_cons_zero])
              refine wpAnyH_take (i := 14) (v := ?_) rfl (by kernel_rfl) (by kernel_rfl) (by kernel_rfl) (fun _ _ _ h => (by cases h.1)) (Or.inl ⟨by rfl, ?h14⟩) hHeld ?_
              case h14 =>
                intro w' hSw
                (try dsimp only at hSw)
                go_simp
                (try with_reducible rfl)
              (try simp only [Act.put]); (try simp only [List.setIfInBounds_toArray]); (try simp only [List.set_cons_succ]); (try simp only [List.set_cons_zero])
              refine wpAnyH_take (i := 15) (v := ?_) rfl (by kernel_rfl) (by kernel_rfl) (by kernel_rfl) (fun _ _ _ h => (by cases h.1)) (Or.inl ⟨by rfl, ?h15⟩) hHeld ?_
              case h15 =>
                intro w' hSw
                (try dsimp only at hSw)
                go_simp
                (try with_reducible rfl)
              (try simp only [Act.put]); (try simp only [List.setIfInBounds_toArray]); (try simp only [List.set_cons_succ]); (try simp only [List.set_cons_zero])
              refine wpAnyH_ready (rs := [16]) (by kernel_rfl) (by simp) ?_
              refine AllReadyH.cons rfl (fun K hK => ?_) (AllReadyH.nil)
              go_simp
              refine (CF.out _).mono ?_
              rintro e w9 ⟨rfl, hb⟩
              have HBD := Lib.hid (HBD.out.trans (hb.mono HBD.out.size))
              refine hK.out _ _ (hHeld.below hb) (fun hHeld => ?_)
              clear hK K hb
              (try simp only [Act.put]); (try simp only [List.setIfInBounds_toArray]); (try simp only [List.set_cons_succ]); (try simp only [List.set_cons_zero])
              refine wpAnyH_take (i := 17) (v := ?_) rfl (by kernel_rfl) (by kernel_rfl) (by kernel_rfl) (fun _ _ _ h => (by cases h.1)) (Or.inl ⟨by rfl, ?h17⟩) hHeld ?_
              case h17 =>
                intro w' hSw
                (try dsimp only at hSw)
                go_simp
                (try with_reducible rfl)
              (try simp only [Act.put]); (try simp only [List.setIfInBounds_toArray]); (try simp only [List.set_cons_succ]); (try simp only [List.set_cons_zero])
              refine wpAnyH_done (by kernel_rfl) ?_ _
              exact ⟨rfl, (), rfl, hHeld, HBD.out⟩
            · go_simp
              refine hK.out _ _ hHeld (fun hHeld => ?_)
              clear hK K
              (try simp only [Act.put]); (try simp only [List.setIfInBounds_toArray]); (try simp only [List.set_cons_succ]); (try simp only [List.set_cons_zero])
              refine wpAnyH_take (i := 10) (v := ?_) rfl (by kernel_rfl) (by kernel_rfl) (by kernel_rfl) (fun _ _ _ h => (by cases h.1)) (Or.inl ⟨by rfl, ?h10⟩) hHeld ?_
              case h10 =>
                intro w' hSw
                (try dsimp only at hSw)
                go_simp
                (try with_reducible rfl)
              (try simp only [Act.put]); (try simp only [List.setIfInBounds_toArray]); (try simp only [List.set_cons_succ]); (try simp only [List.set_cons_zero])
              refine wpAnyH_take (i := 11) (v := ?_) rfl (by kernel_rfl) (by kernel_rfl) (by kernel_rfl) (fun _ _ _ h => (by cases h.1)) (Or.inl ⟨by rfl, ?h11⟩) hHeld ?_
              case h11 =>
                intro w' hSw
                (try dsimp only at hSw)
                go_simp
                (try with_reducible rfl)
              (try simp only [Act.put]); (try simp only [List.setIfInBounds_toArray]); (try simp only [List.set_cons_succ]); (try simp only [List.set_cons_zero])
              refine wpAnyH_take (i := 12) (v := ?_) rfl (by kernel_rfl) (by kernel_rfl) (by kernel_rfl) (fun _ _ _ h => (by cases h.1)) (Or.inl ⟨by rfl, ?h12⟩) hHeld ?_
              case h12 =>
                intro w' hSw
                (try dsimp only at hSw)
                go_simp
                (try with_reducible rfl)
              (try simp only [Act.put]); (try simp only [List.setIfInBounds_toArray]); (try simp only [List.set_cons_succ]); (try simp only [List.set_cons_zero])
              refine wpAnyH_take (i := 14) (v := ?_) rfl (by kernel_rfl) (by kernel_rfl) (by kernel_rfl) (fun _ _ _ h => (by cases h.1)) (Or.inl ⟨by rfl, ?h14⟩) hHeld ?_
              case h14 =>
                intro w' hSw
                (try dsimp only at hSw)
                go_simp
                (try with_reducible rfl)
              (try simp only [Act.put]); (try simp only [List.setIfInBounds_toArray]); (try simp only [List.set_cons_succ]); (try simp only [List.set_cons_zero])
              refine wpAnyH_take (i := 15) (v := ?_) rfl (by kernel_rfl) (by kernel_rfl) (by kernel_rfl) (fun _ _ _ h => (by cases h.1)) (Or.inl ⟨by rfl, ?h15⟩) hHeld ?_
              case h15 =>
                intro w' hSw
                (try dsimp only at hSw)
                go_simp
                (try with_reducible rfl)
              (try simp only [Act.put]); (try simp only [List.setIfInBounds_toArray]); (try simp only [List.set_cons_succ]); (try simp only [List.set_cons_zero])
              refine wpAnyH_ready (rs := [1]) (by kernel_rfl) (by simp) ?_
              refine AllReadyH.cons rfl (fun K hK => ?_) (AllReadyH.nil)
              go_simp
              refine hK.out _ _ hHeld (fun hHeld => ?_)
              clear hK K
              (try simp only [Act.put]); (try simp only [List.setIfInBounds_toArray]); (try simp only [List.set_cons_succ]); (try simp only [List.set_cons_zero])
              refine wpAnyH_take (i := 2) (v := ?_) rfl (by kernel_rfl) (by kernel_rfl) (by kernel_rfl) (fun _ _ _ h => (by cases h.1)) (Or.inl ⟨by rfl, ?h2⟩) hHeld ?_
              case h2 =>
                intro w' hSw
                (try dsimp only at hSw)
                go_simp
                (try with_reducible rfl)
              (try simp only [Act.put]); (try simp only [List.setIfInBounds_toArray]); (try simp only [List.set_cons_succ]); (try simp only [List.set_cons_zero])
              refine wpAnyH_take (i := 3) (v := ?_) rfl (by kernel_rfl) (by kernel_rfl) (by kernel_rfl) (fun _ _ _ h => (by cases h.1)) (Or.inl ⟨by rfl, ?h3⟩) hHeld ?_
              case h3 =>
                intro w' hSw
                (try dsimp only at hSw)
                go_simp
                (try with_reducible rfl)
              (try simp only [Act.put]); (try simp only [List.setIfInBounds_toArray]); (try simp only [List.set_cons_succ]); (try simp only [List.set_cons_zero])
              refine wpAnyH_take (i := 4) (v := ?_) rfl (by kernel_rfl) (by kernel_rfl) (by kernel_rfl) (fun _ _ _ h => (by cases h.1)) (Or.inl ⟨by rfl, ?h4⟩) hHeld ?_
              case h4 =>
                intro w' hSw
                (try dsimp only at hSw)
                go_simp
                (try with_reducible rfl)
              (try simp only [Act.put]); (try simp only [List.setIfInBounds_toArray]); (try simp only [List.set_cons_succ]); (try simp only [List.set_cons_zero])
              refine wpAnyH_take (i := 6) (v := ?_) rfl (by kernel_rfl) (by kernel_rfl) (by kernel_rfl) (fun _ _ _ h => (by cases h.1)) (Or.inl ⟨by rfl, ?h6⟩) hHeld ?_
              case h6 =>
                intro w' hSw
                (try dsimp only at hSw)
                go_simp
                (try with_reducible rfl)
              (try simp only [Act.put]); (try simp only [List.setIfInBounds_toArray]); (try simp only [List.set_cons_succ]); (try simp only [List.set_cons_zero])
              refine wpAnyH_take (i := 7) (v := ?_) rfl (by kernel_rfl) (by kernel_rfl) (by kernel_rfl) (fun _ _ _ h => (by cases h.1)) (Or.inl ⟨by rfl, ?h7⟩) hHeld ?_
              case h7 =>
                intro w' hSw
                (try dsimp only at hSw)
                go_simp
                (try with_reducible rfl)
              (try simp only [Act.put]); (try simp only [List.setIfInBounds_toArray]); (try simp only [List.set_cons_succ]); (try simp only [List.set_cons_zero])
              refine wpAnyH_ready (rs := [16]) (by kernel_rfl) (by simp) ?_
              refine AllReadyH.cons rfl (fun K hK => ?_) (AllReadyH.nil)
              go_simp
              refine (CF.out _).mono ?_
              rintro e w9 ⟨rfl, hb⟩
              have HBD := Lib.hid (HBD.out.trans (hb.mono HBD.out.size))
              refine hK.out _ _ (hHeld.below hb) (fun hHeld => ?_)
              clear hK K hb
              (try simp only [Act.put]); (try simp only [List.setIfInBounds_toArray]); (try simp only [List.set_cons_succ]); (try simp only [List.set_cons_zero])
              refine wpAnyH_take (i := 17) (v := ?_) rfl (by kernel_rfl) (by kernel_rfl) (by kernel_rfl) (fun _ _ _ h => (by cases h.1)) (Or.inl ⟨by rfl, ?h17⟩) hHeld ?_
              case h17 =>
                intro w' hSw
                (try dsimp only at hSw)
                go_simp
                (try with_reducible rfl)
              (try simp only [Act.put]); (try simp only [List.setIfInBounds_toArray]); (try simp only [List.set_cons_succ]); (try simp only [List.set_cons_zero])
              refine wpAnyH_done (by kernel_rfl) ?_ _
              exact ⟨rfl, (), rfl, hHeld, HBD.out⟩
          rintro _ w9 ⟨hS9, hB9⟩
          rw [HBS.out] at hS9
          have HS9 := Lib.hid hS9
          have HB9 := Lib.hid hB9
          clear hS9 hB9 hS KG KX0 KX1 KX2 KX3 KX4 KY0 KY1 KY2 KY3 KY4 KL k2 i0 i1 i2 i3 HBS HBW
          simp only [Act.put, List.setIfInBounds_toArray, List.set_cons_zero, List.set_cons_succ]
          cases hq : q with
          | true =>
            subst hq
            go_wp2_with fail
            go_roundw
            case rel =>
              refine ⟨j + 1, by omega, by go_num, fun j' x' y' h1 h2 h3 => ?_, HS9.out, HB9.out⟩
              rcases Nat.lt_succ_iff_lt_or_eq.1 h1 with h | rfl
              · exact J.out.1 j' x' y' h h2 h3
              · rw [HX.out] at h2; rw [HY.out] at h3; cases h2; cases h3; exact HFI.out
            case measure => simp [intOf]; omega
          | false =>
            have hqf : Q = false := by rw [HQ.out]; exact pairsOk_false HX.out HY.out hjl (by rw [HFI.out]; exact hq)
            subst hq
            subst hqf
            go_wp2_with fail
            go_ret
            exact ⟨rfl, HS9.out.bel⟩
        · obtain rfl : j = i := by omega
          have q1 : ¬ (j : Int) < (j : Int) := by omega
          go_wp2_with fail
          go_roundw
          case rel =>
            refine ⟨j + 1, by omega, by go_num, fun i' j' x' y' h1 h2 h3 h4 => ?_, J.out.2⟩
            rcases Nat.lt_succ_iff_lt_or_eq.1 h1 with h | rfl
            · exact H.out.1 i' j' x' y' h h2 h3 h4
            · exact J.out.1 j' x' y' h4 h2 h3
          case measure => simp [intOf]; omega
    · obtain rfl : i = n := by omega
      have p1 : ¬ (i : Int) < (i : Int) := by omega
      have hq : Q = true := by
        rw [HQ.out]
        refine pairsOk_true fun i' j' x' y' h1 h2 h3 => H.out.1 i' j' x' y' ?_ h1 h2 h3
        have := (List.getElem?_eq_some_iff.1 h1).1
        rw [← HN.out] at this; exact this
      subst hq
      have m0 := HC2.out _ H.out.2.1.bel
      go_wp2_with fail
      (with_reducible refine (CA.out _ H.out.2.1).mono ?_)
      rintro x w2 ⟨rfl, hb2⟩
      have HB := Lib.hid hb2
      clear hb2
      go_wp2_with fail
      go_ret
      exact ⟨rfl, H.out.2.1.bel.trans (HB.out.mono H.out.2.1.size)⟩
end Go.Proofs.YtdfebccmjbocjaaGreatDoor
