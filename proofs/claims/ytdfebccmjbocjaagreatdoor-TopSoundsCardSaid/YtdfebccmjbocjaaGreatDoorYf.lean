/- tithinglaw02: to, word, pairs. -/
import Derived.Test.YtdfebccmjbocjaaGreatDoorYd
set_option linter.unusedVariables false
set_option linter.unusedSimpArgs false
namespace Go.Proofs.YtdfebccmjbocjaaGreatDoor
open Go.RowKit Go.Shelf
/-- small numbers that lie in a row -/
def U16K (W : World) (a : Option Addr) (g o n : Nat) (l : List Nat) : Prop := l.length = n ∧ (l ≠ [] → a = some ⟨g, o, none⟩) ∧ (∀ (i x : Nat), l[i]? = some x → W.cell? ⟨g, o + i, none⟩ = some (.int .u16 (x : Int))) ∧ (l ≠ [] → g < W.heap.size) ∧ ∀ x, x ∈ l → x < 65536
theorem U16K.below {W W' : World} {a : Option Addr} {g o n : Nat} {l : List Nat} (h : U16K W a g o n l) (hb : Below W.heap.size W W') : U16K W' a g o n l := by
  refine ⟨h.1, h.2.1, fun i x e => ?_, fun hx => Nat.lt_of_lt_of_le (h.2.2.2.1 hx) hb.size, h.2.2.2.2⟩
  have hx : l ≠ [] := by rintro rfl; simp at e
  exact (hb.cell (p := ⟨g, _, none⟩) (h.2.2.2.1 hx)).trans (h.2.2.1 i x e)
def wordN (l : List Nat) (n : Nat) : Nat := l.getD (n % l.length) 0
set_option maxRecDepth 100000 in
set_option maxHeartbeats 1000000 in
theorem word_any (a : Option Addr) (g o c m : Nat) (l : List Nat) (n : Nat) (w : World) (h : U16K w a g o m l) (hm : m ≤ 9223372036854775807) (hn : n ≤ 1000000) : Calls Tryz.prog 31 #[.slice a m c, .int .i64 (n : Int)] w fun e w' => e = .returned (.int .i64 (wordN l n : Nat)) ∧ w' = w := by
  by_cases h0 : l = []
  · have hm0 : m = 0 := by rw [← h.1, h0]; rfl
    have hv : wordN l n = 0 := by unfold wordN; rw [h0]; simp
    rw [hv]
    subst hm0
    clear h hm hn h0 hv
    go_enter Tryz.func31, Tryz.ntmps31
    go_wp2_with fail
    go_ret
    exact ⟨rfl, rfl⟩
  · have e1 := h.2.1 h0
    subst e1
    have hpos : 0 < m := by rw [← h.1]; exact List.length_pos_iff.2 h0
    obtain ⟨q, hq⟩ : ∃ q, q = n % m := ⟨_, rfl⟩
    have hqm : q < m := by rw [hq]; exact Nat.mod_lt n hpos
    obtain ⟨x, hx⟩ : ∃ x, l[q]? = some x := ⟨_, List.getElem?_eq_getElem (by rw [h.1]; exact hqm)⟩
    have hv : wordN l n = x := by unfold wordN; rw [h.1, ← hq, List.getD_eq_getElem?_getD, hx]; rfl
    rw [hv]
    have hc := h.2.2.1 q x hx
    have hx16 := h.2.2.2.2 x (List.mem_of_getElem? hx)
    have erem : (n : Int).tmod (m : Int) = (q : Int) := by rw [hq]; exact (Int.ofNat_tmod n m).symm
    have erem2 : (n : Int) % (m : Int) = (q : Int) := by rw [hq]; exact (Int.natCast_emod n m).symm
    have hmz : ¬ (m : Int) = 0 := by omega
    have hmz2 : ((m : Int) == 0) = false := by rw [beq_eq_false_iff_ne]; omega
    have hmz3 : ¬ m = 0 := by omega
    have b0 : (0 : Int) ≤ (q : Int) := by omega
    have b1 : (q : Int) < (m : Int) := by omega
    have en : IntKind.i64.wrap (n : Int) = (n : Int) := IntWalk.i64_in _ (by omega)
    have ex : IntKind.i64.wrap (x : Int) = (x : Int) := IntWalk.i64_in _ (by omega)
    clear h hx hq h0 hv hm
    go_enter Tryz.func31, Tryz.ntmps31
    go_wp2_with fail
    go_ret
    exact ⟨rfl, rfl⟩
set_option maxRecDepth 100000 in
set_option maxHeartbeats 3200000 in
theorem to_any (lo hi : Int) (w : World) : Calls Tryz.prog 38 #[rngV lo hi] w fun x w' => x = .returned (rngV lo hi) ∧ Below w.heap.size w w' := by
  obtain ⟨c1, c2, B2, hz⟩ := two_new w #[.int .i64 lo, .int .i64 hi] #[.int .i64 0, .int .i64 0] 38 48
  have BB := Lib.hid B2
  have C2 := Lib.hid c2
  have k0 := c1.cell 0
  have k1 := c1.cell 1
  have f0 := c2.cell 0
  have f1 := c2.cell 1
  have g0 := c2.frozen 0
  have g1 := c2.frozen 1
  have l0 := c2.lt
  clear c1 c2 B2 hz
  go_enter Tryz.func38, Tryz.ntmps38
  go_wp2_with fail
  have h2 := Blk.new (w.alloc (.cells #[.int .i64 lo, .int .i64 hi] 38)) #[.int .i64 lo, .int .i64 hi] 48
  simp only [World.size_alloc] at h2
  have r0 := h2.cell 0
  have r1 := h2.cell 1
  have rl := h2.lt
  refine bodyPost_ret (v := rngV lo hi) (by simp [results, Tryz.results38, go_sem, r0, r1, rl]) rfl ⟨rfl, ((Below.refl _ _).alloc (Nat.le_refl _) _).alloc (by simp) _⟩
set_option maxRecDepth 100000 in
set_option maxHeartbeats 3200000 in
theorem pairs_any (s : Loc) (n : Nat) (ps : List (Nat × Nat)) (w : World) (hn : ps.length = n) (hS : SlP w s ps) (h10 : n ≤ 10) :
    Calls Tryz.prog 37 #[.slice s.a n s.c] w fun e w' => ∃ v, e = .returned v ∧ w'.ownsRow w.heap.size 113 2 v n (pairsV ps) ∧ Below w.heap.size w w' := by
  obtain ⟨sa, sb, so, sc⟩ := s
  dsimp only
  have HS := Lib.hid hS
  have HN := Lib.hid hn
  obtain ⟨i0, hi0, hz0, hz1, hz2⟩ := info_parts Tryz.info113
  have HI := Lib.hid (And.intro hi0 (And.intro hz0 (And.intro hz1 hz2)))
  clear hS hn hi0 hz0 hz1 hz2
  go_enter Tryz.func37, Tryz.ntmps37
  go_wp2_with fail
  go_loopw [4, 3] (fun x v wr => ∃ i : Nat, i ≤ n ∧ x = .int .i64 (i : Int) ∧ Hid (wr.ownsRow w.heap.size 113 2 v i (pairsV (ps.take i)) ∧ Below w.heap.size w wr)) (fun x _ _ => n - (intOf x).toNat)
  case atStart => exact ⟨0, Nat.zero_le _, rfl, Lib.hid ⟨⟨rfl, .inl ⟨rfl, rfl⟩⟩, Below.refl _ _⟩⟩
  case round =>
    obtain ⟨i, hi, rfl, H⟩ := hrel
    by_cases hlt : i < n
    · obtain ⟨p, hp⟩ : ∃ p, ps[i]? = some p := ⟨_, List.getElem?_eq_getElem (by rw [HN.out]; exact hlt)⟩
      have hne : ps ≠ [] := by rintro rfl; simp at hp
      have hsa : sa = some ⟨sb, so, none⟩ := HS.out.at_ hne
      subst hsa
      have HP := Lib.hid hp
      obtain ⟨p0, p1⟩ := p
      have c0 : ∀ W, KS w [] W → W.cell? ⟨sb, so + i * 2, none⟩ = some (.int .i64 (p0 : Int)) := fun W h => (HS.out.cells.below h.bel (HS.out.lt hne) i (p0, p1) HP.out).1
      have c1 : ∀ W, KS w [] W → W.cell? ⟨sb, so + i * 2 + 1, none⟩ = some (.int .i64 (p1 : Int)) := fun W h => (HS.out.cells.below h.bel (HS.out.lt hne) i (p0, p1) HP.out).2
      have cl : ∀ W, KS w [] W → sb < W.heap.size := fun W h => Nat.lt_of_lt_of_le (HS.out.lt hne) h.size
      have b0 : (0 : Int) ≤ (i : Int) := by omega
      have b1 : (i : Int) < (n : Int) := by omega
      clear hp hne
      go_wp2_with fail
      have hS : KS w [] wr.drew := ⟨fun _ h => (by cases h), H.out.2.drew⟩
      refine wp_joinZ (ι := Nat × Value) (f := fun aa bb => (((((((((((((((aa.put (some 11) (u3)).put (some 12) (.slice (some ⟨sb, so, none⟩) n sc)).put (some 13) (.int .i64 (i : Int))).put (some 14) (.pointer (some ⟨sb, so + i * 2, none⟩))).put (some 15) (.pointer (some ⟨sb, so + i * 2, none⟩))).put (some 16) (.int .i64 (p0 : Int))).put (some 17) (.slice (some ⟨sb, so, none⟩) n sc)).put (some 18) (.int .i64 (i : Int))).put (some 19) (.pointer (some ⟨sb, so + i * 2, none⟩))).put (some 20) (.pointer (some ⟨sb, so + i * 2 + 1, none⟩))).put (some 21) (.int .i64 (p1 : Int))).put (some 22) (.agg (prA (p0, p1)))).put (some 23) (.slice (some ⟨bb.1, 0, none⟩) 1 1)).put (some 24) (bb.2)).put (some 3) (bb.2))) (mid := fun bb W' => W'.ownsRow w.heap.size 113 2 bb.2 (i + 1) (pairsV (ps.take (i + 1))) ∧ Below w.heap.size w W') ?_ ?_
      · refine wp_region_held_drew (S := KS w []) (by kernel_rfl) hS (fun hHeld => ?_)
        clear hS
        refine wpAnyH_take (i := 0) (v := ?_) rfl (by kernel_rfl) (by kernel_rfl) (by kernel_rfl) (fun _ _ _ h => (by cases h.1)) (Or.inl ⟨by rfl, ?h0⟩) hHeld ?_
        case h0 =>
          intro w' hSw
          (try dsimp only at hSw)
          go_simp
          (try with_reducible rfl)
        (try simp only [Act.put]); (try simp only [List.setIfInBounds_toArray]); (try simp only [List.set_cons_succ]); (try simp only [List.set_cons_zero])
        refine wpAnyH_take (i := 1) (v := ?_) rfl (by kernel_rfl) (by kernel_rfl) (by kernel_rfl) (fun _ _ _ h => (by cases h.1)) (Or.inl ⟨by rfl, ?h1⟩) hHeld ?_
        case h1 =>
          intro w' hSw
          (try dsimp only at hSw)
          go_simp
          (try with_reducible rfl)
        (try simp only [Act.put]); (try simp only [List.setIfInBounds_toArray]); (try simp only [List.set_cons_succ]); (try simp only [List.set_cons_zero])
        refine wpAnyH_take (i := 2) (v := ?_) rfl (by kernel_rfl) (by kernel_rfl) (by kernel_rfl) (fun _ _ _ h => (by cases h.1)) (Or.inl ⟨by rfl, ?h2⟩) hHeld ?_
        case h2 =>
          intro w' hSw
          (try dsimp only at hSw)
          go_simp
          (try with_reducible rfl)
        (try simp only [Act.put]); (try simp only [List.setIfInBounds_toArray]); (try simp only [List.set_cons_succ]); (try simp only [List.set_cons_zero])
        refine wpAnyH_take (i := 3) (v := ?_) rfl (by kernel_rfl) (by kernel_rfl) (by kernel_rfl) (fun _ _ _ h => (by cases h.1)) (Or.inl ⟨by rfl, ?h3⟩) hHeld ?_
        case h3 =>
          intro w' hSw
          (try dsimp only at hSw)
          go_simp
          (try with_reducible rfl)
        (try simp only [Act.put]); (try simp only [List.setIfInBounds_toArray]); (try simp only [List.set_cons_succ]); (try simp only [List.set_cons_zero])
        refine wpAnyH_take (i := 4) (v := ?_) rfl (by kernel_rfl) (by kernel_rfl) (by kernel_rfl) (fun _ _ _ h => (by cases h.1)) (Or.inl ⟨by rfl, ?h4⟩) hHeld ?_
        case h4 =>
          intro w' hSw
          (try dsimp only at hSw)
          go_simp
          (try with_reducible rfl)
        (try simp only [Act.put]); (try simp only [List.setIfInBounds_toArray]); (try simp only [List.set_cons_succ]); (try simp only [List.set_cons_zero])
        refine wpAnyH_take (i := 5) (v := ?_) rfl (by kernel_rfl) (by kernel_rfl) (by kernel_rfl) (fun _ _ _ h => (by cases h.1)) (Or.inl ⟨by rfl, ?h5⟩) hHeld ?_
        case h5 =>
          intro w' hSw
          (try dsimp only at hSw)
          go_simp
          (try with_reducible rfl)
        (try simp only [Act.put]); (try simp only [List.setIfInBounds_toArray]); (try simp only [List.set_cons_succ]); (try simp only [List.set_cons_zero])
        refine wpAnyH_take (i := 6) (v := ?_) rfl (by kernel_rfl) (by kernel_rfl) (by kernel_rfl) (fun _ _ _ h => (by cases h.1)) (Or.inl ⟨by rfl, ?h6⟩) hHeld ?_
        case h6 =>
          intro w' hSw
          (try dsimp only at hSw)
          go_simp
          (try with_reducible rfl)
        (try simp only [Act.put]); (try simp only [List.setIfInBounds_toArray]); (try simp only [List.set_cons_succ]); (try simp only [List.set_cons_zero])
        refine wpAnyH_take (i := 7) (v := ?_) rfl (by kernel_rfl) (by kernel_rfl) (by kernel_rfl) (fun _ _ _ h => (by cases h.1)) (Or.inl ⟨by rfl, ?h7⟩) hHeld ?_
        case h7 =>
          intro w' hSw
          (try dsimp only at hSw)
          go_simp
          (try with_reducible rfl)
        (try simp only [Act.put]); (try simp only [List.setIfInBounds_toArray]); (try simp only [List.set_cons_succ]); (try simp only [List.set_cons_zero])
        refine wpAnyH_take (i := 8) (v := ?_) rfl (by kernel_rfl) (by kernel_rfl) (by kernel_rfl) (fun _ _ _ h => (by cases h.1)) (Or.inl ⟨by rfl, ?h8⟩) hHeld ?_
        case h8 =>
          intro w' hSw
          (try dsimp only at hSw)
          go_simp
          (try with_reducible rfl)
        (try simp only [Act.put]); (try simp only [List.setIfInBounds_toArray]); (try simp only [List.set_cons_succ]); (try simp only [List.set_cons_zero])
        refine wpAnyH_take (i := 9) (v := ?_) rfl (by kernel_rfl) (by kernel_rfl) (by kernel_rfl) (fun _ _ _ h => (by cases h.1)) (Or.inl ⟨by rfl, ?h9⟩) hHeld ?_
        case h9 =>
          intro w' hSw
          (try dsimp only at hSw)
          go_simp
          (try with_reducible rfl)
        (try simp only [Act.put]); (try simp only [List.setIfInBounds_toArray]); (try simp only [List.set_cons_succ]); (try simp only [List.set_cons_zero])
        refine wpAnyH_take (i := 10) (v := ?_) rfl (by kernel_rfl) (by kernel_rfl) (by kernel_rfl) (fun _ _ _ h => (by cases h.1)) (Or.inl ⟨by rfl, ?h10⟩) hHeld ?_
        case h10 =>
          intro w' hSw
          (try dsimp only at hSw)
          go_simp
          (try with_reducible rfl)
        (try simp only [Act.put]); (try simp only [List.setIfInBounds_toArray]); (try simp only [List.set_cons_succ]); (try simp only [List.set_cons_zero])
        refine wpAnyH_take (i := 11) (v := ?_) rfl (by kernel_rfl) (by kernel_rfl) (by kernel_rfl) (fun _ _ _ h => (by cases h.1)) (Or.inl ⟨by rfl, ?h11⟩) hHeld ?_
        case h11 =>
          intro w' hSw
          (try dsimp only at hSw)
          go_simp
          (try with_reducible rfl)
        (try simp only [Act.put]); (try simp only [List.setIfInBounds_toArray]); (try simp only [List.set_cons_succ]); (try simp only [List.set_cons_zero])
        refine wpAnyH_ready (rs := [12]) (by kernel_rfl) (by simp) ?_
        refine AllReadyH.cons rfl (fun K hK => ?_) (AllReadyH.nil)
        go_simp
        have NB := Lib.hid ((Blk.new wr (prA (p0, p1)) 113).drew)
        have HO : Hid ((wr.alloc (.cells (prA (p0, p1)) 113)).drew.ownsRow w.heap.size 113 2 u3 i (pairsV (ps.take i)) ∧ Below w.heap.size w (wr.alloc (.cells (prA (p0, p1)) 113)).drew) := Lib.hid ⟨H.out.1.alloc _, (H.out.2.alloc H.out.2.size _).drew⟩
        refine hK.out _ _ (hHeld.alloc _) (fun hHeld => ?_)
        clear hK K
        (try simp only [Act.put]); (try simp only [List.setIfInBounds_toArray]); (try simp only [List.set_cons_succ]); (try simp only [List.set_cons_zero])
        refine wpAnyH_ready (rs := [13]) (by kernel_rfl) (by simp) ?_
        refine AllReadyH.cons rfl (fun K hK => ?_) (AllReadyH.nil)
        refine step_append_set rfl _ _ 52 rfl w.heap.size 113 i0 _ 2 16 Tryz.underlying52 HI.out.1 HI.out.2.1 HI.out.2.2.1 HI.out.2.2.2 rfl (by decide) u3 i (pairsV (ps.take i)) rfl HO.out.1 ⟨_, 0, none⟩ 1 1 [.int .i64 (p0 : Int), .int .i64 (p1 : Int)] rfl rfl (news_two NB.out) (by simp [Value.oneCell']) (by unfold maxLen; omega) (by omega) HO.out.2.size ?_
        intro v9 w9 hown hgr _
        have HX := Lib.hid (And.intro hown (HO.out.2.grown hgr HO.out.2.size (fun r e => (HO.out.1.lt r e).1)))
        clear hown hgr
        refine hK.out _ _ ⟨fun _ h => (by cases h), HX.out.2⟩ (fun hHeld => ?_)
        clear hK K
        (try simp only [Act.put]); (try simp only [List.setIfInBounds_toArray]); (try simp only [List.set_cons_succ]); (try simp only [List.set_cons_zero])
        refine wpAnyH_ready (rs := [14]) (by kernel_rfl) (by simp) ?_
        refine AllReadyH.cons rfl (fun K hK => ?_) (AllReadyH.nil)
        go_simp
        refine hK.out _ _ hHeld (fun hHeld => ?_)
        clear hK K
        (try simp only [Act.put]); (try simp only [List.setIfInBounds_toArray]); (try simp only [List.set_cons_succ]); (try simp only [List.set_cons_zero])
        refine wpAnyH_done (by kernel_rfl) ?_ _
        refine ⟨rfl, (_, _), rfl, ?_, HX.out.2⟩
        rw [List.take_add_one, HP.out, pairsV_app]
        exact HX.out.1
      rintro ⟨nb, v9⟩ W9 ⟨h1, h2⟩
      have HO := Lib.hid (And.intro h1 h2)
      clear h1 h2 hS c0 c1 cl
      simp only [Act.put, List.setIfInBounds_toArray, List.set_cons_zero, List.set_cons_succ]
      go_wp2_with fail
      go_roundw
      case rel => exact ⟨i + 1, by omega, by go_num, HO⟩
      case measure => simp [intOf]; omega
    · obtain rfl : i = n := by omega
      go_wp2_with fail
      go_ret
      have h := H.out.1
      rw [List.take_of_length_le (by rw [HN.out]; exact Nat.le_refl _)] at h
      exact ⟨_, rfl, h, H.out.2⟩
end Go.Proofs.YtdfebccmjbocjaaGreatDoor
