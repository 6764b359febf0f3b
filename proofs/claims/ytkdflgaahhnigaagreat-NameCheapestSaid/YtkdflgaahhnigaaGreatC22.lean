/- The reference's Costs. word; Steps. Steps, Back: copies of steps. -/
import Derived.Test.YtkdflgaahhnigaaGreatC17
import Derived.Test.YtkdflgaahhnigaaGreatC19
set_option linter.unusedVariables false
set_option linter.unusedSimpArgs false
namespace Go.Proofs.YtkdflgaahhnigaaGreat
open Go.RowKit Go.Shelf

/-- steps that lie in a row -/
def StepsAt (W : World) (b o : Nat) (l : List (Int × Int)) : Prop := ∀ i s, l[i]? = some s → W.cell? ⟨b, o + i * 2, none⟩ = some (.int .i64 s.1) ∧ W.cell? ⟨b, o + i * 2 + 1, none⟩ = some (.int .i64 s.2)
def StK (W : World) (a : Option Addr) (g o n : Nat) (l : List (Int × Int)) : Prop := l.length = n ∧ (l ≠ [] → a = some ⟨g, o, none⟩) ∧ StepsAt W g o l ∧ (l ≠ [] → g < W.heap.size)
theorem StK.below {W W' : World} {a : Option Addr} {g o n : Nat} {l : List (Int × Int)} (h : StK W a g o n l) (hb : Below W.heap.size W W') : StK W' a g o n l := by
  refine ⟨h.1, h.2.1, fun i s e => ?_, fun hx => Nat.lt_of_lt_of_le (h.2.2.2 hx) hb.size⟩
  have hx : l ≠ [] := by rintro rfl; simp at e
  have := h.2.2.1 i s e
  exact ⟨(hb.cell (p := ⟨g, _, none⟩) (h.2.2.2 hx)).trans this.1, (hb.cell (p := ⟨g, _, none⟩) (h.2.2.2 hx)).trans this.2⟩
def WS (R : RB) (x y : ByteArray) (l : List (Int × Int)) : Option (Nat × Nat × Nat) := Nm.walkS (SWR R x y) (SAR R x) (SAR R y) x.size y.size (0, 0, 0) l
def costsV (R : RB) (x y : ByteArray) (l : List (Int × Int)) : Int := Nm.costsR (SWR R x y) (SAR R x) (SAR R y) x.size y.size l
theorem WS_snoc {R : RB} {x y : ByteArray} {l : List (Int × Int)} {s : Int × Int} {j i k t : Nat} (h : WS R x y (l.take j) = some (i, k, t)) (hs : l[j]? = some s) : WS R x y (l.take (j + 1)) = Nm.step1 (SWR R x y) (SAR R x) (SAR R y) x.size y.size (i, k, t) s := by
  unfold WS at *
  rw [List.take_add_one, hs]
  show Nm.walkS _ _ _ _ _ _ (l.take j ++ [s]) = _
  rw [Nm.walkS_snoc, h]; rfl
theorem WS_none {R : RB} {x y : ByteArray} {l : List (Int × Int)} {j : Nat} (h : WS R x y (l.take (j + 1)) = none) : costsV R x y l = -1 := by
  unfold costsV Nm.costsR
  have e : Nm.walkS (SWR R x y) (SAR R x) (SAR R y) x.size y.size (0, 0, 0) l = none := by
    rw [← List.take_append_drop (j + 1) l, Nm.walkS_append]
    unfold WS at h
    rw [h]; rfl
  rw [e]
set_option maxRecDepth 100000 in
set_option maxHeartbeats 8000000 in
theorem rCosts45 (a : Option Addr) (g0 o0 c n : Nat) (R : RB) (w : World) (hN : R.cls.length = n) (hk : SK w a g0 o0 R.cls) (hg : Good R) (ht : Thn R) (x y : ByteArray) (hx : x.size ≤ 12) (hy : y.size ≤ 12) (aq : Option Addr) (g o cq q : Nat) (l : List (Int × Int)) (hst : StK w aq g o q l) (hq : q ≤ 1000) : Calls Tryz.prog 45 #[rulesV a n c R.soft R.al R.ot R.sk R.ss R.db, .string x, .string y, .slice aq q cq] w fun e w' => e = .returned (.int .i64 (costsV R x y l)) ∧ Below w.heap.size w w' := by
  have CX := Lib.hid (fun W (i : Nat) (hi : i < x.size) => Skip37 a n c R hg ht x (by omega) i hi W)
  have CY := Lib.hid (fun W (i : Nat) (hi : i < y.size) => Skip37 a n c R hg ht y (by omega) i hi W)
  have CW := Lib.hid (fun W (p q : UInt8) (hW : Below w.heap.size w W) => Swap62 a g0 o0 c n R W hN (hk.below hW) hg ht p q)
  have HSX := Lib.hid (SAR_le hg x)
  have HSY := Lib.hid (SAR_le hg y)
  have HSW := Lib.hid (SWR_le hg x y)
  have HST := Lib.hid hst
  have HMM := Lib.hid hst.1
  generalize hV : costsV R x y l = V
  have HV := Lib.hid hV
  have s0 := (KS.start w).new (rulesC a n c R.soft R.al R.ot R.sk R.ss R.db) 24
  have S0 := Lib.hid s0
  obtain ⟨kb0_0, kb0_1, kb0_2, kb0_3, kb0_4, kb0_5, kb0_6⟩ := (s0.blkAt 0 rfl).c7
  clear s0 hk hN hg ht hst hV
  go_enter Tryz.func45, Tryz.ntmps45
  go_wp2_with fail
  clear kb0_0 kb0_1 kb0_2 kb0_3 kb0_4 kb0_5 kb0_6
  go_loopw [9, 10, 11, 12] (fun y9 y10 y11 y12 wr => ∃ (j i k t : Nat), j ≤ q ∧ i ≤ x.size ∧ k ≤ y.size ∧ t ≤ 100 * j ∧ y12 = .int .i64 (j : Int) ∧ y9 = .int .i64 (i : Int) ∧ y10 = .int .i64 (k : Int) ∧ y11 = .int .i64 (t : Int) ∧ Hid (WS R x y (l.take j) = some (i, k, t) ∧ KS w [(w.heap.size, rulesC a n c R.soft R.al R.ot R.sk R.ss R.db, 24)] wr)) (fun _ _ _ y12 _ => q - (intOf y12).toNat)
  case atStart => exact ⟨0, 0, 0, 0, Nat.zero_le _, Nat.zero_le _, Nat.zero_le _, Nat.le_refl _, rfl, rfl, rfl, rfl, rfl, S0.out⟩
  case round =>
    clear S0
    obtain ⟨j, i, k, t, hj, hi, hk, ht, rfl, rfl, rfl, rfl, H⟩ := hrel
    by_cases hjq : j < q
    · have hne : l ≠ [] := by rintro rfl; have := HMM.out; simp at this; omega
      have e1 := HST.out.2.1 hne
      subst e1
      obtain ⟨⟨A, B⟩, hs⟩ : ∃ s, l[j]? = some s := ⟨_, List.getElem?_eq_getElem (by rw [HMM.out]; exact hjq)⟩
      have hc := (HST.out.below H.out.2.bel).2.2.1 j _ hs
      have kA := hc.1
      have kB := hc.2
      have HWS := Lib.hid (WS_snoc H.out.1 hs)
      have lt0 := H.out.2.lt 0 rfl
      have hgl := (HST.out.below H.out.2.bel).2.2.2 hne
      have pj0 : (0 : Int) ≤ (j : Int) := by omega
      have pj1 : (j : Int) < (q : Int) := by omega
      obtain ⟨kb0_0, kb0_1, kb0_2, kb0_3, kb0_4, kb0_5, kb0_6⟩ := (H.out.2.blkAt 0 rfl).c7
      clear hs hc hne
      by_cases hA : A = (i : Int)
      · have tA : (A == (i : Int)) = true := by rw [beq_iff_eq]; omega
        have tA1 : (A == -1) = false := by rw [beq_eq_false_iff_ne]; omega
        by_cases hB : B = (k : Int)
        · have tB : (B == (k : Int)) = true := by rw [beq_iff_eq]; omega
          have tB1 : (B == -1) = false := by rw [beq_eq_false_iff_ne]; omega
          by_cases hi2 : i < x.size
          · have pi : (i : Int) < (x.size : Int) := by omega
            by_cases hk2 : k < y.size
            · have pk : (k : Int) < (y.size : Int) := by omega
              obtain ⟨sv, hsv⟩ : ∃ s, s = SWR R x y i k := ⟨_, rfl⟩
              have hsl : sv ≤ 100 := by rw [hsv]; exact HSW.out i k
              have HN2 := Lib.hid (show WS R x y (l.take (j + 1)) = some (i + 1, k + 1, t + sv) by rw [HWS.out, hsv]; unfold Nm.step1; rw [if_pos (by simp only; omega)])
              obtain ⟨t2, ht2⟩ : ∃ u, u = t + sv := ⟨_, rfl⟩
              rw [← ht2] at HN2
              have ea : (t : Int) + (sv : Int) = (t2 : Int) := by omega
              have eb : IntKind.i64.wrap (t2 : Int) = (t2 : Int) := IntWalk.i64_in _ (by omega)
              have ht3 : t2 ≤ 100 * (j + 1) := by omega
              have hsw : swN (sndR R) R.al.toNat R.ot.toNat x[i] y[k] = sv := by rw [hsv]; unfold SWR SW; rw [getD_size x i hi2, getD_size y k hk2]
              have CC := Lib.hid (fun W (hW : Below w.heap.size w W) => CW.out W x[i] y[k] hW)
              rw [hsw] at CC
              have qi0 : (0 : Int) ≤ (i : Int) := by omega
              have qk0 : (0 : Int) ≤ (k : Int) := by omega
              clear hsv ht2 hsw hA hB
              go_wp2_with fail
              obtain ⟨BS, hBS⟩ : ∃ BS : List (Nat × Array Value × TypeId), BS = [(w.heap.size, rulesC a n c R.soft R.al R.ot R.sk R.ss R.db, 24)] := ⟨_, rfl⟩
              have hS : KS w BS (wr.alloc (.cells #[.int .i64 A, .int .i64 B] 124)).drew := by rw [hBS]; exact (H.out.2.alloc _).drew
              have K0 : ∀ W, KS w BS W → W.cell? ⟨w.heap.size, 0, none⟩ = some (.slice a n c) := fun W h => by rw [hBS] at h; exact (h.blkAt 0 rfl).cell 0
              have K1 : ∀ W, KS w BS W → W.cell? ⟨w.heap.size, 1, none⟩ = some (.string R.soft) := fun W h => by rw [hBS] at h; exact (h.blkAt 0 rfl).cell 1
              have K2 : ∀ W, KS w BS W → W.cell? ⟨w.heap.size, 2, none⟩ = some (.int .i64 R.al) := fun W h => by rw [hBS] at h; exact (h.blkAt 0 rfl).cell 2
              have K3 : ∀ W, KS w BS W → W.cell? ⟨w.heap.size, 3, none⟩ = some (.int .i64 R.ot) := fun W h => by rw [hBS] at h; exact (h.blkAt 0 rfl).cell 3
              have K4 : ∀ W, KS w BS W → W.cell? ⟨w.heap.size, 4, none⟩ = some (.int .i64 R.sk) := fun W h => by rw [hBS] at h; exact (h.blkAt 0 rfl).cell 4
              have K5 : ∀ W, KS w BS W → W.cell? ⟨w.heap.size, 5, none⟩ = some (.int .i64 R.ss) := fun W h => by rw [hBS] at h; exact (h.blkAt 0 rfl).cell 5
              have K6 : ∀ W, KS w BS W → W.cell? ⟨w.heap.size, 6, none⟩ = some (.int .i64 R.db) := fun W h => by rw [hBS] at h; exact (h.blkAt 0 rfl).cell 6
              have HBS := Lib.hid hBS
              clear hBS
              refine wp_region_held_drew (S := KS w BS) (by kernel_rfl) hS (fun hHeld => ?_)
              clear hS
              refine wpAnyH_take (i := 0) (v := ?_) rfl (by kernel_rfl) (by kernel_rfl) (by kernel_rfl) (fun _ _ _ h => h) (Or.inl ⟨by rfl, ?h0⟩) hHeld ?_
              case h0 =>
                intro w' hSw
                (try dsimp only at hSw)
                go_simp
                (try with_reducible rfl)
              (try simp only [Act.put]); (try simp only [List.setIfInBounds_toArray]); (try simp only [List.set_cons_succ]); (try simp only [List.set_cons_zero])
              refine wpAnyH_take (i := 1) (v := ?_) rfl (by kernel_rfl) (by kernel_rfl) (by kernel_rfl) (fun _ _ _ h => h) (Or.inl ⟨by rfl, ?h1⟩) hHeld ?_
              case h1 =>
                intro w' hSw
                (try dsimp only at hSw)
                go_simp
                (try with_reducible rfl)
              (try simp only [Act.put]); (try simp only [List.setIfInBounds_toArray]); (try simp only [List.set_cons_succ]); (try simp only [List.set_cons_zero])
              refine wpAnyH_take (i := 2) (v := ?_) rfl (by kernel_rfl) (by kernel_rfl) (by kernel_rfl) (fun _ _ _ h => h) (Or.inl ⟨by rfl, ?h2⟩) hHeld ?_
              case h2 =>
                intro w' hSw
                (try dsimp only at hSw)
                go_simp
                (try with_reducible rfl)
              (try simp only [Act.put]); (try simp only [List.setIfInBounds_toArray]); (try simp only [List.set_cons_succ]); (try simp only [List.set_cons_zero])
              refine wpAnyH_take (i := 3) (v := ?_) rfl (by kernel_rfl) (by kernel_rfl) (by kernel_rfl) (fun _ _ _ h => h) (Or.inl ⟨by rfl, ?h3⟩) hHeld ?_
              case h3 =>
                intro w' hSw
                (try dsimp only at hSw)
                go_simp
                (try with_reducible rfl)
              (try simp only [Act.put]); (try simp only [List.setIfInBounds_toArray]); (try simp only [List.set_cons_succ]); (try simp only [List.set_cons_zero])
              refine wpAnyH_take (i := 4) (v := ?_) rfl (by kernel_rfl) (by kernel_rfl) (by kernel_rfl) (fun _ _ _ h => h) (Or.inl ⟨by rfl, ?h4⟩) hHeld ?_
              case h4 =>
                intro w' hSw
                (try dsimp only at hSw)
                go_simp
                (try with_reducible rfl)
              (try simp only [Act.put]); (try simp only [List.setIfInBounds_toArray]); (try simp only [List.set_cons_succ]); (try simp only [List.set_cons_zero])
              refine wpAnyH_take (i := 5) (v := ?_) rfl (by kernel_rfl) (by kernel_rfl) (by kernel_rfl) (fun _ _ _ h => h) (Or.inl ⟨by rfl, ?h5⟩) hHeld ?_
              case h5 =>
                intro w' hSw
                (try dsimp only at hSw)
                go_simp
                (try with_reducible rfl)
              (try simp only [Act.put]); (try simp only [List.setIfInBounds_toArray]); (try simp only [List.set_cons_succ]); (try simp only [List.set_cons_zero])
              refine wpAnyH_take (i := 6) (v := ?_) rfl (by kernel_rfl) (by kernel_rfl) (by kernel_rfl) (fun _ _ _ h => h) (Or.inl ⟨by rfl, ?h6⟩) hHeld ?_
              case h6 =>
                intro w' hSw
                (try dsimp only at hSw)
                go_simp
                (try with_reducible rfl)
              (try simp only [Act.put]); (try simp only [List.setIfInBounds_toArray]); (try simp only [List.set_cons_succ]); (try simp only [List.set_cons_zero])
              refine wpAnyH_take (i := 7) (v := ?_) rfl (by kernel_rfl) (by kernel_rfl) (by kernel_rfl) (fun _ _ _ h => h) (Or.inl ⟨by rfl, ?h7⟩) hHeld ?_
              case h7 =>
                intro w' hSw
                (try dsimp only at hSw)
                go_simp
                (try with_reducible rfl)
              (try simp only [Act.put]); (try simp only [List.setIfInBounds_toArray]); (try simp only [List.set_cons_succ]); (try simp only [List.set_cons_zero])
              refine wpAnyH_ready (rs := [8]) (by kernel_rfl) (by simp) ?_
              refine AllReadyH.cons rfl (fun K hK => ?_) (AllReadyH.nil)
              go_simp
              (refine (CC.out _ hHeld.bel).mono ?_)
              rintro e w3 ⟨rfl, hb⟩
              have hS2 := hHeld.below hb
              clear hb
              refine hK.out _ _ hS2 (fun hHeld => ?_)
              clear hK K hS2
              (try simp only [Act.put]); (try simp only [List.setIfInBounds_toArray]); (try simp only [List.set_cons_succ]); (try simp only [List.set_cons_zero])
              refine wpAnyH_take (i := 9) (v := ?_) rfl (by kernel_rfl) (by kernel_rfl) (by kernel_rfl) (fun _ _ _ h => h) (Or.inl ⟨by rfl, ?h9⟩) hHeld ?_
              case h9 =>
                intro w' hSw
                (try dsimp only at hSw)
                go_simp
                (try with_reducible rfl)
              (try simp only [Act.put]); (try simp only [List.setIfInBounds_toArray]); (try simp only [List.set_cons_succ]); (try simp only [List.set_cons_zero])
              refine wpAnyH_ready (rs := [10]) (by kernel_rfl) (by simp) ?_
              refine AllReadyH.cons rfl (fun K hK => ?_) (AllReadyH.nil)
              go_simp
              refine hK.out _ _ hHeld (fun hHeld => ?_)
              clear hK K
              (try simp only [Act.put]); (try simp only [List.setIfInBounds_toArray]); (try simp only [List.set_cons_succ]); (try simp only [List.set_cons_zero])
              refine wpAnyH_done (by kernel_rfl) ?_ _
              have hs7 := hHeld
              rw [HBS.out] at hs7
              have S7 := Lib.hid hs7
              clear hHeld hs7 K0 K1 K2 K3 K4 K5 K6 HBS
              go_wp2_with fail
              go_roundw
              case rel => exact ⟨j + 1, i + 1, k + 1, t2, by omega, by omega, by omega, ht3, by go_num, by go_num, by go_num, rfl, HN2.out, S7.out⟩
              case measure => simp [intOf]; omega
            · have pk : ¬ (k : Int) < (y.size : Int) := by omega
              have hv : V = -1 := by rw [← HV.out]; exact WS_none (j := j) (by rw [HWS.out]; unfold Nm.step1; rw [if_neg (by simp only; omega), if_neg (by simp only; omega), if_neg (by simp only; omega)])
              subst hv
              clear hA hB hk2
              go_wp2_with fail
              go_ret
              exact ⟨rfl, (H.out.2.alloc _).bel⟩
          · have pi : ¬ (i : Int) < (x.size : Int) := by omega
            have hv : V = -1 := by rw [← HV.out]; exact WS_none (j := j) (by rw [HWS.out]; unfold Nm.step1; rw [if_neg (by simp only; omega), if_neg (by simp only; omega), if_neg (by simp only; omega)])
            subst hv
            clear hA hB hi2
            go_wp2_with fail
            go_ret
            exact ⟨rfl, (H.out.2.alloc _).bel⟩
        · have tB : (B == (k : Int)) = false := by rw [beq_eq_false_iff_ne]; omega
          by_cases hB1 : B = -1
          · have tB1 : (B == -1) = true := by rw [beq_iff_eq]; omega
            by_cases hi2 : i < x.size
            · have pi : (i : Int) < (x.size : Int) := by omega
              obtain ⟨sv, hsv⟩ : ∃ s, s = SAR R x i := ⟨_, rfl⟩
              have hsl : sv ≤ 100 := by rw [hsv]; exact HSX.out i
              have HN2 := Lib.hid (show WS R x y (l.take (j + 1)) = some (i + 1, k, t + sv) by rw [HWS.out, hsv]; unfold Nm.step1; rw [if_neg (by simp only; omega), if_pos (by simp only; omega)])
              obtain ⟨t2, ht2⟩ : ∃ u, u = t + sv := ⟨_, rfl⟩
              rw [← ht2] at HN2
              have ea : (t : Int) + (sv : Int) = (t2 : Int) := by omega
              have eb : IntKind.i64.wrap (t2 : Int) = (t2 : Int) := IntWalk.i64_in _ (by omega)
              have ht3 : t2 ≤ 100 * (j + 1) := by omega
              have CC := Lib.hid (fun W => CX.out W i hi2)
              rw [← hsv] at CC
              clear hsv ht2 hA hB hB1
              go_wp2_with fail
              refine (CC.out _).mono ?_
              rintro e w3 ⟨rfl, hb⟩
              have S7 := Lib.hid ((H.out.2.alloc (.cells #[.int .i64 A, .int .i64 B] 124)).below hb)
              clear hb
              go_wp2_with fail
              go_roundw
              case rel => exact ⟨j + 1, i + 1, k, t2, by omega, by omega, by omega, ht3, by go_num, by go_num, by rfl, rfl, HN2.out, S7.out⟩
              case measure => simp [intOf]; omega
            · have pi : ¬ (i : Int) < (x.size : Int) := by omega
              have hv : V = -1 := by rw [← HV.out]; exact WS_none (j := j) (by rw [HWS.out]; unfold Nm.step1; rw [if_neg (by simp only; omega), if_neg (by simp only; omega), if_neg (by simp only; omega)])
              subst hv
              clear hA hB hB1 hi2
              go_wp2_with fail
              go_ret
              exact ⟨rfl, (H.out.2.alloc _).bel⟩
          · have tB1 : (B == -1) = false := by rw [beq_eq_false_iff_ne]; omega
            have hv : V = -1 := by rw [← HV.out]; exact WS_none (j := j) (by rw [HWS.out]; unfold Nm.step1; rw [if_neg (by simp only; omega), if_neg (by simp only; omega), if_neg (by simp only; omega)])
            subst hv
            clear hA hB hB1
            go_wp2_with fail
            go_ret
            exact ⟨rfl, (H.out.2.alloc _).bel⟩
      · have tA : (A == (i : Int)) = false := by rw [beq_eq_false_iff_ne]; omega
        by_cases hA1 : A = -1
        · have tA1 : (A == -1) = true := by rw [beq_iff_eq]; omega
          by_cases hB : B = (k : Int)
          · have tB : (B == (k : Int)) = true := by rw [beq_iff_eq]; omega
            by_cases hk2 : k < y.size
            · have pk : (k : Int) < (y.size : Int) := by omega
              obtain ⟨sv, hsv⟩ : ∃ s, s = SAR R y k := ⟨_, rfl⟩
              have hsl : sv ≤ 100 := by rw [hsv]; exact HSY.out k
              have HN2 := Lib.hid (show WS R x y (l.take (j + 1)) = some (i, k + 1, t + sv) by rw [HWS.out, hsv]; unfold Nm.step1; rw [if_neg (by simp only; omega), if_neg (by simp only; omega), if_pos (by simp only; omega)])
              obtain ⟨t2, ht2⟩ : ∃ u, u = t + sv := ⟨_, rfl⟩
              rw [← ht2] at HN2
              have ea : (t : Int) + (sv : Int) = (t2 : Int) := by omega
              have eb : IntKind.i64.wrap (t2 : Int) = (t2 : Int) := IntWalk.i64_in _ (by omega)
              have ht3 : t2 ≤ 100 * (j + 1) := by omega
              have CC := Lib.hid (fun W => CY.out W k hk2)
              rw [← hsv] at CC
              clear hsv ht2 hA hA1 hB
              go_wp2_with fail
              refine (CC.out _).mono ?_
              rintro e w3 ⟨rfl, hb⟩
              have S7 := Lib.hid ((H.out.2.alloc (.cells #[.int .i64 A, .int .i64 B] 124)).below hb)
              clear hb
              go_wp2_with fail
              go_roundw
              case rel => exact ⟨j + 1, i, k + 1, t2, by omega, by omega, by omega, ht3, by go_num, by rfl, by go_num, rfl, HN2.out, S7.out⟩
              case measure => simp [intOf]; omega
            · have pk : ¬ (k : Int) < (y.size : Int) := by omega
              have hv : V = -1 := by rw [← HV.out]; exact WS_none (j := j) (by rw [HWS.out]; unfold Nm.step1; rw [if_neg (by simp only; omega), if_neg (by simp only; omega), if_neg (by simp only; omega)])
              subst hv
              clear hA hA1 hB hk2
              go_wp2_with fail
              go_ret
              exact ⟨rfl, (H.out.2.alloc _).bel⟩
          · have tB : (B == (k : Int)) = false := by rw [beq_eq_false_iff_ne]; omega
            have hv : V = -1 := by rw [← HV.out]; exact WS_none (j := j) (by rw [HWS.out]; unfold Nm.step1; rw [if_neg (by simp only; omega), if_neg (by simp only; omega), if_neg (by simp only; omega)])
            subst hv
            clear hA hA1 hB
            go_wp2_with fail
            go_ret
            exact ⟨rfl, (H.out.2.alloc _).bel⟩
        · have tA1 : (A == -1) = false := by rw [beq_eq_false_iff_ne]; omega
          have hv : V = -1 := by rw [← HV.out]; exact WS_none (j := j) (by rw [HWS.out]; unfold Nm.step1; rw [if_neg (by simp only; omega), if_neg (by simp only; omega), if_neg (by simp only; omega)])
          subst hv
          clear hA hA1
          go_wp2_with fail
          go_ret
          exact ⟨rfl, (H.out.2.alloc _).bel⟩
    · have hj2 : j = q := by omega
      have hws := H.out.1
      rw [List.take_of_length_le (by rw [HMM.out]; omega)] at hws
      have hv : V = if i < x.size ∨ k < y.size then -1 else (t : Int) := by
        rw [← HV.out]; unfold costsV Nm.costsR; unfold WS at hws; rw [hws]
      have pjq : ¬ (j : Int) < (q : Int) := by omega
      clear hj2 hws
      by_cases h1 : i < x.size
      · rw [if_pos (.inl h1)] at hv
        subst hv
        have p1 : (i : Int) < (x.size : Int) := by omega
        go_wp2_with fail
        go_ret
        exact ⟨rfl, H.out.2.bel⟩
      · have p1 : ¬ (i : Int) < (x.size : Int) := by omega
        by_cases h2 : k < y.size
        · rw [if_pos (.inr h2)] at hv
          subst hv
          have p2 : (k : Int) < (y.size : Int) := by omega
          go_wp2_with fail
          go_ret
          exact ⟨rfl, H.out.2.bel⟩
        · rw [if_neg (by omega)] at hv
          subst hv
          have p2 : ¬ (k : Int) < (y.size : Int) := by omega
          go_wp2_with fail
          go_ret
          exact ⟨rfl, H.out.2.bel⟩
end Go.Proofs.YtkdflgaahhnigaaGreat

namespace Go.Proofs.YtkdflgaahhnigaaGreat
open Go.RowKit Go.Shelf

/-- small numbers that lie in a row -/
def U16K (W : World) (a : Option Addr) (g o n : Nat) (l : List Nat) : Prop := l.length = n ∧ (l ≠ [] → a = some ⟨g, o, none⟩) ∧ (∀ (i x : Nat), l[i]? = some x → W.cell? ⟨g, o + i, none⟩ = some (.int .u16 (x : Int))) ∧ (l ≠ [] → g < W.heap.size) ∧ ∀ x, x ∈ l → x < 65536
theorem U16K.below {W W' : World} {a : Option Addr} {g o n : Nat} {l : List Nat} (h : U16K W a g o n l) (hb : Below W.heap.size W W') : U16K W' a g o n l := by
  refine ⟨h.1, h.2.1, fun i x e => ?_, fun hx => Nat.lt_of_lt_of_le (h.2.2.2.1 hx) hb.size, h.2.2.2.2⟩
  have hx : l ≠ [] := by rintro rfl; simp at e
  exact (hb.cell (p := ⟨g, _, none⟩) (h.2.2.2.1 hx)).trans (h.2.2.1 i x e)
def wordN (l : List Nat) (n : Nat) : Nat := l.getD (n % l.length) 0
set_option maxRecDepth 100000 in
set_option maxHeartbeats 1000000 in
theorem word79 (a : Option Addr) (g o c m : Nat) (l : List Nat) (n : Nat) (w : World) (h : U16K w a g o m l) (hm : m ≤ 9223372036854775807) (hn : n ≤ 1000000) : Calls Tryz.prog 79 #[.slice a m c, .int .i64 (n : Int)] w fun e w' => e = .returned (.int .i64 (wordN l n : Nat)) ∧ w' = w := by
  by_cases h0 : l = []
  · have hm0 : m = 0 := by rw [← h.1, h0]; rfl
    have hv : wordN l n = 0 := by unfold wordN; rw [h0]; simp
    rw [hv]
    subst hm0
    clear h hm hn h0 hv
    go_enter Tryz.func79, Tryz.ntmps79
    go_wp2_with fail
    go_ret
    exact ⟨rfl, rfl⟩
  · have e1 := h.2.1 h0
    subst e1
    have hpos : 0 < m := by rw [← h.1]; exact List.length_pos_iff.2 h0
    obtain ⟨q, hq⟩ : ∃ q, q = n % m := ⟨_, rfl⟩
    have hqm : q < m := by rw [hq]; exact Nat.mod_lt n hpos
    obtain ⟨x, hx⟩ : ∃ x, l[q]? = some x := ⟨_, List.getElem?_eq_getElem (by rw [h.1]; exact hqm)⟩
    have hv : wordN l n = x := by unfold wordN; rw [h.1, ← hq, List.getD_eq_getElem?_getD, hx]; rfl
    rw [hv]
    have hc := h.2.2.1 q x hx
    have hx16 := h.2.2.2.2 x (List.mem_of_getElem? hx)
    have erem : (n : Int).tmod (m : Int) = (q : Int) := by rw [hq]; exact (Int.ofNat_tmod n m).symm
    have erem2 : (n : Int) % (m : Int) = (q : Int) := by rw [hq]; exact (Int.natCast_emod n m).symm
    have hmz : ¬ (m : Int) = 0 := by omega
    have hmz2 : ((m : Int) == 0) = false := by rw [beq_eq_false_iff_ne]; omega
    have hmz3 : ¬ m = 0 := by omega
    have b0 : (0 : Int) ≤ (q : Int) := by omega
    have b1 : (q : Int) < (m : Int) := by omega
    have en : IntKind.i64.wrap (n : Int) = (n : Int) := IntWalk.i64_in _ (by omega)
    have ex : IntKind.i64.wrap (x : Int) = (x : Int) := IntWalk.i64_in _ (by omega)
    clear h hx hq h0 hv hm
    go_enter Tryz.func79, Tryz.ntmps79
    go_wp2_with fail
    go_ret
    exact ⟨rfl, rfl⟩
end Go.Proofs.YtkdflgaahhnigaaGreat

namespace Go.Proofs.YtkdflgaahhnigaaGreat
open Go.RowKit Go.Shelf

def stepsV (l : List (Int × Int)) : List Value := l.flatMap fun s => [.int .i64 s.1, .int .i64 s.2]
theorem stepsV_snoc (l : List (Int × Int)) (s : Int × Int) : stepsV (l ++ [s]) = stepsV l ++ [.int .i64 s.1, .int .i64 s.2] := by simp [stepsV]
theorem stepsV_len (l : List (Int × Int)) : (stepsV l).length = l.length * 2 := by
  induction l with
  | nil => rfl
  | cons s l ih => simp [stepsV] at *; omega
theorem news_two {W : World} {nb : Nat} {x y : Value} (h0 : W.cell? ⟨nb, 0, none⟩ = some x) (h1 : W.cell? ⟨nb, 1, none⟩ = some y) : ∀ (j : Nat) (u : Value), ([x, y] : List Value)[j]? = some u → W.cell? ((⟨nb, 0, none⟩ : Addr).add j) = some u := fun j u hj => by
  match j with
  | 0 => simp at hj; subst hj; simpa [Addr.add] using h0
  | 1 => simp at hj; subst hj; simpa [Addr.add] using h1
  | k+2 => simp at hj
theorem stepsV_get : ∀ (l : List (Int × Int)) (i : Nat) (s : Int × Int), l[i]? = some s → (stepsV l)[i * 2]? = some (.int .i64 s.1) ∧ (stepsV l)[i * 2 + 1]? = some (.int .i64 s.2)
  | [], i, s, h => by simp at h
  | t :: l, 0, s, h => by simp at h; subst h; exact ⟨rfl, rfl⟩
  | t :: l, i+1, s, h => by
    have ih := stepsV_get l i s (by simpa using h)
    have e1 : (i + 1) * 2 = i * 2 + 1 + 1 := by omega
    have e : stepsV (t :: l) = .int .i64 t.1 :: .int .i64 t.2 :: stepsV l := rfl
    rw [e, e1]
    exact ⟨by simpa using ih.1, by simpa using ih.2⟩
theorem tInfo122 : (Tryz.prog.info? 122).map (fun i => (i.zero, i.size, i.bytes)) = some (some (.agg #[.int .i64 0, .int .i64 0]), 2, 16) := by kernel_rfl
theorem stk_own122 {W : World} {B n : Nat} {v : Value} {l : List (Int × Int)} (h : W.ownsRow B 122 2 v n (stepsV l)) : ∃ a g c, v = .slice a n c ∧ StK W a g 0 n l := by
  have hl : l.length = n := by have := h.1; rw [stepsV_len] at this; omega
  rcases Joins.ownsRow_forms h with ⟨rfl, rfl⟩ | ⟨g, c, rfl⟩
  · have e : l = [] := List.eq_nil_of_length_eq_zero hl
    subst e
    exact ⟨none, 0, 0, rfl, rfl, fun h => absurd rfl h, fun i x e => by simp at e, fun h => absurd rfl h⟩
  · refine ⟨_, g, c, rfl, hl, fun _ => rfl, fun i s e => ?_, fun _ => (h.lt g rfl).2⟩
    have hi := (List.getElem?_eq_some_iff.1 e).1
    obtain ⟨k1, k2⟩ := stepsV_get l i s e
    rw [Nat.zero_add, h.cellAt (i * 2) (by omega), h.cellAt (i * 2 + 1) (by omega)]
    exact ⟨k1, k2⟩
set_option maxRecDepth 100000 in
set_option maxHeartbeats 2000000 in
theorem Steps44 (a : Option Addr) (g o c q : Nat) (l : List (Int × Int)) (w : World) (hst : StK w a g o q l) (hq : q ≤ 1000) : Calls Tryz.prog 44 #[.slice a q c] w fun e w' => ∃ v, e = .returned v ∧ w'.ownsRow w.heap.size 122 2 v q (stepsV l) ∧ Below w.heap.size w w' := by
  have HST := Lib.hid hst
  have HMM := Lib.hid hst.1
  obtain ⟨i0, hi0, hz0, hz1, hz2⟩ := info_parts tInfo122
  have HI := Lib.hid (And.intro hi0 (And.intro hz0 (And.intro hz1 hz2)))
  clear hst hi0 hz0 hz1 hz2
  go_enter Tryz.func44, Tryz.ntmps44
  go_wp2_with fail
  go_loopw [3, 4] (fun y3 y4 wr => ∃ j : Nat, j ≤ q ∧ y4 = .int .i64 (j : Int) ∧ Hid (wr.ownsRow w.heap.size 122 2 y3 j (stepsV (l.take j)) ∧ KS w [] wr)) (fun _ y4 _ => q - (intOf y4).toNat)
  case atStart => exact ⟨0, Nat.zero_le _, rfl, World.ownsRow_nil _ _ _ _, KS.start w⟩
  case round =>
    obtain ⟨j, hj, rfl, H⟩ := hrel
    by_cases hjq : j < q
    · have hne : l ≠ [] := by rintro rfl; have := HMM.out; simp at this; omega
      have e1 := HST.out.2.1 hne
      subst e1
      obtain ⟨⟨A, B⟩, hs⟩ : ∃ s, l[j]? = some s := ⟨_, List.getElem?_eq_getElem (by rw [HMM.out]; exact hjq)⟩
      have HS := Lib.hid hs
      have htk : l.take (j + 1) = l.take j ++ [(A, B)] := by rw [List.take_add_one, hs]; rfl
      have HTK := Lib.hid htk
      have pj0 : (0 : Int) ≤ (j : Int) := by omega
      have pj1 : (j : Int) < (q : Int) := by omega
      clear hs hne htk
      go_wp2_with fail
      obtain ⟨BS, hBS⟩ : ∃ BS : List (Nat × Array Value × TypeId), BS = [] := ⟨_, rfl⟩
      have hS : KS w BS wr.drew := by rw [hBS]; exact H.out.2.drew
      have L0 : ∀ W, KS w BS W → W.cell? ⟨g, o + j * 2, none⟩ = some (.int .i64 A) := fun W h => ((HST.out.below h.bel).2.2.1 j _ HS.out).1
      have L1 : ∀ W, KS w BS W → W.cell? ⟨g, o + j * 2 + 1, none⟩ = some (.int .i64 B) := fun W h => ((HST.out.below h.bel).2.2.1 j _ HS.out).2
      have HBS := Lib.hid hBS
      clear hBS
      refine wp_region_held_drew (S := KS w BS) (by kernel_rfl) hS (fun hHeld => ?_)
      clear hS
      refine wpAnyH_take (i := 0) (v := ?_) rfl (by kernel_rfl) (by kernel_rfl) (by kernel_rfl) (fun _ _ _ h => h) (Or.inl ⟨by rfl, ?h0⟩) hHeld ?_
      case h0 =>
        intro w' hSw
        (try dsimp only at hSw)
        go_simp
        (try with_reducible rfl)
      (try simp only [Act.put]); (try simp only [List.setIfInBounds_toArray]); (try simp only [List.set_cons_succ]); (try simp only [List.set_cons_zero])
      refine wpAnyH_take (i := 1) (v := ?_) rfl (by kernel_rfl) (by kernel_rfl) (by kernel_rfl) (fun _ _ _ h => h) (Or.inl ⟨by rfl, ?h1⟩) hHeld ?_
      case h1 =>
        intro w' hSw
        (try dsimp only at hSw)
        go_simp
        (try with_reducible rfl)
      (try simp only [Act.put]); (try simp only [List.setIfInBounds_toArray]); (try simp only [List.set_cons_succ]); (try simp only [List.set_cons_zero])
      refine wpAnyH_take (i := 2) (v := ?_) rfl (by kernel_rfl) (by kernel_rfl) (by kernel_rfl) (fun _ _ _ h => h) (Or.inl ⟨by rfl, ?h2⟩) hHeld ?_
      case h2 =>
        intro w' hSw
        (try dsimp only at hSw)
        go_simp
        (try with_reducible rfl)
      (try simp only [Act.put]); (try simp only [List.setIfInBounds_toArray]); (try simp only [List.set_cons_succ]); (try simp only [List.set_cons_zero])
      refine wpAnyH_take (i := 3) (v := ?_) rfl (by kernel_rfl) (by kernel_rfl) (by kernel_rfl) (fun _ _ _ h => h) (Or.inl ⟨by rfl, ?h3⟩) hHeld ?_
      case h3 =>
        intro w' hSw
        (try dsimp only at hSw)
        go_simp
        (try with_reducible rfl)
      (try simp only [Act.put]); (try simp only [List.setIfInBounds_toArray]); (try simp only [List.set_cons_succ]); (try simp only [List.set_cons_zero])
      refine wpAnyH_take (i := 4) (v := ?_) rfl (by kernel_rfl) (by kernel_rfl) (by kernel_rfl) (fun _ _ _ h => h) (Or.inl ⟨by rfl, ?h4⟩) hHeld ?_
      case h4 =>
        intro w' hSw
        (try dsimp only at hSw)
        go_simp
        (try with_reducible rfl)
      (try simp only [Act.put]); (try simp only [List.setIfInBounds_toArray]); (try simp only [List.set_cons_succ]); (try simp only [List.set_cons_zero])
      refine wpAnyH_take (i := 5) (v := ?_) rfl (by kernel_rfl) (by kernel_rfl) (by kernel_rfl) (fun _ _ _ h => h) (Or.inl ⟨by rfl, ?h5⟩) hHeld ?_
      case h5 =>
        intro w' hSw
        (try dsimp only at hSw)
        go_simp
        (try with_reducible rfl)
      (try simp only [Act.put]); (try simp only [List.setIfInBounds_toArray]); (try simp only [List.set_cons_succ]); (try simp only [List.set_cons_zero])
      refine wpAnyH_take (i := 6) (v := ?_) rfl (by kernel_rfl) (by kernel_rfl) (by kernel_rfl) (fun _ _ _ h => h) (Or.inl ⟨by rfl, ?h6⟩) hHeld ?_
      case h6 =>
        intro w' hSw
        (try dsimp only at hSw)
        go_simp
        (try with_reducible rfl)
      (try simp only [Act.put]); (try simp only [List.setIfInBounds_toArray]); (try simp only [List.set_cons_succ]); (try simp only [List.set_cons_zero])
      refine wpAnyH_take (i := 7) (v := ?_) rfl (by kernel_rfl) (by kernel_rfl) (by kernel_rfl) (fun _ _ _ h => h) (Or.inl ⟨by rfl, ?h7⟩) hHeld ?_
      case h7 =>
        intro w' hSw
        (try dsimp only at hSw)
        go_simp
        (try with_reducible rfl)
      (try simp only [Act.put]); (try simp only [List.setIfInBounds_toArray]); (try simp only [List.set_cons_succ]); (try simp only [List.set_cons_zero])
      refine wpAnyH_take (i := 8) (v := ?_) rfl (by kernel_rfl) (by kernel_rfl) (by kernel_rfl) (fun _ _ _ h => h) (Or.inl ⟨by rfl, ?h8⟩) hHeld ?_
      case h8 =>
        intro w' hSw
        (try dsimp only at hSw)
        go_simp
        (try with_reducible rfl)
      (try simp only [Act.put]); (try simp only [List.setIfInBounds_toArray]); (try simp only [List.set_cons_succ]); (try simp only [List.set_cons_zero])
      refine wpAnyH_take (i := 9) (v := ?_) rfl (by kernel_rfl) (by kernel_rfl) (by kernel_rfl) (fun _ _ _ h => h) (Or.inl ⟨by rfl, ?h9⟩) hHeld ?_
      case h9 =>
        intro w' hSw
        (try dsimp only at hSw)
        go_simp
        (try with_reducible rfl)
      (try simp only [Act.put]); (try simp only [List.setIfInBounds_toArray]); (try simp only [List.set_cons_succ]); (try simp only [List.set_cons_zero])
      refine wpAnyH_take (i := 10) (v := ?_) rfl (by kernel_rfl) (by kernel_rfl) (by kernel_rfl) (fun _ _ _ h => h) (Or.inl ⟨by rfl, ?h10⟩) hHeld ?_
      case h10 =>
        intro w' hSw
        (try dsimp only at hSw)
        go_simp
        (try with_reducible rfl)
      (try simp only [Act.put]); (try simp only [List.setIfInBounds_toArray]); (try simp only [List.set_cons_succ]); (try simp only [List.set_cons_zero])
      refine wpAnyH_take (i := 11) (v := ?_) rfl (by kernel_rfl) (by kernel_rfl) (by kernel_rfl) (fun _ _ _ h => h) (Or.inl ⟨by rfl, ?h11⟩) hHeld ?_
      case h11 =>
        intro w' hSw
        (try dsimp only at hSw)
        go_simp
        (try with_reducible rfl)
      (try simp only [Act.put]); (try simp only [List.setIfInBounds_toArray]); (try simp only [List.set_cons_succ]); (try simp only [List.set_cons_zero])
      refine wpAnyH_ready (rs := [12]) (by kernel_rfl) (by simp) ?_
      refine AllReadyH.cons rfl (fun K hK => ?_) (AllReadyH.nil)
      go_simp
      have HNB := Lib.hid (Blk.new wr.drew #[.int .i64 A, .int .i64 B] 122)
      refine hK.out _ _ (hHeld.alloc _) (fun hHeld => ?_)
      clear hK K
      (try simp only [Act.put]); (try simp only [List.setIfInBounds_toArray]); (try simp only [List.set_cons_succ]); (try simp only [List.set_cons_zero])
      refine wpAnyH_ready (rs := [13]) (by kernel_rfl) (by simp) ?_
      refine AllReadyH.cons rfl (fun K hK => ?_) (AllReadyH.nil)
      refine step_append_own rfl _ _ 74 rfl w.heap.size 122 i0 _ 2 16 Tryz.underlying74 HI.out.1 HI.out.2.1 HI.out.2.2.1 HI.out.2.2.2 rfl (by decide) _ j _ rfl ((World.ownsRow.drew H.out.1).alloc _) ⟨wr.heap.size, 0, none⟩ 1 1 [.int .i64 A, .int .i64 B] rfl rfl (news_two (HNB.out.cell 0) (HNB.out.cell 1)) (by intro u hu; simp at hu; rcases hu with rfl | rfl <;> rfl) (by unfold maxLen; omega) (by omega) (by have := H.out.2.size; exact Nat.le_trans this (by simp)) ?_
      intro v' w7 hown hgr _
      have HO7 := Lib.hid hown
      have hS3 : KS w BS w7 := by rw [HBS.out]; exact ⟨(fun z hz => by cases hz), hHeld.bel.grown hgr (hHeld.size) (fun r e => (H.out.1.lt r e).1)⟩
      clear hown hgr
      refine hK.out _ _ hS3 (fun hHeld => ?_)
      clear hK K hS3
      (try simp only [Act.put]); (try simp only [List.setIfInBounds_toArray]); (try simp only [List.set_cons_succ]); (try simp only [List.set_cons_zero])
      refine wpAnyH_ready (rs := [14]) (by kernel_rfl) (by simp) ?_
      refine AllReadyH.cons rfl (fun K hK => ?_) (AllReadyH.nil)
      go_simp
      refine hK.out _ _ hHeld (fun hHeld => ?_)
      clear hK K
      (try simp only [Act.put]); (try simp only [List.setIfInBounds_toArray]); (try simp only [List.set_cons_succ]); (try simp only [List.set_cons_zero])
      refine wpAnyH_done (by kernel_rfl) ?_ _
      have hs7 := hHeld
      rw [HBS.out] at hs7
      have S7 := Lib.hid (show w7.ownsRow w.heap.size 122 2 v' (j + 1) (stepsV (l.take (j + 1))) ∧ KS w [] w7 from ⟨by rw [HTK.out, stepsV_snoc]; exact HO7.out, hs7⟩)
      clear hHeld hs7 L0 L1 HBS HO7
      go_wp2_with fail
      go_roundw
      case rel => exact ⟨j + 1, by omega, by go_num, S7.out⟩
      case measure => simp [intOf]; omega
    · have hj2 : j = q := by omega
      have hS := H.out
      rw [List.take_of_length_le (by rw [HMM.out]; omega), hj2] at hS
      have S7 := Lib.hid hS
      have pj1 : ¬ (j : Int) < (q : Int) := by omega
      clear hS hj2
      go_wp2_with fail
      go_ret
      exact ⟨_, rfl, S7.out.1, S7.out.2.bel⟩
theorem tInfo124 : (Tryz.prog.info? 124).map (fun i => (i.zero, i.size, i.bytes)) = some (some (.agg #[.int .i64 0, .int .i64 0]), 2, 16) := by kernel_rfl
theorem stk_own124 {W : World} {B n : Nat} {v : Value} {l : List (Int × Int)} (h : W.ownsRow B 124 2 v n (stepsV l)) : ∃ a g c, v = .slice a n c ∧ StK W a g 0 n l := by
  have hl : l.length = n := by have := h.1; rw [stepsV_len] at this; omega
  rcases Joins.ownsRow_forms h with ⟨rfl, rfl⟩ | ⟨g, c, rfl⟩
  · have e : l = [] := List.eq_nil_of_length_eq_zero hl
    subst e
    exact ⟨none, 0, 0, rfl, rfl, fun h => absurd rfl h, fun i x e => by simp at e, fun h => absurd rfl h⟩
  · refine ⟨_, g, c, rfl, hl, fun _ => rfl, fun i s e => ?_, fun _ => (h.lt g rfl).2⟩
    have hi := (List.getElem?_eq_some_iff.1 e).1
    obtain ⟨k1, k2⟩ := stepsV_get l i s e
    rw [Nat.zero_add, h.cellAt (i * 2) (by omega), h.cellAt (i * 2 + 1) (by omega)]
    exact ⟨k1, k2⟩
set_option maxRecDepth 100000 in
set_option maxHeartbeats 2000000 in
theorem Back46 (a : Option Addr) (g o c q : Nat) (l : List (Int × Int)) (w : World) (hst : StK w a g o q l) (hq : q ≤ 1000) : Calls Tryz.prog 46 #[.slice a q c] w fun e w' => ∃ v, e = .returned v ∧ w'.ownsRow w.heap.size 124 2 v q (stepsV l) ∧ Below w.heap.size w w' := by
  have HST := Lib.hid hst
  have HMM := Lib.hid hst.1
  obtain ⟨i0, hi0, hz0, hz1, hz2⟩ := info_parts tInfo124
  have HI := Lib.hid (And.intro hi0 (And.intro hz0 (And.intro hz1 hz2)))
  clear hst hi0 hz0 hz1 hz2
  go_enter Tryz.func46, Tryz.ntmps46
  go_wp2_with fail
  go_loopw [3, 4] (fun y3 y4 wr => ∃ j : Nat, j ≤ q ∧ y4 = .int .i64 (j : Int) ∧ Hid (wr.ownsRow w.heap.size 124 2 y3 j (stepsV (l.take j)) ∧ KS w [] wr)) (fun _ y4 _ => q - (intOf y4).toNat)
  case atStart => exact ⟨0, Nat.zero_le _, rfl, World.ownsRow_nil _ _ _ _, KS.start w⟩
  case round =>
    obtain ⟨j, hj, rfl, H⟩ := hrel
    by_cases hjq : j < q
    · have hne : l ≠ [] := by rintro rfl; have := HMM.out; simp at this; omega
      have e1 := HST.out.2.1 hne
      subst e1
      obtain ⟨⟨A, B⟩, hs⟩ : ∃ s, l[j]? = some s := ⟨_, List.getElem?_eq_getElem (by rw [HMM.out]; exact hjq)⟩
      have HS := Lib.hid hs
      have htk : l.take (j + 1) = l.take j ++ [(A, B)] := by rw [List.take_add_one, hs]; rfl
      have HTK := Lib.hid htk
      have pj0 : (0 : Int) ≤ (j : Int) := by omega
      have pj1 : (j : Int) < (q : Int) := by omega
      clear hs hne htk
      go_wp2_with fail
      obtain ⟨BS, hBS⟩ : ∃ BS : List (Nat × Array Value × TypeId), BS = [] := ⟨_, rfl⟩
      have hS : KS w BS wr.drew := by rw [hBS]; exact H.out.2.drew
      have L0 : ∀ W, KS w BS W → W.cell? ⟨g, o + j * 2, none⟩ = some (.int .i64 A) := fun W h => ((HST.out.below h.bel).2.2.1 j _ HS.out).1
      have L1 : ∀ W, KS w BS W → W.cell? ⟨g, o + j * 2 + 1, none⟩ = some (.int .i64 B) := fun W h => ((HST.out.below h.bel).2.2.1 j _ HS.out).2
      have HBS := Lib.hid hBS
      clear hBS
      refine wp_region_held_drew (S := KS w BS) (by kernel_rfl) hS (fun hHeld => ?_)
      clear hS
      refine wpAnyH_take (i := 0) (v := ?_) rfl (by kernel_rfl) (by kernel_rfl) (by kernel_rfl) (fun _ _ _ h => h) (Or.inl ⟨by rfl, ?h0⟩) hHeld ?_
      case h0 =>
        intro w' hSw
        (try dsimp only at hSw)
        go_simp
        (try with_reducible rfl)
      (try simp only [Act.put]); (try simp only [List.setIfInBounds_toArray]); (try simp only [List.set_cons_succ]); (try simp only [List.set_cons_zero])
      refine wpAnyH_take (i := 1) (v := ?_) rfl (by kernel_rfl) (by kernel_rfl) (by kernel_rfl) (fun _ _ _ h => h) (Or.inl ⟨by rfl, ?h1⟩) hHeld ?_
      case h1 =>
        intro w' hSw
        (try dsimp only at hSw)
        go_simp
        (try with_reducible rfl)
      (try simp only [Act.put]); (try simp only [List.setIfInBounds_toArray]); (try simp only [List.set_cons_succ]); (try simp only [List.set_cons_zero])
      refine wpAnyH_take (i := 2) (v := ?_) rfl (by kernel_rfl) (by kernel_rfl) (by kernel_rfl) (fun _ _ _ h => h) (Or.inl ⟨by rfl, ?h2⟩) hHeld ?_
      case h2 =>
        intro w' hSw
        (try dsimp only at hSw)
        go_simp
        (try with_reducible rfl)
      (try simp only [Act.put]); (try simp only [List.setIfInBounds_toArray]); (try simp only [List.set_cons_succ]); (try simp only [List.set_cons_zero])
      refine wpAnyH_take (i := 3) (v := ?_) rfl (by kernel_rfl) (by kernel_rfl) (by kernel_rfl) (fun _ _ _ h => h) (Or.inl ⟨by rfl, ?h3⟩) hHeld ?_
      case h3 =>
        intro w' hSw
        (try dsimp only at hSw)
        go_simp
        (try with_reducible rfl)
      (try simp only [Act.put]); (try simp only [List.setIfInBounds_toArray]); (try simp only [List.set_cons_succ]); (try simp only [List.set_cons_zero])
      refine wpAnyH_take (i := 4) (v := ?_) rfl (by kernel_rfl) (by kernel_rfl) (by kernel_rfl) (fun _ _ _ h => h) (Or.inl ⟨by rfl, ?h4⟩) hHeld ?_
      case h4 =>
        intro w' hSw
        (try dsimp only at hSw)
        go_simp
        (try with_reducible rfl)
      (try simp only [Act.put]); (try simp only [List.setIfInBounds_toArray]); (try simp only [List.set_cons_succ]); (try simp only [List.set_cons_zero])
      refine wpAnyH_take (i := 5) (v := ?_) rfl (by kernel_rfl) (by kernel_rfl) (by kernel_rfl) (fun _ _ _ h => h) (Or.inl ⟨by rfl, ?h5⟩) hHeld ?_
      case h5 =>
        intro w' hSw
        (try dsimp only at hSw)
        go_simp
        (try with_reducible rfl)
      (try simp only [Act.put]); (try simp only [List.setIfInBounds_toArray]); (try simp only [List.set_cons_succ]); (try simp only [List.set_cons_zero])
      refine wpAnyH_take (i := 6) (v := ?_) rfl (by kernel_rfl) (by kernel_rfl) (by kernel_rfl) (fun _ _ _ h => h) (Or.inl ⟨by rfl, ?h6⟩) hHeld ?_
      case h6 =>
        intro w' hSw
        (try dsimp only at hSw)
        go_simp
        (try with_reducible rfl)
      (try simp only [Act.put]); (try simp only [List.setIfInBounds_toArray]); (try simp only [List.set_cons_succ]); (try simp only [List.set_cons_zero])
      refine wpAnyH_take (i := 7) (v := ?_) rfl (by kernel_rfl) (by kernel_rfl) (by kernel_rfl) (fun _ _ _ h => h) (Or.inl ⟨by rfl, ?h7⟩) hHeld ?_
      case h7 =>
        intro w' hSw
        (try dsimp only at hSw)
        go_simp
        (try with_reducible rfl)
      (try simp only [Act.put]); (try simp only [List.setIfInBounds_toArray]); (try simp only [List.set_cons_succ]); (try simp only [List.set_cons_zero])
      refine wpAnyH_take (i := 8) (v := ?_) rfl (by kernel_rfl) (by kernel_rfl) (by kernel_rfl) (fun _ _ _ h => h) (Or.inl ⟨by rfl, ?h8⟩) hHeld ?_
      case h8 =>
        intro w' hSw
        (try dsimp only at hSw)
        go_simp
        (try with_reducible rfl)
      (try simp only [Act.put]); (try simp only [List.setIfInBounds_toArray]); (try simp only [List.set_cons_succ]); (try simp only [List.set_cons_zero])
      refine wpAnyH_take (i := 9) (v := ?_) rfl (by kernel_rfl) (by kernel_rfl) (by kernel_rfl) (fun _ _ _ h => h) (Or.inl ⟨by rfl, ?h9⟩) hHeld ?_
      case h9 =>
        intro w' hSw
        (try dsimp only at hSw)
        go_simp
        (try with_reducible rfl)
      (try simp only [Act.put]); (try simp only [List.setIfInBounds_toArray]); (try simp only [List.set_cons_succ]); (try simp only [List.set_cons_zero])
      refine wpAnyH_take (i := 10) (v := ?_) rfl (by kernel_rfl) (by kernel_rfl) (by kernel_rfl) (fun _ _ _ h => h) (Or.inl ⟨by rfl, ?h10⟩) hHeld ?_
      case h10 =>
        intro w' hSw
        (try dsimp only at hSw)
        go_simp
        (try with_reducible rfl)
      (try simp only [Act.put]); (try simp only [List.setIfInBounds_toArray]); (try simp only [List.set_cons_succ]); (try simp only [List.set_cons_zero])
      refine wpAnyH_take (i := 11) (v := ?_) rfl (by kernel_rfl) (by kernel_rfl) (by kernel_rfl) (fun _ _ _ h => h) (Or.inl ⟨by rfl, ?h11⟩) hHeld ?_
      case h11 =>
        intro w' hSw
        (try dsimp only at hSw)
        go_simp
        (try with_reducible rfl)
      (try simp only [Act.put]); (try simp only [List.setIfInBounds_toArray]); (try simp only [List.set_cons_succ]); (try simp only [List.set_cons_zero])
      refine wpAnyH_ready (rs := [12]) (by kernel_rfl) (by simp) ?_
      refine AllReadyH.cons rfl (fun K hK => ?_) (AllReadyH.nil)
      go_simp
      have HNB := Lib.hid (Blk.new wr.drew #[.int .i64 A, .int .i64 B] 124)
      refine hK.out _ _ (hHeld.alloc _) (fun hHeld => ?_)
      clear hK K
      (try simp only [Act.put]); (try simp only [List.setIfInBounds_toArray]); (try simp only [List.set_cons_succ]); (try simp only [List.set_cons_zero])
      refine wpAnyH_ready (rs := [13]) (by kernel_rfl) (by simp) ?_
      refine AllReadyH.cons rfl (fun K hK => ?_) (AllReadyH.nil)
      refine step_append_own rfl _ _ 73 rfl w.heap.size 124 i0 _ 2 16 Tryz.underlying73 HI.out.1 HI.out.2.1 HI.out.2.2.1 HI.out.2.2.2 rfl (by decide) _ j _ rfl ((World.ownsRow.drew H.out.1).alloc _) ⟨wr.heap.size, 0, none⟩ 1 1 [.int .i64 A, .int .i64 B] rfl rfl (news_two (HNB.out.cell 0) (HNB.out.cell 1)) (by intro u hu; simp at hu; rcases hu with rfl | rfl <;> rfl) (by unfold maxLen; omega) (by omega) (by have := H.out.2.size; exact Nat.le_trans this (by simp)) ?_
      intro v' w7 hown hgr _
      have HO7 := Lib.hid hown
      have hS3 : KS w BS w7 := by rw [HBS.out]; exact ⟨(fun z hz => by cases hz), hHeld.bel.grown hgr (hHeld.size) (fun r e => (H.out.1.lt r e).1)⟩
      clear hown hgr
      refine hK.out _ _ hS3 (fun hHeld => ?_)
      clear hK K hS3
      (try simp only [Act.put]); (try simp only [List.setIfInBounds_toArray]); (try simp only [List.set_cons_succ]); (try simp only [List.set_cons_zero])
      refine wpAnyH_ready (rs := [14]) (by kernel_rfl) (by simp) ?_
      refine AllReadyH.cons rfl (fun K hK => ?_) (AllReadyH.nil)
      go_simp
      refine hK.out _ _ hHeld (fun hHeld => ?_)
      clear hK K
      (try simp only [Act.put]); (try simp only [List.setIfInBounds_toArray]); (try simp only [List.set_cons_succ]); (try simp only [List.set_cons_zero])
      refine wpAnyH_done (by kernel_rfl) ?_ _
      have hs7 := hHeld
      rw [HBS.out] at hs7
      have S7 := Lib.hid (show w7.ownsRow w.heap.size 124 2 v' (j + 1) (stepsV (l.take (j + 1))) ∧ KS w [] w7 from ⟨by rw [HTK.out, stepsV_snoc]; exact HO7.out, hs7⟩)
      clear hHeld hs7 L0 L1 HBS HO7
      go_wp2_with fail
      go_roundw
      case rel => exact ⟨j + 1, by omega, by go_num, S7.out⟩
      case measure => simp [intOf]; omega
    · have hj2 : j = q := by omega
      have hS := H.out
      rw [List.take_of_length_le (by rw [HMM.out]; omega), hj2] at hS
      have S7 := Lib.hid hS
      have pj1 : ¬ (j : Int) < (q : Int) := by omega
      clear hS hj2
      go_wp2_with fail
      go_ret
      exact ⟨_, rfl, S7.out.1, S7.out.2.bel⟩
end Go.Proofs.YtkdflgaahhnigaaGreat
