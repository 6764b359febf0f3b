/- NameAligns: the walk. NameAligns: for every input the statement returns true, and each argument reads behind the call as it read before. No condition. -/
import Derived.Test.YtkdflgaahhnigaaGreatC12
import Derived.Test.YtkdflgaahhnigaaGreatC22
import Derived.Test.YtkdflgaahhnigaaGreatC29
import Derived.Test.YtkdflgaahhnigaaGreatC28
import Derived.Test.YtkdflgaahhnigaaGreatC26
import Derived.ProofKit
import Derived.OpenShut
import Derived.ShutString
import Derived.ChangeOld
import Derived.Below
import Derived.Lib.SmallJoins
import Derived.Deep.Slices
set_option linter.unusedVariables false
set_option linter.unusedSimpArgs false
namespace Go.Proofs.YtkdflgaahhnigaaGreat
open Go.RowKit Go.Shelf

/-- the block beside the rules: a list of steps -/
def KT (w : World) (bs : List (Nat × Array Value × TypeId)) (va : Option Addr) (vg q : Nat) (l : List (Int × Int)) (W : World) : Prop := KS w bs W ∧ StK W va vg 0 q l
section
variable {w W W' : World} {bs : List (Nat × Array Value × TypeId)} {va : Option Addr} {vg q : Nat} {l : List (Int × Int)}
theorem KT.below (h : KT w bs va vg q l W) (hb : Below W.heap.size W W') : KT w bs va vg q l W' := ⟨h.1.below hb, h.2.below hb⟩
theorem KT.bel (h : KT w bs va vg q l W) : Below w.heap.size w W := h.1.bel
theorem KT.drew (h : KT w bs va vg q l W) : KT w bs va vg q l W.drew := h.below (Below.refl _ _).drew
end
theorem pvB_bad {R : RB} {x y : ByteArray} (h : chkN R [x, y] ≠ 0) (l : List (Int × Int)) (k : Int) : pvB R x y l k = false := by
  unfold pvB; rw [beq_eq_false_iff_ne.2 h]; rfl
theorem pvB_good {R : RB} {x y : ByteArray} (h : chkN R [x, y] = 0) (l : List (Int × Int)) (k : Int) : pvB R x y l k = (decide (0 ≤ costsV R x y l) && decide (costsV R x y l ≤ k)) := by
  unfold pvB; rw [h]; rfl
set_option maxRecDepth 100000 in
set_option maxHeartbeats 8000000 in
theorem NameAligns_walk (a : Option Addr) (g o c n : Nat) (R : RB) (w : World) (hk : SKn w a g o c n R.cls) (hc : n ≤ c) (x y : ByteArray) (aq : Option Addr) (gq oq cq q : Nat) (l : List (Int × Int)) (hst : StK w aq gq oq q l) (cost : Int) (hcost : (Lit.int .i64 cost).wf = true) : Calls Tryz.prog 15 #[rulesV a n c R.soft R.al R.ot R.sk R.ss R.db, .string x, .string y, .slice aq q cq, .int .i64 cost] w fun e w' => e = .returned (.bool true) ∧ Below w.heap.size w w' := by
  have C17 := Lib.hid (fun W b (hW : Below w.heap.size w W) (hb : Blk W b #[.string x, .string y] 9) => Thin17 a g o c n R W hk.1 (hk.2.1.below hW) (some ⟨b, 0, none⟩) b 0 2 2 [x, y] rfl (sk2 hb))
  cases hr : thinB R [x, y] with
  | false =>
    rw [hr] at C17
    have s0 := ((KS.start w).new (rulesC a n c R.soft R.al R.ot R.sk R.ss R.db) 24)
    obtain ⟨kb0_0, kb0_1, kb0_2, kb0_3, kb0_4, kb0_5, kb0_6⟩ := (s0.blkAt 0 rfl).c7
    have S0 := Lib.hid s0
    clear s0 hr hk hc hst hcost
    go_enter Tryz.func15, Tryz.ntmps15
    go_wp2_with fail
    refine (C17.out _ (w.heap.size + 1) ((S0.out.bel).alloc S0.out.size _) (two_new w _ _ _ _).2.1).mono ?_
    rintro e w1 ⟨rfl, hb⟩
    have S1 := Lib.hid ((S0.out.alloc (.cells #[.string x, .string y] 9)).below hb)
    clear hb
    go_wp2_with (go_at_call 18; (refine (awake_any _).mono ?_); rintro e wA ⟨rfl, hbA⟩; have SA := Lib.hid (S1.out.bel.trans (hbA.mono S1.out.bel.size)); clear hbA)
    go_ret
    exact ⟨rfl, SA.out⟩
  | true =>
    rw [hr] at C17
    by_cases hq : 30 < q
    · have pq : (30 : Int) < (q : Int) := by omega
      clear hq
      have s0 := ((KS.start w).new (rulesC a n c R.soft R.al R.ot R.sk R.ss R.db) 24)
      obtain ⟨kb0_0, kb0_1, kb0_2, kb0_3, kb0_4, kb0_5, kb0_6⟩ := (s0.blkAt 0 rfl).c7
      have S0 := Lib.hid s0
      clear s0 hr hk hc hst hcost
      go_enter Tryz.func15, Tryz.ntmps15
      go_wp2_with fail
      refine (C17.out _ (w.heap.size + 1) ((S0.out.bel).alloc S0.out.size _) (two_new w _ _ _ _).2.1).mono ?_
      rintro e w1 ⟨rfl, hb⟩
      have S1 := Lib.hid ((S0.out.alloc (.cells #[.string x, .string y] 9)).below hb)
      clear hb
      go_wp2_with (go_at_call 18; (refine (awake_any _).mono ?_); rintro e wA ⟨rfl, hbA⟩; have SA := Lib.hid (S1.out.bel.trans (hbA.mono S1.out.bel.size)); clear hbA)
      go_ret
      exact ⟨rfl, SA.out⟩
    have pq : ¬ (30 : Int) < (q : Int) := by omega
    have hq1000 : q ≤ 1000 := by omega
    have ht := thin_thn hr
    have hl := thin_l hr
    have hx := hl.2 x (by simp)
    have hy := hl.2 y (by simp)
    have hxy : ∀ z, z ∈ [x, y] → z.size ≤ 1000 := fun z hz => by have := hl.2 z hz; omega
    have hnn := hk.1
    have hn1000 : R.cls.length ≤ 900 := by
      simp only [thinB, Bool.and_eq_true] at hr
      have := (shB_len hr.1).1; omega
    have C20 := Lib.hid (fun W (hW : Below w.heap.size w W) => Rules20 a g o c n R W (hk.below hW) (by omega))
    have C22 := Lib.hid (fun W b (hW : Below w.heap.size w W) (hb : Blk W b #[.string x, .string y] 9) => fault22 a g o c n R W hk.1 (hk.2.1.below hW) ht (some ⟨b, 0, none⟩) b 0 2 2 [x, y] rfl (sk2 hb) (by omega) hxy)
    have C44 := Lib.hid (fun W (hW : Below w.heap.size w W) => Steps44 aq gq oq cq q l W (hst.below hW) hq1000)
    have HT := Lib.hid ht
    have HN := Lib.hid hk.1
    have hx' : x.size ≤ 1000 := by omega
    have hy' : y.size ≤ 1000 := by omega
    have HSKN := Lib.hid hk
    have HST := Lib.hid hst
    by_cases h0 : chkN R [x, y] = 0
    · have HV := Lib.hid h0
      obtain ⟨hgd, hny⟩ := chkN_ok h0
      have hxs := (hny x (by simp)).1
      have hys := (hny y (by simp)).1
      have C24 := Lib.hid (fun W (hW : Below w.heap.size w W) => rCost24 a g o c n R W HSKN.out.1 (HSKN.out.2.1.below hW) hgd ht x y hxs hys)
      have C45 := Lib.hid (fun W (aq' : Option Addr) (g' o' cq' q' : Nat) (l' : List (Int × Int)) (hW : Below w.heap.size w W) (hs : StK W aq' g' o' q' l') (hq' : q' ≤ 1000) => rCosts45 a g o c n R W HSKN.out.1 (HSKN.out.2.1.below hW) hgd ht x y hxs hys aq' g' o' cq' q' l' hs hq')
      have HPV := Lib.hid (pvB_good h0 l cost)
      have s0 := ((KS.start w).new (rulesC a n c R.soft R.al R.ot R.sk R.ss R.db) 24)
      obtain ⟨kb0_0, kb0_1, kb0_2, kb0_3, kb0_4, kb0_5, kb0_6⟩ := (s0.blkAt 0 rfl).c7
      have S0 := Lib.hid s0
      clear s0 hr hk hc hst hl hx hy hxy hnn hn1000 ht hq h0 hgd hny
      go_enter Tryz.func15, Tryz.ntmps15
      go_wp2_with fail
      refine (C17.out _ (w.heap.size + 1) ((S0.out.bel).alloc S0.out.size _) (two_new w _ _ _ _).2.1).mono ?_
      rintro e w1 ⟨rfl, hb⟩
      clear kb0_0 kb0_1 kb0_2 kb0_3 kb0_4 kb0_5 kb0_6
      have s1 := (S0.out.alloc (.cells #[.string x, .string y] 9)).below hb
      obtain ⟨kb0_0, kb0_1, kb0_2, kb0_3, kb0_4, kb0_5, kb0_6⟩ := (s1.blkAt 0 rfl).c7
      have S1 := Lib.hid s1
      clear hb s1
      go_wp2_with fail
      refine (C20.out _ S1.out.bel).mono ?_
      rintro e w2 ⟨a2, g2, c2, rfl, hsk, hle2, hb⟩
      have HK2 := Lib.hid hsk
      clear hsk
      clear kb0_0 kb0_1 kb0_2 kb0_3 kb0_4 kb0_5 kb0_6
      have s2 := S1.out.below hb
      obtain ⟨kb0_0, kb0_1, kb0_2, kb0_3, kb0_4, kb0_5, kb0_6⟩ := (s2.blkAt 0 rfl).c7
      have S2 := Lib.hid s2
      clear hb s2
      go_wp2_with fail
      refine (Align_good a2 g2 0 c2 n R _ HN.out HK2.out hle2 HT.out x y hx' hy' HV.out).mono ?_
      rintro e w3 ⟨v3, la, rfl, hown, haln, hb⟩
      have HA := Lib.hid haln
      obtain ⟨va, vg, vc, rfl, hstk⟩ := stk_own122 hown
      have T3 := Lib.hid hstk
      clear haln hown hstk
      clear kb0_0 kb0_1 kb0_2 kb0_3 kb0_4 kb0_5 kb0_6
      have s3 := S2.out.below hb
      obtain ⟨kb0_0, kb0_1, kb0_2, kb0_3, kb0_4, kb0_5, kb0_6⟩ := (s3.blkAt 0 rfl).c7
      have S3 := Lib.hid s3
      clear hb s3
      have hla : la.length ≤ 24 := by have := (len_way HA.out.1).1; omega
      have HCA := Lib.hid HA.out.1.done
      go_wp2_with fail
      refine (C20.out _ S3.out.bel).mono ?_
      rintro e w4 ⟨a4, g4, c4, rfl, hsk, hle4, hb⟩
      have HK4 := Lib.hid hsk
      clear hsk
      have T4 := Lib.hid (T3.out.below hb)
      clear T3
      clear kb0_0 kb0_1 kb0_2 kb0_3 kb0_4 kb0_5 kb0_6
      have s4 := S3.out.below hb
      obtain ⟨kb0_0, kb0_1, kb0_2, kb0_3, kb0_4, kb0_5, kb0_6⟩ := (s4.blkAt 0 rfl).c7
      have S4 := Lib.hid s4
      clear hb s4
      go_wp2_with fail
      refine (C44.out _ S4.out.bel).mono ?_
      rintro e w5 ⟨v5, rfl, hown, hb⟩
      obtain ⟨pa, pg, pc, rfl, hstk⟩ := stk_own122 hown
      have P5 := Lib.hid hstk
      have HK5 := Lib.hid (HK4.out.below hb)
      clear hown hstk
      have T5 := Lib.hid (T4.out.below hb)
      clear T4
      clear kb0_0 kb0_1 kb0_2 kb0_3 kb0_4 kb0_5 kb0_6
      have s5 := S4.out.below hb
      obtain ⟨kb0_0, kb0_1, kb0_2, kb0_3, kb0_4, kb0_5, kb0_6⟩ := (s5.blkAt 0 rfl).c7
      have S5 := Lib.hid s5
      clear hb s5
      go_wp2_with fail
      refine (ProveAlign_good a4 g4 0 c4 n R _ HN.out HK5.out hle4 HT.out x y hx' hy' pa pg 0 pc q l P5.out hq1000 cost HV.out).mono ?_
      rintro e w6 ⟨rfl, hb⟩
      have T6 := Lib.hid (T5.out.below hb)
      clear T5
      clear kb0_0 kb0_1 kb0_2 kb0_3 kb0_4 kb0_5 kb0_6
      have s6 := S5.out.below hb
      obtain ⟨kb0_0, kb0_1, kb0_2, kb0_3, kb0_4, kb0_5, kb0_6⟩ := (s6.blkAt 0 rfl).c7
      have S6 := Lib.hid s6
      clear hb s6
      go_wp2_with fail
      refine (C22.out _ w6.heap.size (S6.out.bel.alloc S6.out.size _) (Blk.new w6 _ _)).mono ?_
      rintro e w7 ⟨rfl, hb⟩
      have T7 := Lib.hid ((T6.out.below ((Below.refl _ _).alloc (Nat.le_refl _) _)).below hb)
      clear T6
      clear kb0_0 kb0_1 kb0_2 kb0_3 kb0_4 kb0_5 kb0_6
      have s7 := (S6.out.alloc (.cells #[.string x, .string y] 9)).below hb
      obtain ⟨kb0_0, kb0_1, kb0_2, kb0_3, kb0_4, kb0_5, kb0_6⟩ := (s7.blkAt 0 rfl).c7
      have S7 := Lib.hid s7
      clear hb s7
      rw [HV.out]
      go_wp2_with fail
      refine (C45.out _ aq gq oq cq q l S7.out.bel (HST.out.below S7.out.bel) hq1000).mono ?_
      rintro e w8 ⟨rfl, hb⟩
      have T8 := Lib.hid (T7.out.below hb)
      clear T7
      clear kb0_0 kb0_1 kb0_2 kb0_3 kb0_4 kb0_5 kb0_6
      have s8 := S7.out.below hb
      obtain ⟨kb0_0, kb0_1, kb0_2, kb0_3, kb0_4, kb0_5, kb0_6⟩ := (s8.blkAt 0 rfl).c7
      have S8 := Lib.hid s8
      clear hb s8
      rw [HPV.out]
      generalize costsV R x y l = N at *
      obtain ⟨b1, hb1⟩ : ∃ b, b = decide (0 ≤ N) := ⟨_, rfl⟩
      obtain ⟨b2, hb2⟩ : ∃ b, b = decide (N ≤ cost) := ⟨_, rfl⟩
      rw [← hb1, ← hb2]
      clear kb0_0 kb0_1 kb0_2 kb0_3 kb0_4 kb0_5 kb0_6
      have D1 : decide ((0 : Int) ≤ N) = b1 := hb1.symm
      have D2 : decide (N ≤ cost) = b2 := hb2.symm
      have D3 : decide (N ≥ (0 : Int)) = b1 := hb1.symm
      clear hb1 hb2
      have hla1000 : la.length ≤ 1000 := by omega
      have HCR := Lib.hid (show ((((cR R x y 0 0 : Nat) : Int)) == ((cR R x y 0 0 : Nat) : Int)) = true by simp)
      generalize cR R x y 0 0 = cv at *
      go_wp2_with fail
      cases b1 with
      | false =>
        obtain ⟨BS, hBS⟩ : ∃ BS : List (Nat × Array Value × TypeId), BS = [(w.heap.size, rulesC a n c R.soft R.al R.ot R.sk R.ss R.db, 24)] := ⟨_, rfl⟩
        have hS0 : KS w BS w8.drew := by rw [hBS]; exact (S8.out.sub (by simp)).drew
        have K0 : ∀ W, KT w BS va vg la.length la W → W.cell? ⟨w.heap.size, 0, none⟩ = some (.slice a n c) := fun W h => by rw [hBS] at h; exact (h.1.blkAt 0 rfl).cell 0
        have K1 : ∀ W, KT w BS va vg la.length la W → W.cell? ⟨w.heap.size, 1, none⟩ = some (.string R.soft) := fun W h => by rw [hBS] at h; exact (h.1.blkAt 0 rfl).cell 1
        have K2 : ∀ W, KT w BS va vg la.length la W → W.cell? ⟨w.heap.size, 2, none⟩ = some (.int .i64 R.al) := fun W h => by rw [hBS] at h; exact (h.1.blkAt 0 rfl).cell 2
        have K3 : ∀ W, KT w BS va vg la.length la W → W.cell? ⟨w.heap.size, 3, none⟩ = some (.int .i64 R.ot) := fun W h => by rw [hBS] at h; exact (h.1.blkAt 0 rfl).cell 3
        have K4 : ∀ W, KT w BS va vg la.length la W → W.cell? ⟨w.heap.size, 4, none⟩ = some (.int .i64 R.sk) := fun W h => by rw [hBS] at h; exact (h.1.blkAt 0 rfl).cell 4
        have K5 : ∀ W, KT w BS va vg la.length la W → W.cell? ⟨w.heap.size, 5, none⟩ = some (.int .i64 R.ss) := fun W h => by rw [hBS] at h; exact (h.1.blkAt 0 rfl).cell 5
        have K6 : ∀ W, KT w BS va vg la.length la W → W.cell? ⟨w.heap.size, 6, none⟩ = some (.int .i64 R.db) := fun W h => by rw [hBS] at h; exact (h.1.blkAt 0 rfl).cell 6
        have HBS := Lib.hid hBS
        clear hBS
        have hS : KT w BS va vg la.length la w8.drew := ⟨hS0, T8.out.below (Below.refl _ _).drew⟩
        clear hS0
        refine wp_region_held_drew (S := KT w BS va vg la.length la) (by kernel_rfl) hS (fun hHeld => ?_)
        clear hS
        refine wpAnyH_take (i := 0) (v := ?_) rfl (by kernel_rfl) (by kernel_rfl) (by kernel_rfl) (fun _ _ _ h => h) (Or.inl ⟨by rfl, ?h0⟩) hHeld ?_
        case h0 =>
          intro w' hSw
          (try dsimp only at hSw)
          go_simp
          (try with_reducible rfl)
        (try simp only [Act.put]); (try simp only [List.setIfInBounds_toArray]); (try simp only [List.set_cons_succ]); (try simp only [List.set_cons_zero])
        refine wpAnyH_take (i := 1) (v := ?_) rfl (by kernel_rfl) (by kernel_rfl) (by kernel_rfl) (fun _ _ _ h => h) (Or.inl ⟨by rfl, ?h1⟩) hHeld ?_
        case h1 =>
          intro w' hSw
          (try dsimp only at hSw)
          go_simp
          (try with_reducible rfl)
        (try simp only [Act.put]); (try simp only [List.setIfInBounds_toArray]); (try simp only [List.set_cons_succ]); (try simp only [List.set_cons_zero])
        refine wpAnyH_take (i := 2) (v := ?_) rfl (by kernel_rfl) (by kernel_rfl) (by kernel_rfl) (fun _ _ _ h => h) (Or.inl ⟨by rfl, ?h2⟩) hHeld ?_
        case h2 =>
          intro w' hSw
          (try dsimp only at hSw)
          go_simp
          (try with_reducible rfl)
        (try simp only [Act.put]); (try simp only [List.setIfInBounds_toArray]); (try simp only [List.set_cons_succ]); (try simp only [List.set_cons_zero])
        refine wpAnyH_take (i := 3) (v := ?_) rfl (by kernel_rfl) (by kernel_rfl) (by kernel_rfl) (fun _ _ _ h => h) (Or.inl ⟨by rfl, ?h3⟩) hHeld ?_
        case h3 =>
          intro w' hSw
          (try dsimp only at hSw)
          go_simp
          (try with_reducible rfl)
        (try simp only [Act.put]); (try simp only [List.setIfInBounds_toArray]); (try simp only [List.set_cons_succ]); (try simp only [List.set_cons_zero])
        refine wpAnyH_take (i := 4) (v := undef) rfl (by kernel_rfl) (by kernel_rfl) (by kernel_rfl) (fun _ _ _ h => h) (Or.inr ⟨by kernel_rfl, rfl⟩) hHeld ?_
        (try simp only [Act.put]); (try simp only [List.setIfInBounds_toArray]); (try simp only [List.set_cons_succ]); (try simp only [List.set_cons_zero])
        refine wpAnyH_take (i := 5) (v := undef) rfl (by kernel_rfl) (by kernel_rfl) (by kernel_rfl) (fun _ _ _ h => h) (Or.inr ⟨by kernel_rfl, rfl⟩) hHeld ?_
        (try simp only [Act.put]); (try simp only [List.setIfInBounds_toArray]); (try simp only [List.set_cons_succ]); (try simp only [List.set_cons_zero])
        refine wpAnyH_take (i := 6) (v := undef) rfl (by kernel_rfl) (by kernel_rfl) (by kernel_rfl) (fun _ _ _ h => h) (Or.inr ⟨by kernel_rfl, rfl⟩) hHeld ?_
        (try simp only [Act.put]); (try simp only [List.setIfInBounds_toArray]); (try simp only [List.set_cons_succ]); (try simp only [List.set_cons_zero])
        refine wpAnyH_take (i := 7) (v := ?_) rfl (by kernel_rfl) (by kernel_rfl) (by kernel_rfl) (fun _ _ _ h => h) (Or.inl ⟨by rfl, ?h7⟩) hHeld ?_
        case h7 =>
          intro w' hSw
          (try dsimp only at hSw)
          go_simp
          (try with_reducible rfl)
        (try simp only [Act.put]); (try simp only [List.setIfInBounds_toArray]); (try simp only [List.set_cons_succ]); (try simp only [List.set_cons_zero])
        refine wpAnyH_take (i := 8) (v := ?_) rfl (by kernel_rfl) (by kernel_rfl) (by kernel_rfl) (fun _ _ _ h => h) (Or.inl ⟨by rfl, ?h8⟩) hHeld ?_
        case h8 =>
          intro w' hSw
          (try dsimp only at hSw)
          go_simp
          (try with_reducible rfl)
        (try simp only [Act.put]); (try simp only [List.setIfInBounds_toArray]); (try simp only [List.set_cons_succ]); (try simp only [List.set_cons_zero])
        refine wpAnyH_take (i := 9) (v := ?_) rfl (by kernel_rfl) (by kernel_rfl) (by kernel_rfl) (fun _ _ _ h => h) (Or.inl ⟨by rfl, ?h9⟩) hHeld ?_
        case h9 =>
          intro w' hSw
          (try dsimp only at hSw)
          go_simp
          (try with_reducible rfl)
        (try simp only [Act.put]); (try simp only [List.setIfInBounds_toArray]); (try simp only [List.set_cons_succ]); (try simp only [List.set_cons_zero])
        refine wpAnyH_take (i := 10) (v := ?_) rfl (by kernel_rfl) (by kernel_rfl) (by kernel_rfl) (fun _ _ _ h => h) (Or.inl ⟨by kernel_rfl, ?h10⟩) hHeld ?_
        case h10 =>
          intro w' hSw
          (try dsimp only at hSw)
          go_simp
          (try with_reducible rfl)
        (try simp only [Act.put]); (try simp only [List.setIfInBounds_toArray]); (try simp only [List.set_cons_succ]); (try simp only [List.set_cons_zero])
        refine wpAnyH_take (i := 11) (v := ?_) rfl (by kernel_rfl) (by kernel_rfl) (by kernel_rfl) (fun _ _ _ h => h) (Or.inl ⟨by kernel_rfl, ?h11⟩) hHeld ?_
        case h11 =>
          intro w' hSw
          (try dsimp only at hSw)
          go_simp
          (try with_reducible rfl)
        (try simp only [Act.put]); (try simp only [List.setIfInBounds_toArray]); (try simp only [List.set_cons_succ]); (try simp only [List.set_cons_zero])
        refine wpAnyH_take (i := 12) (v := ?_) rfl (by kernel_rfl) (by kernel_rfl) (by kernel_rfl) (fun _ _ _ h => h) (Or.inl ⟨by rfl, ?h12⟩) hHeld ?_
        case h12 =>
          intro w' hSw
          (try dsimp only at hSw)
          go_simp
          (try with_reducible rfl)
        (try simp only [Act.put]); (try simp only [List.setIfInBounds_toArray]); (try simp only [List.set_cons_succ]); (try simp only [List.set_cons_zero])
        refine wpAnyH_take (i := 13) (v := ?_) rfl (by kernel_rfl) (by kernel_rfl) (by kernel_rfl) (fun _ _ _ h => h) (Or.inl ⟨by rfl, ?h13⟩) hHeld ?_
        case h13 =>
          intro w' hSw
          (try dsimp only at hSw)
          go_simp
          (try with_reducible rfl)
        (try simp only [Act.put]); (try simp only [List.setIfInBounds_toArray]); (try simp only [List.set_cons_succ]); (try simp only [List.set_cons_zero])
        refine wpAnyH_take (i := 14) (v := ?_) rfl (by kernel_rfl) (by kernel_rfl) (by kernel_rfl) (fun _ _ _ h => h) (Or.inl ⟨by kernel_rfl, ?h14⟩) hHeld ?_
        case h14 =>
          intro w' hSw
          (try dsimp only at hSw)
          go_simp
          (try with_reducible rfl)
        (try simp only [Act.put]); (try simp only [List.setIfInBounds_toArray]); (try simp only [List.set_cons_succ]); (try simp only [List.set_cons_zero])
        refine wpAnyH_take (i := 15) (v := ?_) rfl (by kernel_rfl) (by kernel_rfl) (by kernel_rfl) (fun _ _ _ h => h) (Or.inl ⟨by kernel_rfl, ?h15⟩) hHeld ?_
        case h15 =>
          intro w' hSw
          (try dsimp only at hSw)
          go_simp
          (try with_reducible rfl)
        (try simp only [Act.put]); (try simp only [List.setIfInBounds_toArray]); (try simp only [List.set_cons_succ]); (try simp only [List.set_cons_zero])
        refine wpAnyH_take (i := 16) (v := ?_) rfl (by kernel_rfl) (by kernel_rfl) (by kernel_rfl) (fun _ _ _ h => h) (Or.inl ⟨by kernel_rfl, ?h16⟩) hHeld ?_
        case h16 =>
          intro w' hSw
          (try dsimp only at hSw)
          go_simp
          (try with_reducible rfl)
        (try simp only [Act.put]); (try simp only [List.setIfInBounds_toArray]); (try simp only [List.set_cons_succ]); (try simp only [List.set_cons_zero])
        refine wpAnyH_take (i := 17) (v := ?_) rfl (by kernel_rfl) (by kernel_rfl) (by kernel_rfl) (fun _ _ _ h => h) (Or.inl ⟨by kernel_rfl, ?h17⟩) hHeld ?_
        case h17 =>
          intro w' hSw
          (try dsimp only at hSw)
          go_simp
          (try with_reducible rfl)
        (try simp only [Act.put]); (try simp only [List.setIfInBounds_toArray]); (try simp only [List.set_cons_succ]); (try simp only [List.set_cons_zero])
        refine wpAnyH_take (i := 20) (v := ?_) rfl (by kernel_rfl) (by kernel_rfl) (by kernel_rfl) (fun _ _ _ h => h) (Or.inl ⟨by kernel_rfl, ?h20⟩) hHeld ?_
        case h20 =>
          intro w' hSw
          (try dsimp only at hSw)
          go_simp
          (try with_reducible rfl)
        (try simp only [Act.put]); (try simp only [List.setIfInBounds_toArray]); (try simp only [List.set_cons_succ]); (try simp only [List.set_cons_zero])
        refine wpAnyH_take (i := 21) (v := ?_) rfl (by kernel_rfl) (by kernel_rfl) (by kernel_rfl) (fun _ _ _ h => h) (Or.inl ⟨by kernel_rfl, ?h21⟩) hHeld ?_
        case h21 =>
          intro w' hSw
          (try dsimp only at hSw)
          go_simp
          (try with_reducible rfl)
        (try simp only [Act.put]); (try simp only [List.setIfInBounds_toArray]); (try simp only [List.set_cons_succ]); (try simp only [List.set_cons_zero])
        refine wpAnyH_take (i := 22) (v := ?_) rfl (by kernel_rfl) (by kernel_rfl) (by kernel_rfl) (fun _ _ _ h => h) (Or.inl ⟨by kernel_rfl, ?h22⟩) hHeld ?_
        case h22 =>
          intro w' hSw
          (try dsimp only at hSw)
          go_simp
          (try with_reducible rfl)
        (try simp only [Act.put]); (try simp only [List.setIfInBounds_toArray]); (try simp only [List.set_cons_succ]); (try simp only [List.set_cons_zero])
        refine wpAnyH_ready (rs := [18]) (by kernel_rfl) (by simp) ?_
        refine AllReadyH.cons rfl (fun K hK => ?_) (AllReadyH.nil)
        go_simp
        (refine (Back46 va vg 0 _ la.length la _ hHeld.2 hla1000).mono ?_)
        rintro e w30 ⟨v30, rfl, hown, hb⟩
        obtain ⟨ba, bg, bc, rfl, hstk⟩ := stk_own124 hown
        have B30 := Lib.hid hstk
        have hS2 := hHeld.below hb
        clear hown hstk hb
        refine hK.out _ _ hS2 (fun hHeld => ?_)
        clear hK K hS2
        (try simp only [Act.put]); (try simp only [List.setIfInBounds_toArray]); (try simp only [List.set_cons_succ]); (try simp only [List.set_cons_zero])
        refine wpAnyH_ready (rs := [19]) (by kernel_rfl) (by simp) ?_
        refine AllReadyH.cons rfl (fun K hK => ?_) (AllReadyH.nil)
        go_simp
        (refine (C45.out _ ba bg 0 bc la.length la hHeld.bel B30.out hla1000).mono ?_)
        rintro e w31 ⟨rfl, hb⟩
        rw [HCA.out]
        have hS2 := hHeld.below hb
        clear hb
        refine hK.out _ _ hS2 (fun hHeld => ?_)
        clear hK K hS2
        (try simp only [Act.put]); (try simp only [List.setIfInBounds_toArray]); (try simp only [List.set_cons_succ]); (try simp only [List.set_cons_zero])
        refine wpAnyH_ready (rs := [23]) (by kernel_rfl) (by simp) ?_
        refine AllReadyH.cons rfl (fun K hK => ?_) (AllReadyH.nil)
        go_simp
        (refine (C24.out _ hHeld.bel).mono ?_)
        rintro e w32 ⟨rfl, hb⟩
        have hS2 := hHeld.below hb
        clear hb
        refine hK.out _ _ hS2 (fun hHeld => ?_)
        clear hK K hS2
        (try simp only [Act.put]); (try simp only [List.setIfInBounds_toArray]); (try simp only [List.set_cons_succ]); (try simp only [List.set_cons_zero])
        refine wpAnyH_take (i := 24) (v := ?_) rfl (by kernel_rfl) (by kernel_rfl) (by kernel_rfl) (fun _ _ _ h => h) (Or.inl ⟨by kernel_rfl, ?h24⟩) hHeld ?_
        case h24 =>
          intro w' hSw
          (try dsimp only at hSw)
          go_simp
          (try with_reducible rfl)
        (try simp only [Act.put]); (try simp only [List.setIfInBounds_toArray]); (try simp only [List.set_cons_succ]); (try simp only [List.set_cons_zero])
        refine wpAnyH_take (i := 25) (v := ?_) rfl (by kernel_rfl) (by kernel_rfl) (by kernel_rfl) (fun _ _ _ h => h) (Or.inl ⟨by rfl, ?h25⟩) hHeld ?_
        case h25 =>
          intro w' hSw
          (try dsimp only at hSw)
          go_simp
          (try with_reducible rfl)
        (try simp only [Act.put]); (try simp only [List.setIfInBounds_toArray]); (try simp only [List.set_cons_succ]); (try simp only [List.set_cons_zero])
        refine wpAnyH_take (i := 26) (v := ?_) rfl (by kernel_rfl) (by kernel_rfl) (by kernel_rfl) (fun _ _ _ h => h) (Or.inl ⟨by rfl, ?h26⟩) hHeld ?_
        case h26 =>
          intro w' hSw
          (try dsimp only at hSw)
          go_simp
          (try with_reducible rfl)
        (try simp only [Act.put]); (try simp only [List.setIfInBounds_toArray]); (try simp only [List.set_cons_succ]); (try simp only [List.set_cons_zero])
        refine wpAnyH_ready (rs := [27]) (by kernel_rfl) (by simp) ?_
        refine AllReadyH.cons rfl (fun K hK => ?_) (AllReadyH.nil)
        go_simp
        (refine (awake_any _).mono ?_)
        rintro e wA ⟨rfl, hb⟩
        have hS2 := hHeld.below hb
        clear hb
        refine hK.out _ _ hS2 (fun hHeld => ?_)
        clear hK K hS2
        (try simp only [Act.put]); (try simp only [List.setIfInBounds_toArray]); (try simp only [List.set_cons_succ]); (try simp only [List.set_cons_zero])
        refine wpAnyH_take (i := 28) (v := ?_) rfl (by kernel_rfl) (by kernel_rfl) (by kernel_rfl) (fun _ _ _ h => h) (Or.inl ⟨by rfl, ?h28⟩) hHeld ?_
        case h28 =>
          intro w' hSw
          (try dsimp only at hSw)
          go_simp
          (try with_reducible rfl)
        (try simp only [Act.put]); (try simp only [List.setIfInBounds_toArray]); (try simp only [List.set_cons_succ]); (try simp only [List.set_cons_zero])
        refine wpAnyH_ready (rs := [29]) (by kernel_rfl) (by simp) ?_
        refine AllReadyH.cons rfl (fun K hK => ?_) (AllReadyH.nil)
        go_simp
        refine hK.out _ _ hHeld (fun hHeld => ?_)
        clear hK K
        (try simp only [Act.put]); (try simp only [List.setIfInBounds_toArray]); (try simp only [List.set_cons_succ]); (try simp only [List.set_cons_zero])
        refine wpAnyH_done (by kernel_rfl) ?_ _
        have SA := Lib.hid hHeld.bel
        go_wp2_with fail
        go_ret
        exact ⟨rfl, SA.out⟩
      | true =>
        cases b2 with
        | false =>
          obtain ⟨BS, hBS⟩ : ∃ BS : List (Nat × Array Value × TypeId), BS = [(w.heap.size, rulesC a n c R.soft R.al R.ot R.sk R.ss R.db, 24)] := ⟨_, rfl⟩
          have hS0 : KS w BS w8.drew := by rw [hBS]; exact (S8.out.sub (by simp)).drew
          have K0 : ∀ W, KT w BS va vg la.length la W → W.cell? ⟨w.heap.size, 0, none⟩ = some (.slice a n c) := fun W h => by rw [hBS] at h; exact (h.1.blkAt 0 rfl).cell 0
          have K1 : ∀ W, KT w BS va vg la.length la W → W.cell? ⟨w.heap.size, 1, none⟩ = some (.string R.soft) := fun W h => by rw [hBS] at h; exact (h.1.blkAt 0 rfl).cell 1
          have K2 : ∀ W, KT w BS va vg la.length la W → W.cell? ⟨w.heap.size, 2, none⟩ = some (.int .i64 R.al) := fun W h => by rw [hBS] at h; exact (h.1.blkAt 0 rfl).cell 2
          have K3 : ∀ W, KT w BS va vg la.length la W → W.cell? ⟨w.heap.size, 3, none⟩ = some (.int .i64 R.ot) := fun W h => by rw [hBS] at h; exact (h.1.blkAt 0 rfl).cell 3
          have K4 : ∀ W, KT w BS va vg la.length la W → W.cell? ⟨w.heap.size, 4, none⟩ = some (.int .i64 R.sk) := fun W h => by rw [hBS] at h; exact (h.1.blkAt 0 rfl).cell 4
          have K5 : ∀ W, KT w BS va vg la.length la W → W.cell? ⟨w.heap.size, 5, none⟩ = some (.int .i64 R.ss) := fun W h => by rw [hBS] at h; exact (h.1.blkAt 0 rfl).cell 5
          have K6 : ∀ W, KT w BS va vg la.length la W → W.cell? ⟨w.heap.size, 6, none⟩ = some (.int .i64 R.db) := fun W h => by rw [hBS] at h; exact (h.1.blkAt 0 rfl).cell 6
          have HBS := Lib.hid hBS
          clear hBS
          have hS : KT w BS va vg la.length la w8.drew := ⟨hS0, T8.out.below (Below.refl _ _).drew⟩
          clear hS0
          refine wp_region_held_drew (S := KT w BS va vg la.length la) (by kernel_rfl) hS (fun hHeld => ?_)
          clear hS
          refine wpAnyH_take (i := 0) (v := ?_) rfl (by kernel_rfl) (by kernel_rfl) (by kernel_rfl) (fun _ _ _ h => h) (Or.inl ⟨by rfl, ?h0⟩) hHeld ?_
          case h0 =>
            intro w' hSw
            (try dsimp only at hSw)
            go_simp
            (try with_reducible rfl)
          (try simp only [Act.put]); (try simp only [List.setIfInBounds_toArray]); (try simp only [List.set_cons_succ]); (try simp only [List.set_cons_zero])
          refine wpAnyH_take (i := 1) (v := ?_) rfl (by kernel_rfl) (by kernel_rfl) (by kernel_rfl) (fun _ _ _ h => h) (Or.inl ⟨by rfl, ?h1⟩) hHeld ?_
          case h1 =>
            intro w' hSw
            (try dsimp only at hSw)
            go_simp
            (try with_reducible rfl)
          (try simp only [Act.put]); (try simp only [List.setIfInBounds_toArray]); (try simp only [List.set_cons_succ]); (try simp only [List.set_cons_zero])
          refine wpAnyH_take (i := 2) (v := ?_) rfl (by kernel_rfl) (by kernel_rfl) (by kernel_rfl) (fun _ _ _ h => h) (Or.inl ⟨by rfl, ?h2⟩) hHeld ?_
          case h2 =>
            intro w' hSw
            (try dsimp only at hSw)
            go_simp
            (try with_reducible rfl)
          (try simp only [Act.put]); (try simp only [List.setIfInBounds_toArray]); (try simp only [List.set_cons_succ]); (try simp only [List.set_cons_zero])
          refine wpAnyH_take (i := 3) (v := ?_) rfl (by kernel_rfl) (by kernel_rfl) (by kernel_rfl) (fun _ _ _ h => h) (Or.inl ⟨by rfl, ?h3⟩) hHeld ?_
          case h3 =>
            intro w' hSw
            (try dsimp only at hSw)
            go_simp
            (try with_reducible rfl)
          (try simp only [Act.put]); (try simp only [List.setIfInBounds_toArray]); (try simp only [List.set_cons_succ]); (try simp only [List.set_cons_zero])
          refine wpAnyH_take (i := 4) (v := ?_) rfl (by kernel_rfl) (by kernel_rfl) (by kernel_rfl) (fun _ _ _ h => h) (Or.inl ⟨by kernel_rfl, ?h4⟩) hHeld ?_
          case h4 =>
            intro w' hSw
            (try dsimp only at hSw)
            go_simp
            (try with_reducible rfl)
          (try simp only [Act.put]); (try simp only [List.setIfInBounds_toArray]); (try simp only [List.set_cons_succ]); (try simp only [List.set_cons_zero])
          refine wpAnyH_take (i := 5) (v := ?_) rfl (by kernel_rfl) (by kernel_rfl) (by kernel_rfl) (fun _ _ _ h => h) (Or.inl ⟨by kernel_rfl, ?h5⟩) hHeld ?_
          case h5 =>
            intro w' hSw
            (try dsimp only at hSw)
            go_simp
            (try with_reducible rfl)
          (try simp only [Act.put]); (try simp only [List.setIfInBounds_toArray]); (try simp only [List.set_cons_succ]); (try simp only [List.set_cons_zero])
          refine wpAnyH_take (i := 6) (v := ?_) rfl (by kernel_rfl) (by kernel_rfl) (by kernel_rfl) (fun _ _ _ h => h) (Or.inl ⟨by kernel_rfl, ?h6⟩) hHeld ?_
          case h6 =>
            intro w' hSw
            (try dsimp only at hSw)
            go_simp
            (try with_reducible rfl)
          (try simp only [Act.put]); (try simp only [List.setIfInBounds_toArray]); (try simp only [List.set_cons_succ]); (try simp only [List.set_cons_zero])
          refine wpAnyH_take (i := 7) (v := ?_) rfl (by kernel_rfl) (by kernel_rfl) (by kernel_rfl) (fun _ _ _ h => h) (Or.inl ⟨by rfl, ?h7⟩) hHeld ?_
          case h7 =>
            intro w' hSw
            (try dsimp only at hSw)
            go_simp
            (try with_reducible rfl)
          (try simp only [Act.put]); (try simp only [List.setIfInBounds_toArray]); (try simp only [List.set_cons_succ]); (try simp only [List.set_cons_zero])
          refine wpAnyH_take (i := 8) (v := ?_) rfl (by kernel_rfl) (by kernel_rfl) (by kernel_rfl) (fun _ _ _ h => h) (Or.inl ⟨by rfl, ?h8⟩) hHeld ?_
          case h8 =>
            intro w' hSw
            (try dsimp only at hSw)
            go_simp
            (try with_reducible rfl)
          (try simp only [Act.put]); (try simp only [List.setIfInBounds_toArray]); (try simp only [List.set_cons_succ]); (try simp only [List.set_cons_zero])
          refine wpAnyH_take (i := 9) (v := ?_) rfl (by kernel_rfl) (by kernel_rfl) (by kernel_rfl) (fun _ _ _ h => h) (Or.inl ⟨by rfl, ?h9⟩) hHeld ?_
          case h9 =>
            intro w' hSw
            (try dsimp only at hSw)
            go_simp
            (try with_reducible rfl)
          (try simp only [Act.put]); (try simp only [List.setIfInBounds_toArray]); (try simp only [List.set_cons_succ]); (try simp only [List.set_cons_zero])
          refine wpAnyH_take (i := 10) (v := ?_) rfl (by kernel_rfl) (by kernel_rfl) (by kernel_rfl) (fun _ _ _ h => h) (Or.inl ⟨by kernel_rfl, ?h10⟩) hHeld ?_
          case h10 =>
            intro w' hSw
            (try dsimp only at hSw)
            go_simp
            (try with_reducible rfl)
          (try simp only [Act.put]); (try simp only [List.setIfInBounds_toArray]); (try simp only [List.set_cons_succ]); (try simp only [List.set_cons_zero])
          refine wpAnyH_take (i := 11) (v := ?_) rfl (by kernel_rfl) (by kernel_rfl) (by kernel_rfl) (fun _ _ _ h => h) (Or.inl ⟨by kernel_rfl, ?h11⟩) hHeld ?_
          case h11 =>
            intro w' hSw
            (try dsimp only at hSw)
            go_simp
            (try with_reducible rfl)
          (try simp only [Act.put]); (try simp only [List.setIfInBounds_toArray]); (try simp only [List.set_cons_succ]); (try simp only [List.set_cons_zero])
          refine wpAnyH_take (i := 12) (v := ?_) rfl (by kernel_rfl) (by kernel_rfl) (by kernel_rfl) (fun _ _ _ h => h) (Or.inl ⟨by rfl, ?h12⟩) hHeld ?_
          case h12 =>
            intro w' hSw
            (try dsimp only at hSw)
            go_simp
            (try with_reducible rfl)
          (try simp only [Act.put]); (try simp only [List.setIfInBounds_toArray]); (try simp only [List.set_cons_succ]); (try simp only [List.set_cons_zero])
          refine wpAnyH_take (i := 13) (v := ?_) rfl (by kernel_rfl) (by kernel_rfl) (by kernel_rfl) (fun _ _ _ h => h) (Or.inl ⟨by rfl, ?h13⟩) hHeld ?_
          case h13 =>
            intro w' hSw
            (try dsimp only at hSw)
            go_simp
            (try with_reducible rfl)
          (try simp only [Act.put]); (try simp only [List.setIfInBounds_toArray]); (try simp only [List.set_cons_succ]); (try simp only [List.set_cons_zero])
          refine wpAnyH_take (i := 14) (v := ?_) rfl (by kernel_rfl) (by kernel_rfl) (by kernel_rfl) (fun _ _ _ h => h) (Or.inl ⟨by kernel_rfl, ?h14⟩) hHeld ?_
          case h14 =>
            intro w' hSw
            (try dsimp only at hSw)
            go_simp
            (try with_reducible rfl)
          (try simp only [Act.put]); (try simp only [List.setIfInBounds_toArray]); (try simp only [List.set_cons_succ]); (try simp only [List.set_cons_zero])
          refine wpAnyH_take (i := 15) (v := ?_) rfl (by kernel_rfl) (by kernel_rfl) (by kernel_rfl) (fun _ _ _ h => h) (Or.inl ⟨by kernel_rfl, ?h15⟩) hHeld ?_
          case h15 =>
            intro w' hSw
            (try dsimp only at hSw)
            go_simp
            (try with_reducible rfl)
          (try simp only [Act.put]); (try simp only [List.setIfInBounds_toArray]); (try simp only [List.set_cons_succ]); (try simp only [List.set_cons_zero])
          refine wpAnyH_take (i := 16) (v := ?_) rfl (by kernel_rfl) (by kernel_rfl) (by kernel_rfl) (fun _ _ _ h => h) (Or.inl ⟨by kernel_rfl, ?h16⟩) hHeld ?_
          case h16 =>
            intro w' hSw
            (try dsimp only at hSw)
            go_simp
            (try with_reducible rfl)
          (try simp only [Act.put]); (try simp only [List.setIfInBounds_toArray]); (try simp only [List.set_cons_succ]); (try simp only [List.set_cons_zero])
          refine wpAnyH_take (i := 17) (v := ?_) rfl (by kernel_rfl) (by kernel_rfl) (by kernel_rfl) (fun _ _ _ h => h) (Or.inl ⟨by kernel_rfl, ?h17⟩) hHeld ?_
          case h17 =>
            intro w' hSw
            (try dsimp only at hSw)
            go_simp
            (try with_reducible rfl)
          (try simp only [Act.put]); (try simp only [List.setIfInBounds_toArray]); (try simp only [List.set_cons_succ]); (try simp only [List.set_cons_zero])
          refine wpAnyH_take (i := 20) (v := ?_) rfl (by kernel_rfl) (by kernel_rfl) (by kernel_rfl) (fun _ _ _ h => h) (Or.inl ⟨by kernel_rfl, ?h20⟩) hHeld ?_
          case h20 =>
            intro w' hSw
            (try dsimp only at hSw)
            go_simp
            (try with_reducible rfl)
          (try simp only [Act.put]); (try simp only [List.setIfInBounds_toArray]); (try simp only [List.set_cons_succ]); (try simp only [List.set_cons_zero])
          refine wpAnyH_take (i := 21) (v := ?_) rfl (by kernel_rfl) (by kernel_rfl) (by kernel_rfl) (fun _ _ _ h => h) (Or.inl ⟨by kernel_rfl, ?h21⟩) hHeld ?_
          case h21 =>
            intro w' hSw
            (try dsimp only at hSw)
            go_simp
            (try with_reducible rfl)
          (try simp only [Act.put]); (try simp only [List.setIfInBounds_toArray]); (try simp only [List.set_cons_succ]); (try simp only [List.set_cons_zero])
          refine wpAnyH_take (i := 22) (v := ?_) rfl (by kernel_rfl) (by kernel_rfl) (by kernel_rfl) (fun _ _ _ h => h) (Or.inl ⟨by kernel_rfl, ?h22⟩) hHeld ?_
          case h22 =>
            intro w' hSw
            (try dsimp only at hSw)
            go_simp
            (try with_reducible rfl)
          (try simp only [Act.put]); (try simp only [List.setIfInBounds_toArray]); (try simp only [List.set_cons_succ]); (try simp only [List.set_cons_zero])
          refine wpAnyH_ready (rs := [18]) (by kernel_rfl) (by simp) ?_
          refine AllReadyH.cons rfl (fun K hK => ?_) (AllReadyH.nil)
          go_simp
          (refine (Back46 va vg 0 _ la.length la _ hHeld.2 hla1000).mono ?_)
          rintro e w30 ⟨v30, rfl, hown, hb⟩
          obtain ⟨ba, bg, bc, rfl, hstk⟩ := stk_own124 hown
          have B30 := Lib.hid hstk
          have hS2 := hHeld.below hb
          clear hown hstk hb
          refine hK.out _ _ hS2 (fun hHeld => ?_)
          clear hK K hS2
          (try simp only [Act.put]); (try simp only [List.setIfInBounds_toArray]); (try simp only [List.set_cons_succ]); (try simp only [List.set_cons_zero])
          refine wpAnyH_ready (rs := [19]) (by kernel_rfl) (by simp) ?_
          refine AllReadyH.cons rfl (fun K hK => ?_) (AllReadyH.nil)
          go_simp
          (refine (C45.out _ ba bg 0 bc la.length la hHeld.bel B30.out hla1000).mono ?_)
          rintro e w31 ⟨rfl, hb⟩
          rw [HCA.out]
          have hS2 := hHeld.below hb
          clear hb
          refine hK.out _ _ hS2 (fun hHeld => ?_)
          clear hK K hS2
          (try simp only [Act.put]); (try simp only [List.setIfInBounds_toArray]); (try simp only [List.set_cons_succ]); (try simp only [List.set_cons_zero])
          refine wpAnyH_ready (rs := [23]) (by kernel_rfl) (by simp) ?_
          refine AllReadyH.cons rfl (fun K hK => ?_) (AllReadyH.nil)
          go_simp
          (refine (C24.out _ hHeld.bel).mono ?_)
          rintro e w32 ⟨rfl, hb⟩
          have hS2 := hHeld.below hb
          clear hb
          refine hK.out _ _ hS2 (fun hHeld => ?_)
          clear hK K hS2
          (try simp only [Act.put]); (try simp only [List.setIfInBounds_toArray]); (try simp only [List.set_cons_succ]); (try simp only [List.set_cons_zero])
          refine wpAnyH_take (i := 24) (v := ?_) rfl (by kernel_rfl) (by kernel_rfl) (by kernel_rfl) (fun _ _ _ h => h) (Or.inl ⟨by kernel_rfl, ?h24⟩) hHeld ?_
          case h24 =>
            intro w' hSw
            (try dsimp only at hSw)
            go_simp
            (try with_reducible rfl)
          (try simp only [Act.put]); (try simp only [List.setIfInBounds_toArray]); (try simp only [List.set_cons_succ]); (try simp only [List.set_cons_zero])
          refine wpAnyH_take (i := 25) (v := ?_) rfl (by kernel_rfl) (by kernel_rfl) (by kernel_rfl) (fun _ _ _ h => h) (Or.inl ⟨by rfl, ?h25⟩) hHeld ?_
          case h25 =>
            intro w' hSw
            (try dsimp only at hSw)
            go_simp
            (try with_reducible rfl)
          (try simp only [Act.put]); (try simp only [List.setIfInBounds_toArray]); (try simp only [List.set_cons_succ]); (try simp only [List.set_cons_zero])
          refine wpAnyH_take (i := 26) (v := ?_) rfl (by kernel_rfl) (by kernel_rfl) (by kernel_rfl) (fun _ _ _ h => h) (Or.inl ⟨by rfl, ?h26⟩) hHeld ?_
          case h26 =>
            intro w' hSw
            (try dsimp only at hSw)
            go_simp
            (try with_reducible rfl)
          (try simp only [Act.put]); (try simp only [List.setIfInBounds_toArray]); (try simp only [List.set_cons_succ]); (try simp only [List.set_cons_zero])
          refine wpAnyH_ready (rs := [27]) (by kernel_rfl) (by simp) ?_
          refine AllReadyH.cons rfl (fun K hK => ?_) (AllReadyH.nil)
          go_simp
          (refine (awake_any _).mono ?_)
          rintro e wA ⟨rfl, hb⟩
          have hS2 := hHeld.below hb
          clear hb
          refine hK.out _ _ hS2 (fun hHeld => ?_)
          clear hK K hS2
          (try simp only [Act.put]); (try simp only [List.setIfInBounds_toArray]); (try simp only [List.set_cons_succ]); (try simp only [List.set_cons_zero])
          refine wpAnyH_take (i := 28) (v := ?_) rfl (by kernel_rfl) (by kernel_rfl) (by kernel_rfl) (fun _ _ _ h => h) (Or.inl ⟨by rfl, ?h28⟩) hHeld ?_
          case h28 =>
            intro w' hSw
            (try dsimp only at hSw)
            go_simp
            (try with_reducible rfl)
          (try simp only [Act.put]); (try simp only [List.setIfInBounds_toArray]); (try simp only [List.set_cons_succ]); (try simp only [List.set_cons_zero])
          refine wpAnyH_ready (rs := [29]) (by kernel_rfl) (by simp) ?_
          refine AllReadyH.cons rfl (fun K hK => ?_) (AllReadyH.nil)
          go_simp
          refine hK.out _ _ hHeld (fun hHeld => ?_)
          clear hK K
          (try simp only [Act.put]); (try simp only [List.setIfInBounds_toArray]); (try simp only [List.set_cons_succ]); (try simp only [List.set_cons_zero])
          refine wpAnyH_done (by kernel_rfl) ?_ _
          have SA := Lib.hid hHeld.bel
          go_wp2_with fail
          go_ret
          exact ⟨rfl, SA.out⟩
        | true =>
          obtain ⟨BS, hBS⟩ : ∃ BS : List (Nat × Array Value × TypeId), BS = [(w.heap.size, rulesC a n c R.soft R.al R.ot R.sk R.ss R.db, 24)] := ⟨_, rfl⟩
          have hS0 : KS w BS w8.drew := by rw [hBS]; exact (S8.out.sub (by simp)).drew
          have K0 : ∀ W, KT w BS va vg la.length la W → W.cell? ⟨w.heap.size, 0, none⟩ = some (.slice a n c) := fun W h => by rw [hBS] at h; exact (h.1.blkAt 0 rfl).cell 0
          have K1 : ∀ W, KT w BS va vg la.length la W → W.cell? ⟨w.heap.size, 1, none⟩ = some (.string R.soft) := fun W h => by rw [hBS] at h; exact (h.1.blkAt 0 rfl).cell 1
          have K2 : ∀ W, KT w BS va vg la.length la W → W.cell? ⟨w.heap.size, 2, none⟩ = some (.int .i64 R.al) := fun W h => by rw [hBS] at h; exact (h.1.blkAt 0 rfl).cell 2
          have K3 : ∀ W, KT w BS va vg la.length la W → W.cell? ⟨w.heap.size, 3, none⟩ = some (.int .i64 R.ot) := fun W h => by rw [hBS] at h; exact (h.1.blkAt 0 rfl).cell 3
          have K4 : ∀ W, KT w BS va vg la.length la W → W.cell? ⟨w.heap.size, 4, none⟩ = some (.int .i64 R.sk) := fun W h => by rw [hBS] at h; exact (h.1.blkAt 0 rfl).cell 4
          have K5 : ∀ W, KT w BS va vg la.length la W → W.cell? ⟨w.heap.size, 5, none⟩ = some (.int .i64 R.ss) := fun W h => by rw [hBS] at h; exact (h.1.blkAt 0 rfl).cell 5
          have K6 : ∀ W, KT w BS va vg la.length la W → W.cell? ⟨w.heap.size, 6, none⟩ = some (.int .i64 R.db) := fun W h => by rw [hBS] at h; exact (h.1.blkAt 0 rfl).cell 6
          have HBS := Lib.hid hBS
          clear hBS
          have hS : KT w BS va vg la.length la w8.drew := ⟨hS0, T8.out.below (Below.refl _ _).drew⟩
          clear hS0
          refine wp_region_held_drew (S := KT w BS va vg la.length la) (by kernel_rfl) hS (fun hHeld => ?_)
          clear hS
          refine wpAnyH_take (i := 0) (v := ?_) rfl (by kernel_rfl) (by kernel_rfl) (by kernel_rfl) (fun _ _ _ h => h) (Or.inl ⟨by rfl, ?h0⟩) hHeld ?_
          case h0 =>
            intro w' hSw
            (try dsimp only at hSw)
            go_simp
            (try with_reducible rfl)
          (try simp only [Act.put]); (try simp only [List.setIfInBounds_toArray]); (try simp only [List.set_cons_succ]); (try simp only [List.set_cons_zero])
          refine wpAnyH_take (i := 1) (v := ?_) rfl (by kernel_rfl) (by kernel_rfl) (by kernel_rfl) (fun _ _ _ h => h) (Or.inl ⟨by rfl, ?h1⟩) hHeld ?_
          case h1 =>
            intro w' hSw
            (try dsimp only at hSw)
            go_simp
            (try with_reducible rfl)
          (try simp only [Act.put]); (try simp only [List.setIfInBounds_toArray]); (try simp only [List.set_cons_succ]); (try simp only [List.set_cons_zero])
          refine wpAnyH_take (i := 2) (v := ?_) rfl (by kernel_rfl) (by kernel_rfl) (by kernel_rfl) (fun _ _ _ h => h) (Or.inl ⟨by rfl, ?h2⟩) hHeld ?_
          case h2 =>
            intro w' hSw
            (try dsimp only at hSw)
            go_simp
            (try with_reducible rfl)
          (try simp only [Act.put]); (try simp only [List.setIfInBounds_toArray]); (try simp only [List.set_cons_succ]); (try simp only [List.set_cons_zero])
          refine wpAnyH_take (i := 3) (v := ?_) rfl (by kernel_rfl) (by kernel_rfl) (by kernel_rfl) (fun _ _ _ h => h) (Or.inl ⟨by rfl, ?h3⟩) hHeld ?_
          case h3 =>
            intro w' hSw
            (try dsimp only at hSw)
            go_simp
            (try with_reducible rfl)
          (try simp only [Act.put]); (try simp only [List.setIfInBounds_toArray]); (try simp only [List.set_cons_succ]); (try simp only [List.set_cons_zero])
          refine wpAnyH_take (i := 4) (v := ?_) rfl (by kernel_rfl) (by kernel_rfl) (by kernel_rfl) (fun _ _ _ h => h) (Or.inl ⟨by kernel_rfl, ?h4⟩) hHeld ?_
          case h4 =>
            intro w' hSw
            (try dsimp only at hSw)
            go_simp
            (try with_reducible rfl)
          (try simp only [Act.put]); (try simp only [List.setIfInBounds_toArray]); (try simp only [List.set_cons_succ]); (try simp only [List.set_cons_zero])
          refine wpAnyH_take (i := 5) (v := ?_) rfl (by kernel_rfl) (by kernel_rfl) (by kernel_rfl) (fun _ _ _ h => h) (Or.inl ⟨by kernel_rfl, ?h5⟩) hHeld ?_
          case h5 =>
            intro w' hSw
            (try dsimp only at hSw)
            go_simp
            (try with_reducible rfl)
          (try simp only [Act.put]); (try simp only [List.setIfInBounds_toArray]); (try simp only [List.set_cons_succ]); (try simp only [List.set_cons_zero])
          refine wpAnyH_take (i := 6) (v := ?_) rfl (by kernel_rfl) (by kernel_rfl) (by kernel_rfl) (fun _ _ _ h => h) (Or.inl ⟨by kernel_rfl, ?h6⟩) hHeld ?_
          case h6 =>
            intro w' hSw
            (try dsimp only at hSw)
            go_simp
            (try with_reducible rfl)
          (try simp only [Act.put]); (try simp only [List.setIfInBounds_toArray]); (try simp only [List.set_cons_succ]); (try simp only [List.set_cons_zero])
          refine wpAnyH_take (i := 7) (v := ?_) rfl (by kernel_rfl) (by kernel_rfl) (by kernel_rfl) (fun _ _ _ h => h) (Or.inl ⟨by rfl, ?h7⟩) hHeld ?_
          case h7 =>
            intro w' hSw
            (try dsimp only at hSw)
            go_simp
            (try with_reducible rfl)
          (try simp only [Act.put]); (try simp only [List.setIfInBounds_toArray]); (try simp only [List.set_cons_succ]); (try simp only [List.set_cons_zero])
          refine wpAnyH_take (i := 8) (v := ?_) rfl (by kernel_rfl) (by kernel_rfl) (by kernel_rfl) (fun _ _ _ h => h) (Or.inl ⟨by rfl, ?h8⟩) hHeld ?_
          case h8 =>
            intro w' hSw
            (try dsimp only at hSw)
            go_simp
            (try with_reducible rfl)
          (try simp only [Act.put]); (try simp only [List.setIfInBounds_toArray]); (try simp only [List.set_cons_succ]); (try simp only [List.set_cons_zero])
          refine wpAnyH_take (i := 9) (v := ?_) rfl (by kernel_rfl) (by kernel_rfl) (by kernel_rfl) (fun _ _ _ h => h) (Or.inl ⟨by rfl, ?h9⟩) hHeld ?_
          case h9 =>
            intro w' hSw
            (try dsimp only at hSw)
            go_simp
            (try with_reducible rfl)
          (try simp only [Act.put]); (try simp only [List.setIfInBounds_toArray]); (try simp only [List.set_cons_succ]); (try simp only [List.set_cons_zero])
          refine wpAnyH_take (i := 10) (v := ?_) rfl (by kernel_rfl) (by kernel_rfl) (by kernel_rfl) (fun _ _ _ h => h) (Or.inl ⟨by kernel_rfl, ?h10⟩) hHeld ?_
          case h10 =>
            intro w' hSw
            (try dsimp only at hSw)
            go_simp
            (try with_reducible rfl)
          (try simp only [Act.put]); (try simp only [List.setIfInBounds_toArray]); (try simp only [List.set_cons_succ]); (try simp only [List.set_cons_zero])
          refine wpAnyH_take (i := 11) (v := ?_) rfl (by kernel_rfl) (by kernel_rfl) (by kernel_rfl) (fun _ _ _ h => h) (Or.inl ⟨by kernel_rfl, ?h11⟩) hHeld ?_
          case h11 =>
            intro w' hSw
            (try dsimp only at hSw)
            go_simp
            (try with_reducible rfl)
          (try simp only [Act.put]); (try simp only [List.setIfInBounds_toArray]); (try simp only [List.set_cons_succ]); (try simp only [List.set_cons_zero])
          refine wpAnyH_take (i := 12) (v := ?_) rfl (by kernel_rfl) (by kernel_rfl) (by kernel_rfl) (fun _ _ _ h => h) (Or.inl ⟨by rfl, ?h12⟩) hHeld ?_
          case h12 =>
            intro w' hSw
            (try dsimp only at hSw)
            go_simp
            (try with_reducible rfl)
          (try simp only [Act.put]); (try simp only [List.setIfInBounds_toArray]); (try simp only [List.set_cons_succ]); (try simp only [List.set_cons_zero])
          refine wpAnyH_take (i := 13) (v := ?_) rfl (by kernel_rfl) (by kernel_rfl) (by kernel_rfl) (fun _ _ _ h => h) (Or.inl ⟨by rfl, ?h13⟩) hHeld ?_
          case h13 =>
            intro w' hSw
            (try dsimp only at hSw)
            go_simp
            (try with_reducible rfl)
          (try simp only [Act.put]); (try simp only [List.setIfInBounds_toArray]); (try simp only [List.set_cons_succ]); (try simp only [List.set_cons_zero])
          refine wpAnyH_take (i := 14) (v := ?_) rfl (by kernel_rfl) (by kernel_rfl) (by kernel_rfl) (fun _ _ _ h => h) (Or.inl ⟨by kernel_rfl, ?h14⟩) hHeld ?_
          case h14 =>
            intro w' hSw
            (try dsimp only at hSw)
            go_simp
            (try with_reducible rfl)
          (try simp only [Act.put]); (try simp only [List.setIfInBounds_toArray]); (try simp only [List.set_cons_succ]); (try simp only [List.set_cons_zero])
          refine wpAnyH_take (i := 15) (v := ?_) rfl (by kernel_rfl) (by kernel_rfl) (by kernel_rfl) (fun _ _ _ h => h) (Or.inl ⟨by kernel_rfl, ?h15⟩) hHeld ?_
          case h15 =>
            intro w' hSw
            (try dsimp only at hSw)
            go_simp
            (try with_reducible rfl)
          (try simp only [Act.put]); (try simp only [List.setIfInBounds_toArray]); (try simp only [List.set_cons_succ]); (try simp only [List.set_cons_zero])
          refine wpAnyH_take (i := 16) (v := ?_) rfl (by kernel_rfl) (by kernel_rfl) (by kernel_rfl) (fun _ _ _ h => h) (Or.inl ⟨by kernel_rfl, ?h16⟩) hHeld ?_
          case h16 =>
            intro w' hSw
            (try dsimp only at hSw)
            go_simp
            (try with_reducible rfl)
          (try simp only [Act.put]); (try simp only [List.setIfInBounds_toArray]); (try simp only [List.set_cons_succ]); (try simp only [List.set_cons_zero])
          refine wpAnyH_take (i := 17) (v := ?_) rfl (by kernel_rfl) (by kernel_rfl) (by kernel_rfl) (fun _ _ _ h => h) (Or.inl ⟨by kernel_rfl, ?h17⟩) hHeld ?_
          case h17 =>
            intro w' hSw
            (try dsimp only at hSw)
            go_simp
            (try with_reducible rfl)
          (try simp only [Act.put]); (try simp only [List.setIfInBounds_toArray]); (try simp only [List.set_cons_succ]); (try simp only [List.set_cons_zero])
          refine wpAnyH_take (i := 20) (v := ?_) rfl (by kernel_rfl) (by kernel_rfl) (by kernel_rfl) (fun _ _ _ h => h) (Or.inl ⟨by kernel_rfl, ?h20⟩) hHeld ?_
          case h20 =>
            intro w' hSw
            (try dsimp only at hSw)
            go_simp
            (try with_reducible rfl)
          (try simp only [Act.put]); (try simp only [List.setIfInBounds_toArray]); (try simp only [List.set_cons_succ]); (try simp only [List.set_cons_zero])
          refine wpAnyH_take (i := 21) (v := ?_) rfl (by kernel_rfl) (by kernel_rfl) (by kernel_rfl) (fun _ _ _ h => h) (Or.inl ⟨by kernel_rfl, ?h21⟩) hHeld ?_
          case h21 =>
            intro w' hSw
            (try dsimp only at hSw)
            go_simp
            (try with_reducible rfl)
          (try simp only [Act.put]); (try simp only [List.setIfInBounds_toArray]); (try simp only [List.set_cons_succ]); (try simp only [List.set_cons_zero])
          refine wpAnyH_take (i := 22) (v := ?_) rfl (by kernel_rfl) (by kernel_rfl) (by kernel_rfl) (fun _ _ _ h => h) (Or.inl ⟨by kernel_rfl, ?h22⟩) hHeld ?_
          case h22 =>
            intro w' hSw
            (try dsimp only at hSw)
            go_simp
            (try with_reducible rfl)
          (try simp only [Act.put]); (try simp only [List.setIfInBounds_toArray]); (try simp only [List.set_cons_succ]); (try simp only [List.set_cons_zero])
          refine wpAnyH_ready (rs := [18]) (by kernel_rfl) (by simp) ?_
          refine AllReadyH.cons rfl (fun K hK => ?_) (AllReadyH.nil)
          go_simp
          (refine (Back46 va vg 0 _ la.length la _ hHeld.2 hla1000).mono ?_)
          rintro e w30 ⟨v30, rfl, hown, hb⟩
          obtain ⟨ba, bg, bc, rfl, hstk⟩ := stk_own124 hown
          have B30 := Lib.hid hstk
          have hS2 := hHeld.below hb
          clear hown hstk hb
          refine hK.out _ _ hS2 (fun hHeld => ?_)
          clear hK K hS2
          (try simp only [Act.put]); (try simp only [List.setIfInBounds_toArray]); (try simp only [List.set_cons_succ]); (try simp only [List.set_cons_zero])
          refine wpAnyH_ready (rs := [19]) (by kernel_rfl) (by simp) ?_
          refine AllReadyH.cons rfl (fun K hK => ?_) (AllReadyH.nil)
          go_simp
          (refine (C45.out _ ba bg 0 bc la.length la hHeld.bel B30.out hla1000).mono ?_)
          rintro e w31 ⟨rfl, hb⟩
          rw [HCA.out]
          have hS2 := hHeld.below hb
          clear hb
          refine hK.out _ _ hS2 (fun hHeld => ?_)
          clear hK K hS2
          (try simp only [Act.put]); (try simp only [List.setIfInBounds_toArray]); (try simp only [List.set_cons_succ]); (try simp only [List.set_cons_zero])
          refine wpAnyH_ready (rs := [23]) (by kernel_rfl) (by simp) ?_
          refine AllReadyH.cons rfl (fun K hK => ?_) (AllReadyH.nil)
          go_simp
          (refine (C24.out _ hHeld.bel).mono ?_)
          rintro e w32 ⟨rfl, hb⟩
          have hS2 := hHeld.below hb
          clear hb
          refine hK.out _ _ hS2 (fun hHeld => ?_)
          clear hK K hS2
          (try simp only [Act.put]); (try simp only [List.setIfInBounds_toArray]); (try simp only [List.set_cons_succ]); (try simp only [List.set_cons_zero])
          refine wpAnyH_take (i := 24) (v := ?_) rfl (by kernel_rfl) (by kernel_rfl) (by kernel_rfl) (fun _ _ _ h => h) (Or.inl ⟨by kernel_rfl, ?h24⟩) hHeld ?_
          case h24 =>
            intro w' hSw
            (try dsimp only at hSw)
            go_simp
            (try with_reducible rfl)
          (try simp only [Act.put]); (try simp only [List.setIfInBounds_toArray]); (try simp only [List.set_cons_succ]); (try simp only [List.set_cons_zero])
          refine wpAnyH_take (i := 25) (v := ?_) rfl (by kernel_rfl) (by kernel_rfl) (by kernel_rfl) (fun _ _ _ h => h) (Or.inl ⟨by rfl, ?h25⟩) hHeld ?_
          case h25 =>
            intro w' hSw
            (try dsimp only at hSw)
            go_simp
            (try with_reducible rfl)
          (try simp only [Act.put]); (try simp only [List.setIfInBounds_toArray]); (try simp only [List.set_cons_succ]); (try simp only [List.set_cons_zero])
          refine wpAnyH_take (i := 26) (v := ?_) rfl (by kernel_rfl) (by kernel_rfl) (by kernel_rfl) (fun _ _ _ h => h) (Or.inl ⟨by rfl, ?h26⟩) hHeld ?_
          case h26 =>
            intro w' hSw
            (try dsimp only at hSw)
            go_simp
            (try with_reducible rfl)
          (try simp only [Act.put]); (try simp only [List.setIfInBounds_toArray]); (try simp only [List.set_cons_succ]); (try simp only [List.set_cons_zero])
          refine wpAnyH_ready (rs := [27]) (by kernel_rfl) (by simp) ?_
          refine AllReadyH.cons rfl (fun K hK => ?_) (AllReadyH.nil)
          go_simp
          (refine (awake_any _).mono ?_)
          rintro e wA ⟨rfl, hb⟩
          have hS2 := hHeld.below hb
          clear hb
          refine hK.out _ _ hS2 (fun hHeld => ?_)
          clear hK K hS2
          (try simp only [Act.put]); (try simp only [List.setIfInBounds_toArray]); (try simp only [List.set_cons_succ]); (try simp only [List.set_cons_zero])
          refine wpAnyH_take (i := 28) (v := ?_) rfl (by kernel_rfl) (by kernel_rfl) (by kernel_rfl) (fun _ _ _ h => h) (Or.inl ⟨by rfl, ?h28⟩) hHeld ?_
          case h28 =>
            intro w' hSw
            (try dsimp only at hSw)
            go_simp
            (try with_reducible rfl)
          (try simp only [Act.put]); (try simp only [List.setIfInBounds_toArray]); (try simp only [List.set_cons_succ]); (try simp only [List.set_cons_zero])
          refine wpAnyH_ready (rs := [29]) (by kernel_rfl) (by simp) ?_
          refine AllReadyH.cons rfl (fun K hK => ?_) (AllReadyH.nil)
          go_simp
          refine hK.out _ _ hHeld (fun hHeld => ?_)
          clear hK K
          (try simp only [Act.put]); (try simp only [List.setIfInBounds_toArray]); (try simp only [List.set_cons_succ]); (try simp only [List.set_cons_zero])
          refine wpAnyH_done (by kernel_rfl) ?_ _
          have SA := Lib.hid hHeld.bel
          go_wp2_with fail
          go_ret
          exact ⟨rfl, SA.out⟩
    · have HB := Lib.hid (fun l' k => pvB_bad h0 l' k)
      have HV := Lib.hid (Ne.intro h0 : chkN R [x, y] ≠ 0)
      generalize hv : chkN R [x, y] = v at *
      have HVV := Lib.hid hv
      have t0 : ((v : Int) == 0) = false := by rw [beq_eq_false_iff_ne]; omega
      have t1 : ((v : Int) != 0) = true := by rw [bne, t0]; rfl
      have s0 := ((KS.start w).new (rulesC a n c R.soft R.al R.ot R.sk R.ss R.db) 24)
      obtain ⟨kb0_0, kb0_1, kb0_2, kb0_3, kb0_4, kb0_5, kb0_6⟩ := (s0.blkAt 0 rfl).c7
      have S0 := Lib.hid s0
      clear s0 hr hk hc hst hcost hl hx hy hxy hnn hn1000 ht hq h0 hv
      go_enter Tryz.func15, Tryz.ntmps15
      go_wp2_with fail
      refine (C17.out _ (w.heap.size + 1) ((S0.out.bel).alloc S0.out.size _) (two_new w _ _ _ _).2.1).mono ?_
      rintro e w1 ⟨rfl, hb⟩
      clear kb0_0 kb0_1 kb0_2 kb0_3 kb0_4 kb0_5 kb0_6
      have s1 := (S0.out.alloc (.cells #[.string x, .string y] 9)).below hb
      obtain ⟨kb0_0, kb0_1, kb0_2, kb0_3, kb0_4, kb0_5, kb0_6⟩ := (s1.blkAt 0 rfl).c7
      have S1 := Lib.hid s1
      clear hb s1
      go_wp2_with fail
      refine (C20.out _ S1.out.bel).mono ?_
      rintro e w2 ⟨a2, g2, c2, rfl, hsk, hle2, hb⟩
      have HK2 := Lib.hid hsk
      clear hsk
      clear kb0_0 kb0_1 kb0_2 kb0_3 kb0_4 kb0_5 kb0_6
      have s2 := S1.out.below hb
      obtain ⟨kb0_0, kb0_1, kb0_2, kb0_3, kb0_4, kb0_5, kb0_6⟩ := (s2.blkAt 0 rfl).c7
      have S2 := Lib.hid s2
      clear hb s2
      go_wp2_with fail
      refine (Align_bad a2 g2 0 c2 n R _ HN.out HK2.out hle2 HT.out x y hx' hy' _ HVV.out HV.out).mono ?_
      rintro e w3 ⟨rfl, hb⟩
      clear kb0_0 kb0_1 kb0_2 kb0_3 kb0_4 kb0_5 kb0_6
      have s3 := S2.out.below hb
      obtain ⟨kb0_0, kb0_1, kb0_2, kb0_3, kb0_4, kb0_5, kb0_6⟩ := (s3.blkAt 0 rfl).c7
      have S3 := Lib.hid s3
      clear hb s3
      go_wp2_with fail
      refine (C20.out _ S3.out.bel).mono ?_
      rintro e w4 ⟨a4, g4, c4, rfl, hsk, hle4, hb⟩
      have HK4 := Lib.hid hsk
      clear hsk
      clear kb0_0 kb0_1 kb0_2 kb0_3 kb0_4 kb0_5 kb0_6
      have s4 := S3.out.below hb
      obtain ⟨kb0_0, kb0_1, kb0_2, kb0_3, kb0_4, kb0_5, kb0_6⟩ := (s4.blkAt 0 rfl).c7
      have S4 := Lib.hid s4
      clear hb s4
      go_wp2_with fail
      refine (C44.out _ S4.out.bel).mono ?_
      rintro e w5 ⟨v5, rfl, hown, hb⟩
      obtain ⟨pa, pg, pc, rfl, hstk⟩ := stk_own122 hown
      have P5 := Lib.hid hstk
      have HK5 := Lib.hid (HK4.out.below hb)
      clear hown hstk
      clear kb0_0 kb0_1 kb0_2 kb0_3 kb0_4 kb0_5 kb0_6
      have s5 := S4.out.below hb
      obtain ⟨kb0_0, kb0_1, kb0_2, kb0_3, kb0_4, kb0_5, kb0_6⟩ := (s5.blkAt 0 rfl).c7
      have S5 := Lib.hid s5
      clear hb s5
      go_wp2_with fail
      refine (ProveAlign_bad a4 g4 0 c4 n R _ HN.out HK5.out hle4 HT.out x y hx' hy' pa pg 0 pc q l P5.out hq1000 cost _ HVV.out HV.out).mono ?_
      rintro e w6 ⟨rfl, hb⟩
      clear kb0_0 kb0_1 kb0_2 kb0_3 kb0_4 kb0_5 kb0_6
      have s6 := S5.out.below hb
      obtain ⟨kb0_0, kb0_1, kb0_2, kb0_3, kb0_4, kb0_5, kb0_6⟩ := (s6.blkAt 0 rfl).c7
      have S6 := Lib.hid s6
      clear hb s6
      rw [HB.out]
      go_wp2_with fail
      refine (C22.out _ w6.heap.size (S6.out.bel.alloc S6.out.size _) (Blk.new w6 _ _)).mono ?_
      rintro e w7 ⟨rfl, hb⟩
      clear kb0_0 kb0_1 kb0_2 kb0_3 kb0_4 kb0_5 kb0_6
      have s7 := (S6.out.alloc (.cells #[.string x, .string y] 9)).below hb
      obtain ⟨kb0_0, kb0_1, kb0_2, kb0_3, kb0_4, kb0_5, kb0_6⟩ := (s7.blkAt 0 rfl).c7
      have S7 := Lib.hid s7
      clear hb s7
      go_wp2_with (first | (go_at_call 18; (refine (awake_any _).mono ?_); rintro e wA ⟨rfl, hbA⟩; have SA := Lib.hid (S7.out.bel.trans (hbA.mono S7.out.bel.size)); clear hbA))
      go_ret
      exact ⟨rfl, SA.out⟩
end Go.Proofs.YtkdflgaahhnigaaGreat

namespace Go.Proofs.YtkdflgaahhnigaaGreat.nameAligns
open Go.ChangeShapes Go.WideShapes Go.ChangeAt Go.RowKit Go.Joins Go.Deep
open Go.ChangeMaps (open_string)

theorem own : ownKnob Tryz.prog.godebug = none := by kernel_rfl
theorem laidOut : laidOutB Tryz.prog = true := by kernel_rfl

set_option maxRecDepth 100000 in
theorem lifted (os : Os) (started : os.Started) (H : Type) (enc : TypeId × Value → H) :
    ReturnsInHanded {} Tryz.checked os 15 .any (Rows.nameAlignsSpec.pre6 enc Tryz.prog Tryz.f15 Rows.nameAlignsRow.domain false) (Rows.nameAlignsSpec.post enc Tryz.prog Tryz.f15 false true false false) := by
  refine returnsInHanded_of_change (C := Tryz.checked) own started (by kernel_rfl) Tryz.func15
    (ChangeSpec.witness6 (enc := enc) (C := Tryz.checked) false ⟨#[], #[.agg #[.slice none 0 0, .string ⟨#[]⟩, .int .i64 0, .int .i64 0, .int .i64 0, .int .i64 0, .int .i64 0], .string ⟨#[]⟩, .string ⟨#[]⟩, .slice none 0 0, .int .i64 0], []⟩ 8 (by kernel_rfl) (by kernel_rfl) (by kernel_rfl) (by kernel_rfl)) ?_
  intro W base args ds gs before hval0 hW hcnd _
  have hval : ∀ (j : Nat) t v, Tryz.f15.params[j]? = some t → args[j]? = some v → Value.okWide Tryz.prog W .any base t v := hval0
  have hW' := hW
  obtain ⟨p, q, hA0, hV, rfl, hfz, hnd⟩ := hW
  have hA : DataW.TrodAll enc Tryz.prog W 0 (fun _ => true) true Tryz.f15.params.toList args.toList ds p := hA0
  rw [Tryz.params15] at hA hval
  obtain ⟨v0, vs0, d0, ds0, p0, q0, hargs, rfl, rfl, h0, r0⟩ := trodAll_cons hA
  obtain ⟨v1, vs1, d1, ds1, p1, q1, rfl, rfl, rfl, h1, r1⟩ := trodAll_cons r0
  obtain ⟨v2, vs2, d2, ds2, p2, q2, rfl, rfl, rfl, h2, r2⟩ := trodAll_cons r1
  obtain ⟨v3, vs3, d3, ds3, p3, q3, rfl, rfl, rfl, h3, r3⟩ := trodAll_cons r2
  obtain ⟨v4, vs4, d4, ds4, p4, q4, rfl, rfl, rfl, h4, r4⟩ := trodAll_cons r3
  obtain ⟨rfl, rfl, rfl⟩ := trodAll_nil r4
  obtain rfl : args = #[v0, v1, v2, v3, v4] := by cases args; simp_all
  obtain ⟨rfl, rfl⟩ := trodVars_none hV
  have k0 := h0
  have lt0 : ∀ x ∈ p0, x.block < W.heap.size := by obtain ⟨m, hm⟩ := k0; exact DataW.trod_lt m _ _ _ hm
  obtain ⟨a0, n0, c0, g0, o0, R0, rfl, sk0, hc0⟩ := open_rules (hval 0 24 v0 rfl rfl) h0
  have k1 := h1
  have lt1 : ∀ x ∈ p1, x.block < W.heap.size := by obtain ⟨m, hm⟩ := k1; exact DataW.trod_lt m _ _ _ hm
  obtain ⟨s1, rfl, rfl, rfl, w1⟩ := open_string Tryz.underlying9 (hval 1 9 v1 rfl rfl) h1
  have k2 := h2
  have lt2 : ∀ x ∈ p2, x.block < W.heap.size := by obtain ⟨m, hm⟩ := k2; exact DataW.trod_lt m _ _ _ hm
  obtain ⟨s2, rfl, rfl, rfl, w2⟩ := open_string Tryz.underlying9 (hval 2 9 v2 rfl rfl) h2
  have k3 := h3
  have lt3 : ∀ x ∈ p3, x.block < W.heap.size := by obtain ⟨m, hm⟩ := k3; exact DataW.trod_lt m _ _ _ hm
  obtain ⟨a3, n3, c3, rfl⟩ := okWide_slice Tryz.underlying73 (hval 3 73 v3 rfl rfl)
  obtain ⟨g3, o3, l3, sk3, hc3⟩ := row_of_steps h3
  have k4 := h4
  have lt4 : ∀ x ∈ p4, x.block < W.heap.size := by obtain ⟨m, hm⟩ := k4; exact DataW.trod_lt m _ _ _ hm
  obtain ⟨a4, rfl, rfl, rfl, w4⟩ := open_int Tryz.underlying3 (hval 4 3 v4 rfl rfl) h4
  clear hA0 hval0
  refine (NameAligns_walk a0 g0 o0 c0 n0 R0 W sk0 hc0 s1 s2 a3 g3 o3 c3 n3 l3 sk3 a4 w4).mono fun e W' ⟨he, bel⟩ => ?_
  subst he
  exact ⟨_, rfl, _, _, _, [], _, [], hW', trodAll_mk1 (shut_bool Tryz.underlying4 _), (trodAll_cons_mk (Below.trod laidOut (by kernel_rfl) (of_decide_eq_true (by kernel_rfl)) k0 bel lt0) (trodAll_cons_mk (Below.trod laidOut (by kernel_rfl) (of_decide_eq_true (by kernel_rfl)) k1 bel lt1) (trodAll_cons_mk (Below.trod laidOut (by kernel_rfl) (of_decide_eq_true (by kernel_rfl)) k2 bel lt2) (trodAll_cons_mk (Below.trod laidOut (by kernel_rfl) (of_decide_eq_true (by kernel_rfl)) k3 bel lt3) (trodAll_cons_mk (Below.trod laidOut (by kernel_rfl) (of_decide_eq_true (by kernel_rfl)) k4 bel lt4) trodAll_mk0))))), rfl, bel.frame _, fun h => by cases h⟩

theorem over : Rows.nameAlignsRow.holds Tryz.pinned (OpenSpec.ofChange Rows.nameAlignsSpec) :=
  OpenClaim.holds_of_wide 15 Tryz.f15 rfl rfl rfl rfl rfl rfl rfl ⟨rfl, rfl, rfl, rfl, rfl⟩ rfl rfl rfl rfl rfl (by kernel_rfl) Tryz.func15 (by kernel_rfl)
    (of_decide_eq_true (by kernel_rfl)) (by unfold Func.isWrapper; first | (rw [if_pos (by decide +kernel)]; kernel_rfl) | (rw [if_neg (by decide +kernel)]; exact ⟨rfl, rfl⟩))
    (fun os started H enc _ => lifted os started H enc)
end Go.Proofs.YtkdflgaahhnigaaGreat.nameAligns
namespace Go.Proofs.YtkdflgaahhnigaaGreat
/-- THE STATEMENT -/
theorem nameAligns_holds : Rows.NameAlignsSaid := nameAligns.over
#print axioms nameAligns_holds
end Go.Proofs.YtkdflgaahhnigaaGreat
