/- NameCenters: the walk. NameCenters: for every input the statement returns true, and each argument reads behind the call as it read before. No condition. -/
import Derived.Test.YtkdflgaahhnigaaGreatC20
import Derived.Test.YtkdflgaahhnigaaGreatC21
import Derived.Test.YtkdflgaahhnigaaGreatC12
import Derived.ProofKit
import Derived.OpenShut
import Derived.ShutString
import Derived.ChangeOld
import Derived.Below
import Derived.Lib.SmallJoins
import Derived.Deep.Slices
set_option linter.unusedVariables false
set_option linter.unusedSimpArgs false
namespace Go.Proofs.YtkdflgaahhnigaaGreat
open Go.RowKit Go.Shelf

theorem lst_chk3 {R : RB} {ys : List ByteArray} (h : lstN R ys [] = 0) : ys.length ≤ 12 ∧ Good R ∧ NmsOk ys := by
  unfold lstN at h
  by_cases h12 : 12 < ys.length
  · rw [if_pos h12] at h; cases h
  · rw [if_neg h12, List.append_nil] at h
    exact ⟨by omega, (chkN_ok h).1, (chkN_ok h).2⟩
theorem best_one (t : Nat → Nat) : Nm.best t 1 = 0 := by rw [Nm.best]; split <;> rfl
set_option maxRecDepth 100000 in
set_option maxHeartbeats 8000000 in
theorem NameCenters_walk (a : Option Addr) (g o c n : Nat) (R : RB) (w : World) (hk : SKn w a g o c n R.cls) (hc : n ≤ c) (an : Option Addr) (gn on cn m : Nat) (ys : List ByteArray) (hkn : SKn w an gn on cn m ys) (hcm : m ≤ cn) : Calls Tryz.prog 6 #[rulesV a n c R.soft R.al R.ot R.sk R.ss R.db, .slice an m cn] w fun e w' => e = .returned (.bool true) ∧ Below w.heap.size w w' := by
  have C17 := Lib.hid (fun W (hW : Below w.heap.size w W) => Thin17 a g o c n R W hk.1 (hk.2.1.below hW) an gn on cn m ys hkn.1 (hkn.2.1.below hW))
  cases hr : thinB R ys with
  | false =>
    rw [hr] at C17
    have s0 := ((KS.start w).new (rulesC a n c R.soft R.al R.ot R.sk R.ss R.db) 24)
    obtain ⟨kb0_0, kb0_1, kb0_2, kb0_3, kb0_4, kb0_5, kb0_6⟩ := (s0.blkAt 0 rfl).c7
    have S0 := Lib.hid s0
    clear s0 hr hk hc hkn hcm
    go_enter Tryz.func6, Tryz.ntmps6
    go_wp2_with fail
    refine (C17.out _ S0.out.bel).mono ?_
    rintro e w1 ⟨rfl, hb⟩
    have S1 := Lib.hid (S0.out.below hb)
    clear hb
    go_wp2_with (go_at_call 18; (refine (awake_any _).mono ?_); rintro e wA ⟨rfl, hbA⟩; have SA := Lib.hid (S1.out.bel.trans (hbA.mono S1.out.bel.size)); clear hbA)
    go_ret
    exact ⟨rfl, SA.out⟩
  | true =>
    rw [hr] at C17
    have ht := thin_thn hr
    obtain ⟨hl15, hl40⟩ := thin_l hr
    have hn900 : R.cls.length ≤ 900 := by
      simp only [thinB, Bool.and_eq_true] at hr
      have := (shB_len hr.1).1; omega
    have hnn := hk.1
    have hmm := hkn.1
    have hl1000 : ∀ y, y ∈ ys → y.size ≤ 1000 := fun z hz => by have := hl40 z hz; omega
    have C20 := Lib.hid (fun W (hW : Below w.heap.size w W) => Rules20 a g o c n R W (hk.below hW) (by omega))
    have C28 := Lib.hid (fun W (hW : Below w.heap.size w W) => list28' an gn on cn m ys W (hkn.below hW) (by omega))
    have C29 := Lib.hid (fun W (hW : Below w.heap.size w W) => listed29_nil a g o c n R W hk.1 (hk.2.1.below hW) ht an gn on cn m ys (hkn.below hW) (by omega) (by simpa using hl1000))
    have HT := Lib.hid ht
    have HN := Lib.hid hk.1
    have HLL := Lib.hid hl1000
    have HSK := Lib.hid hk
    have HKN := Lib.hid hkn
    have HMM := Lib.hid hmm
    have hm15 : m ≤ 15 := by omega
    have hm900 : m ≤ 900 := by omega
    have s0 := ((KS.start w).new (rulesC a n c R.soft R.al R.ot R.sk R.ss R.db) 24)
    obtain ⟨kb0_0, kb0_1, kb0_2, kb0_3, kb0_4, kb0_5, kb0_6⟩ := (s0.blkAt 0 rfl).c7
    have S0 := Lib.hid s0
    clear s0 hr hk hc hkn hcm ht hl15 hl40 hn900 hnn hmm hl1000
    go_enter Tryz.func6, Tryz.ntmps6
    go_wp2_with fail
    refine (C17.out _ S0.out.bel).mono ?_
    rintro e w1 ⟨rfl, hb⟩
    clear kb0_0 kb0_1 kb0_2 kb0_3 kb0_4 kb0_5 kb0_6
    have s1 := S0.out.below hb
    obtain ⟨kb0_0, kb0_1, kb0_2, kb0_3, kb0_4, kb0_5, kb0_6⟩ := (s1.blkAt 0 rfl).c7
    have S1 := Lib.hid s1
    clear hb s1
    go_wp2_with fail
    refine (C20.out _ S1.out.bel).mono ?_
    rintro e w2 ⟨a2, g2, c2, rfl, hsk, hle2, hb⟩
    have HK2 := Lib.hid hsk
    clear hsk
    clear kb0_0 kb0_1 kb0_2 kb0_3 kb0_4 kb0_5 kb0_6
    have s2 := S1.out.below hb
    obtain ⟨kb0_0, kb0_1, kb0_2, kb0_3, kb0_4, kb0_5, kb0_6⟩ := (s2.blkAt 0 rfl).c7
    have S2 := Lib.hid s2
    clear hb s2
    go_wp2_with fail
    refine (C28.out _ S2.out.bel).mono ?_
    rintro e w3 ⟨b3, d3, e3, rfl, hsl, hll3, hb⟩
    have HL3 := Lib.hid hsl
    clear hsl
    have HR3 := Lib.hid (HK2.out.below hb)
    clear kb0_0 kb0_1 kb0_2 kb0_3 kb0_4 kb0_5 kb0_6
    have s3 := S2.out.below hb
    obtain ⟨kb0_0, kb0_1, kb0_2, kb0_3, kb0_4, kb0_5, kb0_6⟩ := (s3.blkAt 0 rfl).c7
    have S3 := Lib.hid s3
    clear hb s3
    go_wp2_with fail
    refine (Center_any a2 g2 0 c2 n R _ HN.out HR3.out hle2 HT.out b3 d3 0 e3 m ys HL3.out hll3 hm900 HLL.out).mono ?_
    rintro e w4 ⟨rfl, hb⟩
    generalize hV1 : (if someN R ys = 0 then ctN R ys else 0) = V1
    generalize hV2 : (if someN R ys = 0 then totN R ys (ctN R ys) else 0) = V2
    have HV1 := Lib.hid hV1
    have HV2 := Lib.hid hV2
    clear hV1 hV2
    clear kb0_0 kb0_1 kb0_2 kb0_3 kb0_4 kb0_5 kb0_6
    have s4 := S3.out.below hb
    obtain ⟨kb0_0, kb0_1, kb0_2, kb0_3, kb0_4, kb0_5, kb0_6⟩ := (s4.blkAt 0 rfl).c7
    have S4 := Lib.hid s4
    clear hb s4
    go_wp2_with fail
    refine (C20.out _ S4.out.bel).mono ?_
    rintro e w5 ⟨a5, g5, c5, rfl, hsk, hle5, hb⟩
    have HK5 := Lib.hid hsk
    clear hsk
    clear kb0_0 kb0_1 kb0_2 kb0_3 kb0_4 kb0_5 kb0_6
    have s5 := S4.out.below hb
    obtain ⟨kb0_0, kb0_1, kb0_2, kb0_3, kb0_4, kb0_5, kb0_6⟩ := (s5.blkAt 0 rfl).c7
    have S5 := Lib.hid s5
    clear hb s5
    go_wp2_with fail
    refine (C28.out _ S5.out.bel).mono ?_
    rintro e w6 ⟨b6, d6, e6, rfl, hsl, hll6, hb⟩
    have HL6 := Lib.hid hsl
    clear hsl
    have HR6 := Lib.hid (HK5.out.below hb)
    clear kb0_0 kb0_1 kb0_2 kb0_3 kb0_4 kb0_5 kb0_6
    have s6 := S5.out.below hb
    obtain ⟨kb0_0, kb0_1, kb0_2, kb0_3, kb0_4, kb0_5, kb0_6⟩ := (s6.blkAt 0 rfl).c7
    have S6 := Lib.hid s6
    clear hb s6
    go_wp2_with fail
    refine (Bridge_any a5 g5 0 c5 n R _ HN.out HR6.out hle5 HT.out b6 d6 0 e6 m ys HL6.out hll6 hm900 HLL.out).mono ?_
    rintro e w7 ⟨rfl, hb⟩
    generalize hV3 : (if someN R ys = 0 then brN R ys else 0) = V3
    have HV3 := Lib.hid hV3
    clear hV3
    clear kb0_0 kb0_1 kb0_2 kb0_3 kb0_4 kb0_5 kb0_6
    have s7 := S6.out.below hb
    obtain ⟨kb0_0, kb0_1, kb0_2, kb0_3, kb0_4, kb0_5, kb0_6⟩ := (s7.blkAt 0 rfl).c7
    have S7 := Lib.hid s7
    clear hb s7
    go_wp2_with fail
    refine (C29.out _ S7.out.bel).mono ?_
    rintro e w8 ⟨rfl, hb⟩
    clear kb0_0 kb0_1 kb0_2 kb0_3 kb0_4 kb0_5 kb0_6
    have s8 := S7.out.below hb
    obtain ⟨kb0_0, kb0_1, kb0_2, kb0_3, kb0_4, kb0_5, kb0_6⟩ := (s8.blkAt 0 rfl).c7
    have S8 := Lib.hid s8
    clear hb s8
    by_cases h0 : lstN R ys [] = 0
    · by_cases hm0 : m = 0
      · have hS : someN R ys = 7 := by unfold someN; rw [if_pos h0, if_pos (by have := HMM.out; omega)]
        obtain rfl : V1 = 0 := by rw [← HV1.out, hS]; rfl
        obtain rfl : V2 = 0 := by rw [← HV2.out, hS]; rfl
        obtain rfl : V3 = 0 := by rw [← HV3.out, hS]; rfl
        rw [hS, h0]
        clear HV1 HV2 HV3
        have e0 : ((m : Int) == 0) = true := by rw [beq_iff_eq]; omega
        clear hS h0 hm0
        go_wp2_with (first | (go_at_call 18; (refine (awake_any _).mono ?_); rintro e wA ⟨rfl, hbA⟩; have SA := Lib.hid (S8.out.bel.trans (hbA.mono S8.out.bel.size)); clear hbA))
        go_ret
        exact ⟨rfl, SA.out⟩
      · have hS : someN R ys = 0 := by unfold someN; rw [if_pos h0, if_neg (by have := HMM.out; omega)]
        obtain ⟨hm12, hgd, hny⟩ := lst_chk3 h0
        have hne : ys ≠ [] := by rintro rfl; have := HMM.out; simp at this; omega
        obtain ⟨bb, hbb, hb24, hbo, hbl⟩ := brN_spec hgd hny hne
        obtain rfl : V1 = ctN R ys := by rw [← HV1.out, hS]; rfl
        obtain rfl : V2 = totN R ys (ctN R ys) := by rw [← HV2.out, hS]; rfl
        obtain rfl : V3 = (bb : Int) := by rw [← HV3.out, hS]; exact hbb
        rw [hS, h0]
        clear HV1 HV2 HV3
        have e0 : ((m : Int) == 0) = false := by rw [beq_eq_false_iff_ne]; omega
        have hm12b : m ≤ 12 := by have := HMM.out; omega
        have C35 := Lib.hid (fun W (hW : Below w.heap.size w W) => Groups35 a g o c n R W HN.out (HSK.out.2.1.below hW) hgd HT.out an gn on cn m ys (HKN.out.below hW) hm12b hny bb)
        have C36 := Lib.hid (fun W (hW : Below w.heap.size w W) => Groups35 a g o c n R W HN.out (HSK.out.2.1.below hW) hgd HT.out an gn on cn m ys (HKN.out.below hW) hm12b hny (bb - 1))
        have C34 := Lib.hid (fun W (s : ByteArray) (hs : s.size ≤ 12) (hW : Below w.heap.size w W) => Total34 a g o c n R W HN.out (HSK.out.2.1.below hW) hgd HT.out an gn on cn m ys (HKN.out.below hW) hm12b hny s hs)
        have HNY := Lib.hid hny
        have hG1 : (grpL R ys bb).length = 1 := by simpa [oneG] using hbo
        have HG2 := Lib.hid (show 0 < bb → 1 < (grpL R ys (bb - 1)).length from fun h => by
          have h1 := hbl (bb - 1) (by omega)
          have h2 := grpL_pos R ys (bb - 1) hne
          have h3 : (grpL R ys (bb - 1)).length ≠ 1 := by simpa [oneG] using h1
          omega)
        have HCT := Lib.hid (show ctN R ys = Nm.best (totN R ys) m from by unfold ctN; rw [HMM.out])
        have hctl : ctN R ys < m := by have := ctN_lt (R := R) hne; have := HMM.out; omega
        have HTG := Lib.hid (fun (i : Nat) (x : ByteArray) (hx : ys[i]? = some x) => totN_get (R := R) hx)
        have e1 := HKN.out.2.1.1 hne
        subst e1
        generalize hcc : ctN R ys = cc at *
        generalize htt : totN R ys = tt at *
        have hb0 : ¬ (bb : Int) < 0 := by omega
        clear hcc htt hS hm12 hgd hny hbb hbo hbl h0 hne
        go_wp2_with fail
        clear kb0_0 kb0_1 kb0_2 kb0_3 kb0_4 kb0_5 kb0_6
        go_loopw [11, 12] (fun y11 y12 wr => ∃ (i : Nat), 1 ≤ i ∧ i ≤ m ∧ y12 = .int .i64 (i : Int) ∧ y11 = .int .i64 (Nm.best tt i : Nat) ∧ Hid (KS w [(w.heap.size, rulesC a n c R.soft R.al R.ot R.sk R.ss R.db, 24)] wr)) (fun _ y12 _ => m - (intOf y12).toNat)
        case atStart => exact ⟨1, Nat.le_refl _, by omega, rfl, by rw [best_one]; rfl, S8.out.sub (by simp)⟩
        case round =>
          clear S8
          obtain ⟨i, hi1, hi, rfl, rfl, H⟩ := hrel
          have hbl := Nm.best_lt tt i hi1
          have HBS := Lib.hid (show Nm.best tt (i + 1) = if tt i < tt (Nm.best tt i) then i else Nm.best tt i from rfl)
          by_cases him : i < m
          · generalize Nm.best tt i = bi at *
            obtain ⟨x, hx⟩ : ∃ x, ys[i]? = some x := ⟨ys[i]'(by rw [HMM.out]; exact him), by simp⟩
            obtain ⟨y, hy⟩ : ∃ y, ys[bi]? = some y := ⟨ys[bi]'(by rw [HMM.out]; omega), by simp⟩
            have CX := Lib.hid (fun W (hW : Below w.heap.size w W) => C34.out W x (HNY.out x (List.mem_of_getElem? hx)).1 hW)
            have CY := Lib.hid (fun W (hW : Below w.heap.size w W) => C34.out W y (HNY.out y (List.mem_of_getElem? hy)).1 hW)
            rw [← HTG.out i x hx] at CX
            rw [← HTG.out bi y hy] at CY
            have HX := Lib.hid hx
            have HY := Lib.hid hy
            have pi0 : (0 : Int) ≤ (i : Int) := by omega
            have pi1 : (i : Int) < (m : Int) := by omega
            have pb0 : (0 : Int) ≤ (bi : Int) := by omega
            have pb1 : (bi : Int) < (m : Int) := by omega
            generalize tt i = ti at *
            generalize tt bi = tb at *
            clear hx hy
            by_cases htb : ti < tb
            · have ptb : (ti : Int) < (tb : Int) := by omega
              have HBN := Lib.hid (HBS.out.trans (if_pos htb))
              clear htb
              go_wp2_with fail
              obtain ⟨BS, hBS⟩ : ∃ BS : List (Nat × Array Value × TypeId), BS = [(w.heap.size, rulesC a n c R.soft R.al R.ot R.sk R.ss R.db, 24)] := ⟨_, rfl⟩
              have hS : KS w BS wr.drew := by rw [hBS]; exact H.out.drew
              have K0 : ∀ W, KS w BS W → W.cell? ⟨w.heap.size, 0, none⟩ = some (.slice a n c) := fun W h => by rw [hBS] at h; exact (h.blkAt 0 rfl).cell 0
              have K1 : ∀ W, KS w BS W → W.cell? ⟨w.heap.size, 1, none⟩ = some (.string R.soft) := fun W h => by rw [hBS] at h; exact (h.blkAt 0 rfl).cell 1
              have K2 : ∀ W, KS w BS W → W.cell? ⟨w.heap.size, 2, none⟩ = some (.int .i64 R.al) := fun W h => by rw [hBS] at h; exact (h.blkAt 0 rfl).cell 2
              have K3 : ∀ W, KS w BS W → W.cell? ⟨w.heap.size, 3, none⟩ = some (.int .i64 R.ot) := fun W h => by rw [hBS] at h; exact (h.blkAt 0 rfl).cell 3
              have K4 : ∀ W, KS w BS W → W.cell? ⟨w.heap.size, 4, none⟩ = some (.int .i64 R.sk) := fun W h => by rw [hBS] at h; exact (h.blkAt 0 rfl).cell 4
              have K5 : ∀ W, KS w BS W → W.cell? ⟨w.heap.size, 5, none⟩ = some (.int .i64 R.ss) := fun W h => by rw [hBS] at h; exact (h.blkAt 0 rfl).cell 5
              have K6 : ∀ W, KS w BS W → W.cell? ⟨w.heap.size, 6, none⟩ = some (.int .i64 R.db) := fun W h => by rw [hBS] at h; exact (h.blkAt 0 rfl).cell 6
              have HBS := Lib.hid hBS
              clear hBS
              have L0 : ∀ W, KS w BS W → W.cell? ⟨gn, on + i, none⟩ = some (.string x) := fun W h => (HKN.out.below h.bel).2.1.2.1 i x HX.out
              have L1 : ∀ W, KS w BS W → W.cell? ⟨gn, on + bi, none⟩ = some (.string y) := fun W h => (HKN.out.below h.bel).2.1.2.1 bi y HY.out
              refine wp_region_held_drew (S := KS w BS) (by kernel_rfl) hS (fun hHeld => ?_)
              clear hS
              refine wpAnyH_take (i := 0) (v := ?_) rfl (by kernel_rfl) (by kernel_rfl) (by kernel_rfl) (fun _ _ _ h => h) (Or.inl ⟨by rfl, ?h0⟩) hHeld ?_
              case h0 =>
                intro w' hSw
                (try dsimp only at hSw)
                go_simp
                (try with_reducible rfl)
              (try simp only [Act.put]); (try simp only [List.setIfInBounds_toArray]); (try simp only [List.set_cons_succ]); (try simp only [List.set_cons_zero])
              refine wpAnyH_take (i := 1) (v := ?_) rfl (by kernel_rfl) (by kernel_rfl) (by kernel_rfl) (fun _ _ _ h => h) (Or.inl ⟨by rfl, ?h1⟩) hHeld ?_
              case h1 =>
                intro w' hSw
                (try dsimp only at hSw)
                go_simp
                (try with_reducible rfl)
              (try simp only [Act.put]); (try simp only [List.setIfInBounds_toArray]); (try simp only [List.set_cons_succ]); (try simp only [List.set_cons_zero])
              refine wpAnyH_take (i := 2) (v := ?_) rfl (by kernel_rfl) (by kernel_rfl) (by kernel_rfl) (fun _ _ _ h => h) (Or.inl ⟨by rfl, ?h2⟩) hHeld ?_
              case h2 =>
                intro w' hSw
                (try dsimp only at hSw)
                go_simp
                (try with_reducible rfl)
              (try simp only [Act.put]); (try simp only [List.setIfInBounds_toArray]); (try simp only [List.set_cons_succ]); (try simp only [List.set_cons_zero])
              refine wpAnyH_take (i := 3) (v := ?_) rfl (by kernel_rfl) (by kernel_rfl) (by kernel_rfl) (fun _ _ _ h => h) (Or.inl ⟨by rfl, ?h3⟩) hHeld ?_
              case h3 =>
                intro w' hSw
                (try dsimp only at hSw)
                go_simp
                (try with_reducible rfl)
              (try simp only [Act.put]); (try simp only [List.setIfInBounds_toArray]); (try simp only [List.set_cons_succ]); (try simp only [List.set_cons_zero])
              refine wpAnyH_take (i := 4) (v := ?_) rfl (by kernel_rfl) (by kernel_rfl) (by kernel_rfl) (fun _ _ _ h => h) (Or.inl ⟨by rfl, ?h4⟩) hHeld ?_
              case h4 =>
                intro w' hSw
                (try dsimp only at hSw)
                go_simp
                (try with_reducible rfl)
              (try simp only [Act.put]); (try simp only [List.setIfInBounds_toArray]); (try simp only [List.set_cons_succ]); (try simp only [List.set_cons_zero])
              refine wpAnyH_take (i := 5) (v := ?_) rfl (by kernel_rfl) (by kernel_rfl) (by kernel_rfl) (fun _ _ _ h => h) (Or.inl ⟨by rfl, ?h5⟩) hHeld ?_
              case h5 =>
                intro w' hSw
                (try dsimp only at hSw)
                go_simp
                (try with_reducible rfl)
              (try simp only [Act.put]); (try simp only [List.setIfInBounds_toArray]); (try simp only [List.set_cons_succ]); (try simp only [List.set_cons_zero])
              refine wpAnyH_take (i := 7) (v := ?_) rfl (by kernel_rfl) (by kernel_rfl) (by kernel_rfl) (fun _ _ _ h => h) (Or.inl ⟨by rfl, ?h7⟩) hHeld ?_
              case h7 =>
                intro w' hSw
                (try dsimp only at hSw)
                go_simp
                (try with_reducible rfl)
              (try simp only [Act.put]); (try simp only [List.setIfInBounds_toArray]); (try simp only [List.set_cons_succ]); (try simp only [List.set_cons_zero])
              refine wpAnyH_take (i := 8) (v := ?_) rfl (by kernel_rfl) (by kernel_rfl) (by kernel_rfl) (fun _ _ _ h => h) (Or.inl ⟨by rfl, ?h8⟩) hHeld ?_
              case h8 =>
                intro w' hSw
                (try dsimp only at hSw)
                go_simp
                (try with_reducible rfl)
              (try simp only [Act.put]); (try simp only [List.setIfInBounds_toArray]); (try simp only [List.set_cons_succ]); (try simp only [List.set_cons_zero])
              refine wpAnyH_take (i := 9) (v := ?_) rfl (by kernel_rfl) (by kernel_rfl) (by kernel_rfl) (fun _ _ _ h => h) (Or.inl ⟨by rfl, ?h9⟩) hHeld ?_
              case h9 =>
                intro w' hSw
                (try dsimp only at hSw)
                go_simp
                (try with_reducible rfl)
              (try simp only [Act.put]); (try simp only [List.setIfInBounds_toArray]); (try simp only [List.set_cons_succ]); (try simp only [List.set_cons_zero])
              refine wpAnyH_take (i := 10) (v := ?_) rfl (by kernel_rfl) (by kernel_rfl) (by kernel_rfl) (fun _ _ _ h => h) (Or.inl ⟨by rfl, ?h10⟩) hHeld ?_
              case h10 =>
                intro w' hSw
                (try dsimp only at hSw)
                go_simp
                (try with_reducible rfl)
              (try simp only [Act.put]); (try simp only [List.setIfInBounds_toArray]); (try simp only [List.set_cons_succ]); (try simp only [List.set_cons_zero])
              refine wpAnyH_take (i := 11) (v := ?_) rfl (by kernel_rfl) (by kernel_rfl) (by kernel_rfl) (fun _ _ _ h => h) (Or.inl ⟨by rfl, ?h11⟩) hHeld ?_
              case h11 =>
                intro w' hSw
                (try dsimp only at hSw)
                go_simp
                (try with_reducible rfl)
              (try simp only [Act.put]); (try simp only [List.setIfInBounds_toArray]); (try simp only [List.set_cons_succ]); (try simp only [List.set_cons_zero])
              refine wpAnyH_take (i := 12) (v := ?_) rfl (by kernel_rfl) (by kernel_rfl) (by kernel_rfl) (fun _ _ _ h => h) (Or.inl ⟨by rfl, ?h12⟩) hHeld ?_
              case h12 =>
                intro w' hSw
                (try dsimp only at hSw)
                go_simp
                (try with_reducible rfl)
              (try simp only [Act.put]); (try simp only [List.setIfInBounds_toArray]); (try simp only [List.set_cons_succ]); (try simp only [List.set_cons_zero])
              refine wpAnyH_ready (rs := [6]) (by kernel_rfl) (by simp) ?_
              refine AllReadyH.cons rfl (fun K hK => ?_) (AllReadyH.nil)
              go_simp
              (refine (CX.out _ hHeld.bel).mono ?_)
              rintro e w5 ⟨rfl, hb⟩
              have hS2 := hHeld.below hb
              clear hb
              refine hK.out _ _ hS2 (fun hHeld => ?_)
              clear hK K hS2
              (try simp only [Act.put]); (try simp only [List.setIfInBounds_toArray]); (try simp only [List.set_cons_succ]); (try simp only [List.set_cons_zero])
              refine wpAnyH_ready (rs := [13]) (by kernel_rfl) (by simp) ?_
              refine AllReadyH.cons rfl (fun K hK => ?_) (AllReadyH.nil)
              go_simp
              (refine (CY.out _ hHeld.bel).mono ?_)
              rintro e w6 ⟨rfl, hb⟩
              have hS2 := hHeld.below hb
              clear hb
              refine hK.out _ _ hS2 (fun hHeld => ?_)
              clear hK K hS2
              (try simp only [Act.put]); (try simp only [List.setIfInBounds_toArray]); (try simp only [List.set_cons_succ]); (try simp only [List.set_cons_zero])
              refine wpAnyH_take (i := 14) (v := ?_) rfl (by kernel_rfl) (by kernel_rfl) (by kernel_rfl) (fun _ _ _ h => h) (Or.inl ⟨by rfl, ?h14⟩) hHeld ?_
              case h14 =>
                intro w' hSw
                (try dsimp only at hSw)
                go_simp
                (try with_reducible rfl)
              (try simp only [Act.put]); (try simp only [List.setIfInBounds_toArray]); (try simp only [List.set_cons_succ]); (try simp only [List.set_cons_zero])
              refine wpAnyH_done (by kernel_rfl) ?_ _
              have hs9 := hHeld
              rw [HBS.out] at hs9
              have S9 := Lib.hid hs9
              clear hHeld hs9 K0 K1 K2 K3 K4 K5 K6 L0 L1 HBS
              go_wp2_with fail
              go_roundw
              case rel => exact ⟨i + 1, by omega, by omega, by go_num, by rw [HBN.out], S9.out⟩
              case measure => simp [intOf]; omega
            · have ptb : ¬ (ti : Int) < (tb : Int) := by omega
              have HBN := Lib.hid (HBS.out.trans (if_neg htb))
              clear htb
              go_wp2_with fail
              obtain ⟨BS, hBS⟩ : ∃ BS : List (Nat × Array Value × TypeId), BS = [(w.heap.size, rulesC a n c R.soft R.al R.ot R.sk R.ss R.db, 24)] := ⟨_, rfl⟩
              have hS : KS w BS wr.drew := by rw [hBS]; exact H.out.drew
              have K0 : ∀ W, KS w BS W → W.cell? ⟨w.heap.size, 0, none⟩ = some (.slice a n c) := fun W h => by rw [hBS] at h; exact (h.blkAt 0 rfl).cell 0
              have K1 : ∀ W, KS w BS W → W.cell? ⟨w.heap.size, 1, none⟩ = some (.string R.soft) := fun W h => by rw [hBS] at h; exact (h.blkAt 0 rfl).cell 1
              have K2 : ∀ W, KS w BS W → W.cell? ⟨w.heap.size, 2, none⟩ = some (.int .i64 R.al) := fun W h => by rw [hBS] at h; exact (h.blkAt 0 rfl).cell 2
              have K3 : ∀ W, KS w BS W → W.cell? ⟨w.heap.size, 3, none⟩ = some (.int .i64 R.ot) := fun W h => by rw [hBS] at h; exact (h.blkAt 0 rfl).cell 3
              have K4 : ∀ W, KS w BS W → W.cell? ⟨w.heap.size, 4, none⟩ = some (.int .i64 R.sk) := fun W h => by rw [hBS] at h; exact (h.blkAt 0 rfl).cell 4
              have K5 : ∀ W, KS w BS W → W.cell? ⟨w.heap.size, 5, none⟩ = some (.int .i64 R.ss) := fun W h => by rw [hBS] at h; exact (h.blkAt 0 rfl).cell 5
              have K6 : ∀ W, KS w BS W → W.cell? ⟨w.heap.size, 6, none⟩ = some (.int .i64 R.db) := fun W h => by rw [hBS] at h; exact (h.blkAt 0 rfl).cell 6
              have HBS := Lib.hid hBS
              clear hBS
              have L0 : ∀ W, KS w BS W → W.cell? ⟨gn, on + i, none⟩ = some (.string x) := fun W h => (HKN.out.below h.bel).2.1.2.1 i x HX.out
              have L1 : ∀ W, KS w BS W → W.cell? ⟨gn, on + bi, none⟩ = some (.string y) := fun W h => (HKN.out.below h.bel).2.1.2.1 bi y HY.out
              refine wp_region_held_drew (S := KS w BS) (by kernel_rfl) hS (fun hHeld => ?_)
              clear hS
              refine wpAnyH_take (i := 0) (v := ?_) rfl (by kernel_rfl) (by kernel_rfl) (by kernel_rfl) (fun _ _ _ h => h) (Or.inl ⟨by rfl, ?h0⟩) hHeld ?_
              case h0 =>
                intro w' hSw
                (try dsimp only at hSw)
                go_simp
                (try with_reducible rfl)
              (try simp only [Act.put]); (try simp only [List.setIfInBounds_toArray]); (try simp only [List.set_cons_succ]); (try simp only [List.set_cons_zero])
              refine wpAnyH_take (i := 1) (v := ?_) rfl (by kernel_rfl) (by kernel_rfl) (by kernel_rfl) (fun _ _ _ h => h) (Or.inl ⟨by rfl, ?h1⟩) hHeld ?_
              case h1 =>
                intro w' hSw
                (try dsimp only at hSw)
                go_simp
                (try with_reducible rfl)
              (try simp only [Act.put]); (try simp only [List.setIfInBounds_toArray]); (try simp only [List.set_cons_succ]); (try simp only [List.set_cons_zero])
              refine wpAnyH_take (i := 2) (v := ?_) rfl (by kernel_rfl) (by kernel_rfl) (by kernel_rfl) (fun _ _ _ h => h) (Or.inl ⟨by rfl, ?h2⟩) hHeld ?_
              case h2 =>
                intro w' hSw
                (try dsimp only at hSw)
                go_simp
                (try with_reducible rfl)
              (try simp only [Act.put]); (try simp only [List.setIfInBounds_toArray]); (try simp only [List.set_cons_succ]); (try simp only [List.set_cons_zero])
              refine wpAnyH_take (i := 3) (v := ?_) rfl (by kernel_rfl) (by kernel_rfl) (by kernel_rfl) (fun _ _ _ h => h) (Or.inl ⟨by rfl, ?h3⟩) hHeld ?_
              case h3 =>
                intro w' hSw
                (try dsimp only at hSw)
                go_simp
                (try with_reducible rfl)
              (try simp only [Act.put]); (try simp only [List.setIfInBounds_toArray]); (try simp only [List.set_cons_succ]); (try simp only [List.set_cons_zero])
              refine wpAnyH_take (i := 4) (v := ?_) rfl (by kernel_rfl) (by kernel_rfl) (by kernel_rfl) (fun _ _ _ h => h) (Or.inl ⟨by rfl, ?h4⟩) hHeld ?_
              case h4 =>
                intro w' hSw
                (try dsimp only at hSw)
                go_simp
                (try with_reducible rfl)
              (try simp only [Act.put]); (try simp only [List.setIfInBounds_toArray]); (try simp only [List.set_cons_succ]); (try simp only [List.set_cons_zero])
              refine wpAnyH_take (i := 5) (v := ?_) rfl (by kernel_rfl) (by kernel_rfl) (by kernel_rfl) (fun _ _ _ h => h) (Or.inl ⟨by rfl, ?h5⟩) hHeld ?_
              case h5 =>
                intro w' hSw
                (try dsimp only at hSw)
                go_simp
                (try with_reducible rfl)
              (try simp only [Act.put]); (try simp only [List.setIfInBounds_toArray]); (try simp only [List.set_cons_succ]); (try simp only [List.set_cons_zero])
              refine wpAnyH_take (i := 7) (v := ?_) rfl (by kernel_rfl) (by kernel_rfl) (by kernel_rfl) (fun _ _ _ h => h) (Or.inl ⟨by rfl, ?h7⟩) hHeld ?_
              case h7 =>
                intro w' hSw
                (try dsimp only at hSw)
                go_simp
                (try with_reducible rfl)
              (try simp only [Act.put]); (try simp only [List.setIfInBounds_toArray]); (try simp only [List.set_cons_succ]); (try simp only [List.set_cons_zero])
              refine wpAnyH_take (i := 8) (v := ?_) rfl (by kernel_rfl) (by kernel_rfl) (by kernel_rfl) (fun _ _ _ h => h) (Or.inl ⟨by rfl, ?h8⟩) hHeld ?_
              case h8 =>
                intro w' hSw
                (try dsimp only at hSw)
                go_simp
                (try with_reducible rfl)
              (try simp only [Act.put]); (try simp only [List.setIfInBounds_toArray]); (try simp only [List.set_cons_succ]); (try simp only [List.set_cons_zero])
              refine wpAnyH_take (i := 9) (v := ?_) rfl (by kernel_rfl) (by kernel_rfl) (by kernel_rfl) (fun _ _ _ h => h) (Or.inl ⟨by rfl, ?h9⟩) hHeld ?_
              case h9 =>
                intro w' hSw
                (try dsimp only at hSw)
                go_simp
                (try with_reducible rfl)
              (try simp only [Act.put]); (try simp only [List.setIfInBounds_toArray]); (try simp only [List.set_cons_succ]); (try simp only [List.set_cons_zero])
              refine wpAnyH_take (i := 10) (v := ?_) rfl (by kernel_rfl) (by kernel_rfl) (by kernel_rfl) (fun _ _ _ h => h) (Or.inl ⟨by rfl, ?h10⟩) hHeld ?_
              case h10 =>
                intro w' hSw
                (try dsimp only at hSw)
                go_simp
                (try with_reducible rfl)
              (try simp only [Act.put]); (try simp only [List.setIfInBounds_toArray]); (try simp only [List.set_cons_succ]); (try simp only [List.set_cons_zero])
              refine wpAnyH_take (i := 11) (v := ?_) rfl (by kernel_rfl) (by kernel_rfl) (by kernel_rfl) (fun _ _ _ h => h) (Or.inl ⟨by rfl, ?h11⟩) hHeld ?_
              case h11 =>
                intro w' hSw
                (try dsimp only at hSw)
                go_simp
                (try with_reducible rfl)
              (try simp only [Act.put]); (try simp only [List.setIfInBounds_toArray]); (try simp only [List.set_cons_succ]); (try simp only [List.set_cons_zero])
              refine wpAnyH_take (i := 12) (v := ?_) rfl (by kernel_rfl) (by kernel_rfl) (by kernel_rfl) (fun _ _ _ h => h) (Or.inl ⟨by rfl, ?h12⟩) hHeld ?_
              case h12 =>
                intro w' hSw
                (try dsimp only at hSw)
                go_simp
                (try with_reducible rfl)
              (try simp only [Act.put]); (try simp only [List.setIfInBounds_toArray]); (try simp only [List.set_cons_succ]); (try simp only [List.set_cons_zero])
              refine wpAnyH_ready (rs := [6]) (by kernel_rfl) (by simp) ?_
              refine AllReadyH.cons rfl (fun K hK => ?_) (AllReadyH.nil)
              go_simp
              (refine (CX.out _ hHeld.bel).mono ?_)
              rintro e w5 ⟨rfl, hb⟩
              have hS2 := hHeld.below hb
              clear hb
              refine hK.out _ _ hS2 (fun hHeld => ?_)
              clear hK K hS2
              (try simp only [Act.put]); (try simp only [List.setIfInBounds_toArray]); (try simp only [List.set_cons_succ]); (try simp only [List.set_cons_zero])
              refine wpAnyH_ready (rs := [13]) (by kernel_rfl) (by simp) ?_
              refine AllReadyH.cons rfl (fun K hK => ?_) (AllReadyH.nil)
              go_simp
              (refine (CY.out _ hHeld.bel).mono ?_)
              rintro e w6 ⟨rfl, hb⟩
              have hS2 := hHeld.below hb
              clear hb
              refine hK.out _ _ hS2 (fun hHeld => ?_)
              clear hK K hS2
              (try simp only [Act.put]); (try simp only [List.setIfInBounds_toArray]); (try simp only [List.set_cons_succ]); (try simp only [List.set_cons_zero])
              refine wpAnyH_take (i := 14) (v := ?_) rfl (by kernel_rfl) (by kernel_rfl) (by kernel_rfl) (fun _ _ _ h => h) (Or.inl ⟨by rfl, ?h14⟩) hHeld ?_
              case h14 =>
                intro w' hSw
                (try dsimp only at hSw)
                go_simp
                (try with_reducible rfl)
              (try simp only [Act.put]); (try simp only [List.setIfInBounds_toArray]); (try simp only [List.set_cons_succ]); (try simp only [List.set_cons_zero])
              refine wpAnyH_done (by kernel_rfl) ?_ _
              have hs9 := hHeld
              rw [HBS.out] at hs9
              have S9 := Lib.hid hs9
              clear hHeld hs9 K0 K1 K2 K3 K4 K5 K6 L0 L1 HBS
              go_wp2_with fail
              go_roundw
              case rel => exact ⟨i + 1, by omega, by omega, by go_num, by rw [HBN.out], S9.out⟩
              case measure => simp [intOf]; omega
          · obtain rfl : i = m := by omega
            have pim : ¬ (i : Int) < (i : Int) := by omega
            rw [← HCT.out]
            obtain ⟨x, hx⟩ : ∃ x, ys[cc]? = some x := ⟨ys[cc]'(by rw [HMM.out]; exact hctl), by simp⟩
            have CX := Lib.hid (fun W (hW : Below w.heap.size w W) => C34.out W x (HNY.out x (List.mem_of_getElem? hx)).1 hW)
            rw [← HTG.out cc x hx] at CX
            have HX := Lib.hid hx
            have pi0 : (0 : Int) ≤ (cc : Int) := by omega
            have pi1 : (cc : Int) < (i : Int) := by omega
            generalize tt cc = tc at *
            have e3 : ((cc : Int) == (cc : Int)) = true := by simp
            have e4 : ((cc : Int) != (cc : Int)) = false := by simp
            have e5 : ((tc : Int) == (tc : Int)) = true := by simp
            have e6 : ((tc : Int) != (tc : Int)) = false := by simp
            clear hx hbl HBS HCT
            go_wp2_with fail
            obtain ⟨BS, hBS⟩ : ∃ BS : List (Nat × Array Value × TypeId), BS = [(w.heap.size, rulesC a n c R.soft R.al R.ot R.sk R.ss R.db, 24)] := ⟨_, rfl⟩
            have hS : KS w BS wr.drew := by rw [hBS]; exact H.out.drew
            have K0 : ∀ W, KS w BS W → W.cell? ⟨w.heap.size, 0, none⟩ = some (.slice a n c) := fun W h => by rw [hBS] at h; exact (h.blkAt 0 rfl).cell 0
            have K1 : ∀ W, KS w BS W → W.cell? ⟨w.heap.size, 1, none⟩ = some (.string R.soft) := fun W h => by rw [hBS] at h; exact (h.blkAt 0 rfl).cell 1
            have K2 : ∀ W, KS w BS W → W.cell? ⟨w.heap.size, 2, none⟩ = some (.int .i64 R.al) := fun W h => by rw [hBS] at h; exact (h.blkAt 0 rfl).cell 2
            have K3 : ∀ W, KS w BS W → W.cell? ⟨w.heap.size, 3, none⟩ = some (.int .i64 R.ot) := fun W h => by rw [hBS] at h; exact (h.blkAt 0 rfl).cell 3
            have K4 : ∀ W, KS w BS W → W.cell? ⟨w.heap.size, 4, none⟩ = some (.int .i64 R.sk) := fun W h => by rw [hBS] at h; exact (h.blkAt 0 rfl).cell 4
            have K5 : ∀ W, KS w BS W → W.cell? ⟨w.heap.size, 5, none⟩ = some (.int .i64 R.ss) := fun W h => by rw [hBS] at h; exact (h.blkAt 0 rfl).cell 5
            have K6 : ∀ W, KS w BS W → W.cell? ⟨w.heap.size, 6, none⟩ = some (.int .i64 R.db) := fun W h => by rw [hBS] at h; exact (h.blkAt 0 rfl).cell 6
            have HBS := Lib.hid hBS
            clear hBS
            have L0 : ∀ W, KS w BS W → W.cell? ⟨gn, on + cc, none⟩ = some (.string x) := fun W h => (HKN.out.below h.bel).2.1.2.1 cc x HX.out
            refine wp_region_held_drew (S := KS w BS) (by kernel_rfl) hS (fun hHeld => ?_)
            clear hS
            refine wpAnyH_take (i := 0) (v := ?_) rfl (by kernel_rfl) (by kernel_rfl) (by kernel_rfl) (fun _ _ _ h => h) (Or.inl ⟨by rfl, ?h0⟩) hHeld ?_
            case h0 =>
              intro w' hSw
              (try dsimp only at hSw)
              go_simp
              (try with_reducible rfl)
            (try simp only [Act.put]); (try simp only [List.setIfInBounds_toArray]); (try simp only [List.set_cons_succ]); (try simp only [List.set_cons_zero])
            refine wpAnyH_take (i := 1) (v := ?_) rfl (by kernel_rfl) (by kernel_rfl) (by kernel_rfl) (fun _ _ _ h => h) (Or.inl ⟨by rfl, ?h1⟩) hHeld ?_
            case h1 =>
              intro w' hSw
              (try dsimp only at hSw)
              go_simp
              (try with_reducible rfl)
            (try simp only [Act.put]); (try simp only [List.setIfInBounds_toArray]); (try simp only [List.set_cons_succ]); (try simp only [List.set_cons_zero])
            refine wpAnyH_take (i := 2) (v := ?_) rfl (by kernel_rfl) (by kernel_rfl) (by kernel_rfl) (fun _ _ _ h => h) (Or.inl ⟨by rfl, ?h2⟩) hHeld ?_
            case h2 =>
              intro w' hSw
              (try dsimp only at hSw)
              go_simp
              (try with_reducible rfl)
            (try simp only [Act.put]); (try simp only [List.setIfInBounds_toArray]); (try simp only [List.set_cons_succ]); (try simp only [List.set_cons_zero])
            refine wpAnyH_take (i := 3) (v := ?_) rfl (by kernel_rfl) (by kernel_rfl) (by kernel_rfl) (fun _ _ _ h => h) (Or.inl ⟨by kernel_rfl, ?h3⟩) hHeld ?_
            case h3 =>
              intro w' hSw
              (try dsimp only at hSw)
              go_simp
              (try with_reducible rfl)
            (try simp only [Act.put]); (try simp only [List.setIfInBounds_toArray]); (try simp only [List.set_cons_succ]); (try simp only [List.set_cons_zero])
            refine wpAnyH_take (i := 4) (v := ?_) rfl (by kernel_rfl) (by kernel_rfl) (by kernel_rfl) (fun _ _ _ h => h) (Or.inl ⟨by kernel_rfl, ?h4⟩) hHeld ?_
            case h4 =>
              intro w' hSw
              (try dsimp only at hSw)
              go_simp
              (try with_reducible rfl)
            (try simp only [Act.put]); (try simp only [List.setIfInBounds_toArray]); (try simp only [List.set_cons_succ]); (try simp only [List.set_cons_zero])
            refine wpAnyH_take (i := 5) (v := ?_) rfl (by kernel_rfl) (by kernel_rfl) (by kernel_rfl) (fun _ _ _ h => h) (Or.inl ⟨by kernel_rfl, ?h5⟩) hHeld ?_
            case h5 =>
              intro w' hSw
              (try dsimp only at hSw)
              go_simp
              (try with_reducible rfl)
            (try simp only [Act.put]); (try simp only [List.setIfInBounds_toArray]); (try simp only [List.set_cons_succ]); (try simp only [List.set_cons_zero])
            refine wpAnyH_take (i := 6) (v := ?_) rfl (by kernel_rfl) (by kernel_rfl) (by kernel_rfl) (fun _ _ _ h => h) (Or.inl ⟨by rfl, ?h6⟩) hHeld ?_
            case h6 =>
              intro w' hSw
              (try dsimp only at hSw)
              go_simp
              (try with_reducible rfl)
            (try simp only [Act.put]); (try simp only [List.setIfInBounds_toArray]); (try simp only [List.set_cons_succ]); (try simp only [List.set_cons_zero])
            refine wpAnyH_take (i := 7) (v := ?_) rfl (by kernel_rfl) (by kernel_rfl) (by kernel_rfl) (fun _ _ _ h => h) (Or.inl ⟨by rfl, ?h7⟩) hHeld ?_
            case h7 =>
              intro w' hSw
              (try dsimp only at hSw)
              go_simp
              (try with_reducible rfl)
            (try simp only [Act.put]); (try simp only [List.setIfInBounds_toArray]); (try simp only [List.set_cons_succ]); (try simp only [List.set_cons_zero])
            refine wpAnyH_take (i := 8) (v := ?_) rfl (by kernel_rfl) (by kernel_rfl) (by kernel_rfl) (fun _ _ _ h => h) (Or.inl ⟨by kernel_rfl, ?h8⟩) hHeld ?_
            case h8 =>
              intro w' hSw
              (try dsimp only at hSw)
              go_simp
              (try with_reducible rfl)
            (try simp only [Act.put]); (try simp only [List.setIfInBounds_toArray]); (try simp only [List.set_cons_succ]); (try simp only [List.set_cons_zero])
            refine wpAnyH_take (i := 9) (v := ?_) rfl (by kernel_rfl) (by kernel_rfl) (by kernel_rfl) (fun _ _ _ h => h) (Or.inl ⟨by kernel_rfl, ?h9⟩) hHeld ?_
            case h9 =>
              intro w' hSw
              (try dsimp only at hSw)
              go_simp
              (try with_reducible rfl)
            (try simp only [Act.put]); (try simp only [List.setIfInBounds_toArray]); (try simp only [List.set_cons_succ]); (try simp only [List.set_cons_zero])
            refine wpAnyH_take (i := 10) (v := ?_) rfl (by kernel_rfl) (by kernel_rfl) (by kernel_rfl) (fun _ _ _ h => h) (Or.inl ⟨by kernel_rfl, ?h10⟩) hHeld ?_
            case h10 =>
              intro w' hSw
              (try dsimp only at hSw)
              go_simp
              (try with_reducible rfl)
            (try simp only [Act.put]); (try simp only [List.setIfInBounds_toArray]); (try simp only [List.set_cons_succ]); (try simp only [List.set_cons_zero])
            refine wpAnyH_take (i := 11) (v := ?_) rfl (by kernel_rfl) (by kernel_rfl) (by kernel_rfl) (fun _ _ _ h => h) (Or.inl ⟨by kernel_rfl, ?h11⟩) hHeld ?_
            case h11 =>
              intro w' hSw
              (try dsimp only at hSw)
              go_simp
              (try with_reducible rfl)
            (try simp only [Act.put]); (try simp only [List.setIfInBounds_toArray]); (try simp only [List.set_cons_succ]); (try simp only [List.set_cons_zero])
            refine wpAnyH_take (i := 12) (v := ?_) rfl (by kernel_rfl) (by kernel_rfl) (by kernel_rfl) (fun _ _ _ h => h) (Or.inl ⟨by kernel_rfl, ?h12⟩) hHeld ?_
            case h12 =>
              intro w' hSw
              (try dsimp only at hSw)
              go_simp
              (try with_reducible rfl)
            (try simp only [Act.put]); (try simp only [List.setIfInBounds_toArray]); (try simp only [List.set_cons_succ]); (try simp only [List.set_cons_zero])
            refine wpAnyH_take (i := 13) (v := ?_) rfl (by kernel_rfl) (by kernel_rfl) (by kernel_rfl) (fun _ _ _ h => h) (Or.inl ⟨by kernel_rfl, ?h13⟩) hHeld ?_
            case h13 =>
              intro w' hSw
              (try dsimp only at hSw)
              go_simp
              (try with_reducible rfl)
            (try simp only [Act.put]); (try simp only [List.setIfInBounds_toArray]); (try simp only [List.set_cons_succ]); (try simp only [List.set_cons_zero])
            refine wpAnyH_take (i := 14) (v := ?_) rfl (by kernel_rfl) (by kernel_rfl) (by kernel_rfl) (fun _ _ _ h => h) (Or.inl ⟨by kernel_rfl, ?h14⟩) hHeld ?_
            case h14 =>
              intro w' hSw
              (try dsimp only at hSw)
              go_simp
              (try with_reducible rfl)
            (try simp only [Act.put]); (try simp only [List.setIfInBounds_toArray]); (try simp only [List.set_cons_succ]); (try simp only [List.set_cons_zero])
            refine wpAnyH_ready (rs := [15]) (by kernel_rfl) (by simp) ?_
            refine AllReadyH.cons rfl (fun K hK => ?_) (AllReadyH.nil)
            go_simp
            (refine (CX.out _ hHeld.bel).mono ?_)
            rintro e w5 ⟨rfl, hb⟩
            have hS2 := hHeld.below hb
            clear hb
            refine hK.out _ _ hS2 (fun hHeld => ?_)
            clear hK K hS2
            (try simp only [Act.put]); (try simp only [List.setIfInBounds_toArray]); (try simp only [List.set_cons_succ]); (try simp only [List.set_cons_zero])
            refine wpAnyH_take (i := 16) (v := ?_) rfl (by kernel_rfl) (by kernel_rfl) (by kernel_rfl) (fun _ _ _ h => h) (Or.inl ⟨by kernel_rfl, ?h16⟩) hHeld ?_
            case h16 =>
              intro w' hSw
              (try dsimp only at hSw)
              go_simp
              (try with_reducible rfl)
            (try simp only [Act.put]); (try simp only [List.setIfInBounds_toArray]); (try simp only [List.set_cons_succ]); (try simp only [List.set_cons_zero])
            refine wpAnyH_take (i := 17) (v := ?_) rfl (by kernel_rfl) (by kernel_rfl) (by kernel_rfl) (fun _ _ _ h => h) (Or.inl ⟨by rfl, ?h17⟩) hHeld ?_
            case h17 =>
              intro w' hSw
              (try dsimp only at hSw)
              go_simp
              (try with_reducible rfl)
            (try simp only [Act.put]); (try simp only [List.setIfInBounds_toArray]); (try simp only [List.set_cons_succ]); (try simp only [List.set_cons_zero])
            refine wpAnyH_take (i := 18) (v := ?_) rfl (by kernel_rfl) (by kernel_rfl) (by kernel_rfl) (fun _ _ _ h => h) (Or.inl ⟨by rfl, ?h18⟩) hHeld ?_
            case h18 =>
              intro w' hSw
              (try dsimp only at hSw)
              go_simp
              (try with_reducible rfl)
            (try simp only [Act.put]); (try simp only [List.setIfInBounds_toArray]); (try simp only [List.set_cons_succ]); (try simp only [List.set_cons_zero])
            refine wpAnyH_take (i := 19) (v := ?_) rfl (by kernel_rfl) (by kernel_rfl) (by kernel_rfl) (fun _ _ _ h => h) (Or.inl ⟨by kernel_rfl, ?h19⟩) hHeld ?_
            case h19 =>
              intro w' hSw
              (try dsimp only at hSw)
              go_simp
              (try with_reducible rfl)
            (try simp only [Act.put]); (try simp only [List.setIfInBounds_toArray]); (try simp only [List.set_cons_succ]); (try simp only [List.set_cons_zero])
            refine wpAnyH_take (i := 20) (v := ?_) rfl (by kernel_rfl) (by kernel_rfl) (by kernel_rfl) (fun _ _ _ h => h) (Or.inl ⟨by kernel_rfl, ?h20⟩) hHeld ?_
            case h20 =>
              intro w' hSw
              (try dsimp only at hSw)
              go_simp
              (try with_reducible rfl)
            (try simp only [Act.put]); (try simp only [List.setIfInBounds_toArray]); (try simp only [List.set_cons_succ]); (try simp only [List.set_cons_zero])
            refine wpAnyH_take (i := 21) (v := ?_) rfl (by kernel_rfl) (by kernel_rfl) (by kernel_rfl) (fun _ _ _ h => h) (Or.inl ⟨by rfl, ?h21⟩) hHeld ?_
            case h21 =>
              intro w' hSw
              (try dsimp only at hSw)
              go_simp
              (try with_reducible rfl)
            (try simp only [Act.put]); (try simp only [List.setIfInBounds_toArray]); (try simp only [List.set_cons_succ]); (try simp only [List.set_cons_zero])
            refine wpAnyH_take (i := 22) (v := ?_) rfl (by kernel_rfl) (by kernel_rfl) (by kernel_rfl) (fun _ _ _ h => h) (Or.inl ⟨by rfl, ?h22⟩) hHeld ?_
            case h22 =>
              intro w' hSw
              (try dsimp only at hSw)
              go_simp
              (try with_reducible rfl)
            (try simp only [Act.put]); (try simp only [List.setIfInBounds_toArray]); (try simp only [List.set_cons_succ]); (try simp only [List.set_cons_zero])
            refine wpAnyH_take (i := 23) (v := ?_) rfl (by kernel_rfl) (by kernel_rfl) (by kernel_rfl) (fun _ _ _ h => h) (Or.inl ⟨by kernel_rfl, ?h23⟩) hHeld ?_
            case h23 =>
              intro w' hSw
              (try dsimp only at hSw)
              go_simp
              (try with_reducible rfl)
            (try simp only [Act.put]); (try simp only [List.setIfInBounds_toArray]); (try simp only [List.set_cons_succ]); (try simp only [List.set_cons_zero])
            refine wpAnyH_take (i := 24) (v := ?_) rfl (by kernel_rfl) (by kernel_rfl) (by kernel_rfl) (fun _ _ _ h => h) (Or.inl ⟨by kernel_rfl, ?h24⟩) hHeld ?_
            case h24 =>
              intro w' hSw
              (try dsimp only at hSw)
              go_simp
              (try with_reducible rfl)
            (try simp only [Act.put]); (try simp only [List.setIfInBounds_toArray]); (try simp only [List.set_cons_succ]); (try simp only [List.set_cons_zero])
            refine wpAnyH_take (i := 25) (v := ?_) rfl (by kernel_rfl) (by kernel_rfl) (by kernel_rfl) (fun _ _ _ h => h) (Or.inl ⟨by rfl, ?h25⟩) hHeld ?_
            case h25 =>
              intro w' hSw
              (try dsimp only at hSw)
              go_simp
              (try with_reducible rfl)
            (try simp only [Act.put]); (try simp only [List.setIfInBounds_toArray]); (try simp only [List.set_cons_succ]); (try simp only [List.set_cons_zero])
            refine wpAnyH_take (i := 26) (v := ?_) rfl (by kernel_rfl) (by kernel_rfl) (by kernel_rfl) (fun _ _ _ h => h) (Or.inl ⟨by rfl, ?h26⟩) hHeld ?_
            case h26 =>
              intro w' hSw
              (try dsimp only at hSw)
              go_simp
              (try with_reducible rfl)
            (try simp only [Act.put]); (try simp only [List.setIfInBounds_toArray]); (try simp only [List.set_cons_succ]); (try simp only [List.set_cons_zero])
            refine wpAnyH_take (i := 27) (v := ?_) rfl (by kernel_rfl) (by kernel_rfl) (by kernel_rfl) (fun _ _ _ h => h) (Or.inl ⟨by kernel_rfl, ?h27⟩) hHeld ?_
            case h27 =>
              intro w' hSw
              (try dsimp only at hSw)
              go_simp
              (try with_reducible rfl)
            (try simp only [Act.put]); (try simp only [List.setIfInBounds_toArray]); (try simp only [List.set_cons_succ]); (try simp only [List.set_cons_zero])
            refine wpAnyH_take (i := 28) (v := ?_) rfl (by kernel_rfl) (by kernel_rfl) (by kernel_rfl) (fun _ _ _ h => h) (Or.inl ⟨by kernel_rfl, ?h28⟩) hHeld ?_
            case h28 =>
              intro w' hSw
              (try dsimp only at hSw)
              go_simp
              (try with_reducible rfl)
            (try simp only [Act.put]); (try simp only [List.setIfInBounds_toArray]); (try simp only [List.set_cons_succ]); (try simp only [List.set_cons_zero])
            refine wpAnyH_take (i := 29) (v := ?_) rfl (by kernel_rfl) (by kernel_rfl) (by kernel_rfl) (fun _ _ _ h => h) (Or.inl ⟨by kernel_rfl, ?h29⟩) hHeld ?_
            case h29 =>
              intro w' hSw
              (try dsimp only at hSw)
              go_simp
              (try with_reducible rfl)
            (try simp only [Act.put]); (try simp only [List.setIfInBounds_toArray]); (try simp only [List.set_cons_succ]); (try simp only [List.set_cons_zero])
            refine wpAnyH_ready (rs := [30]) (by kernel_rfl) (by simp) ?_
            refine AllReadyH.cons rfl (fun K hK => ?_) (AllReadyH.nil)
            go_simp
            (refine (C35.out _ hHeld.bel).mono ?_)
            rintro e w6 ⟨v2, rfl, hT2, hb⟩
            obtain ⟨qa, ca, rfl⟩ := lenV hT2
            have e9 : (((grpL R ys bb).length : Int) == 1) = true := by rw [hG1]; rfl
            have e10 : (((grpL R ys bb).length : Int) != 1) = false := by rw [bne, e9]; rfl
            rw [hG1]
            have hS2 := hHeld.below hb
            clear hb hT2
            refine hK.out _ _ hS2 (fun hHeld => ?_)
            clear hK K hS2
            (try simp only [Act.put]); (try simp only [List.setIfInBounds_toArray]); (try simp only [List.set_cons_succ]); (try simp only [List.set_cons_zero])
            refine wpAnyH_take (i := 31) (v := ?_) rfl (by kernel_rfl) (by kernel_rfl) (by kernel_rfl) (fun _ _ _ h => h) (Or.inl ⟨by kernel_rfl, ?h31⟩) hHeld ?_
            case h31 =>
              intro w' hSw
              (try dsimp only at hSw)
              go_simp
              (try with_reducible rfl)
            (try simp only [Act.put]); (try simp only [List.setIfInBounds_toArray]); (try simp only [List.set_cons_succ]); (try simp only [List.set_cons_zero])
            refine wpAnyH_take (i := 32) (v := ?_) rfl (by kernel_rfl) (by kernel_rfl) (by kernel_rfl) (fun _ _ _ h => h) (Or.inl ⟨by kernel_rfl, ?h32⟩) hHeld ?_
            case h32 =>
              intro w' hSw
              (try dsimp only at hSw)
              go_simp
              (try with_reducible rfl)
            (try simp only [Act.put]); (try simp only [List.setIfInBounds_toArray]); (try simp only [List.set_cons_succ]); (try simp only [List.set_cons_zero])
            refine wpAnyH_take (i := 33) (v := ?_) rfl (by kernel_rfl) (by kernel_rfl) (by kernel_rfl) (fun _ _ _ h => h) (Or.inl ⟨by rfl, ?h33⟩) hHeld ?_
            case h33 =>
              intro w' hSw
              (try dsimp only at hSw)
              go_simp
              (try with_reducible rfl)
            (try simp only [Act.put]); (try simp only [List.setIfInBounds_toArray]); (try simp only [List.set_cons_succ]); (try simp only [List.set_cons_zero])
            refine wpAnyH_done (by kernel_rfl) ?_ _
            have hs9 := hHeld
            rw [HBS.out] at hs9
            have S9 := Lib.hid hs9
            clear hHeld hs9 K0 K1 K2 K3 K4 K5 K6 L0 HBS
            by_cases hbz : bb = 0
            · subst hbz
              go_wp2_with (go_at_call 18; (refine (awake_any _).mono ?_); rintro e wA ⟨rfl, hbA⟩; have SA := Lib.hid (S9.out.bel.trans (hbA.mono S9.out.bel.size)); clear hbA)
              go_ret
              exact ⟨rfl, SA.out⟩
            · have e7 : ((bb : Int) == 0) = false := by rw [beq_eq_false_iff_ne]; omega
              have e8 : IntKind.i64.wrap ((bb : Int) - 1) = ((bb - 1 : Nat) : Int) := by rw [IntWalk.i64_in _ (by omega)]; omega
              have hG3 := HG2.out (by omega)
              obtain ⟨z0, z1, z2, z3, z4, z5, z6⟩ := (S9.out.blkAt 0 rfl).c7
              go_wp2_with (first | (go_at_call 35; (refine (C36.out _ S9.out.bel).mono ?_); rintro e wS ⟨v2, rfl, hT2, hbS⟩; obtain ⟨qa2, ca2, rfl⟩ := lenV hT2; have p12 : (1 : Int) < ((grpL R ys (bb - 1)).length : Int) := (by omega); have SS := Lib.hid (S9.out.below hbS); clear hT2 hbS) | (go_at_call 18; (refine (awake_any _).mono ?_); rintro e wA ⟨rfl, hbA⟩; have SA := Lib.hid (SS.out.bel.trans (hbA.mono SS.out.bel.size)); clear hbA))
              go_ret
              exact ⟨rfl, SA.out⟩
    · have hS : someN R ys = lstN R ys [] := by unfold someN; rw [if_neg h0]
      obtain rfl : V1 = 0 := by rw [← HV1.out, hS, if_neg h0]
      obtain rfl : V2 = 0 := by rw [← HV2.out, hS, if_neg h0]
      obtain rfl : V3 = 0 := by rw [← HV3.out, hS, if_neg h0]
      rw [hS]
      clear HV1 HV2 HV3
      generalize lstN R ys [] = v at *
      have t0 : ((v : Int) == 0) = false := by rw [beq_eq_false_iff_ne]; omega
      have t1 : ((v : Int) != 0) = true := by rw [bne, t0]; rfl
      clear hS h0
      go_wp2_with (first | (go_at_call 18; (refine (awake_any _).mono ?_); rintro e wA ⟨rfl, hbA⟩; have SA := Lib.hid (S8.out.bel.trans (hbA.mono S8.out.bel.size)); clear hbA))
      go_ret
      exact ⟨rfl, SA.out⟩
end Go.Proofs.YtkdflgaahhnigaaGreat

namespace Go.Proofs.YtkdflgaahhnigaaGreat.nameCenters
open Go.ChangeShapes Go.WideShapes Go.ChangeAt Go.RowKit Go.Joins Go.Deep
open Go.ChangeMaps (open_string)

theorem own : ownKnob Tryz.prog.godebug = none := by kernel_rfl
theorem laidOut : laidOutB Tryz.prog = true := by kernel_rfl

set_option maxRecDepth 100000 in
theorem lifted (os : Os) (started : os.Started) (H : Type) (enc : TypeId × Value → H) :
    ReturnsInHanded {} Tryz.checked os 6 .any (Rows.nameCentersSpec.pre6 enc Tryz.prog Tryz.f6 Rows.nameCentersRow.domain false) (Rows.nameCentersSpec.post enc Tryz.prog Tryz.f6 false true false false) := by
  refine returnsInHanded_of_change (C := Tryz.checked) own started (by kernel_rfl) Tryz.func6
    (ChangeSpec.witness6 (enc := enc) (C := Tryz.checked) false ⟨#[], #[.agg #[.slice none 0 0, .string ⟨#[]⟩, .int .i64 0, .int .i64 0, .int .i64 0, .int .i64 0, .int .i64 0], .slice none 0 0], []⟩ 8 (by kernel_rfl) (by kernel_rfl) (by kernel_rfl) (by kernel_rfl)) ?_
  intro W base args ds gs before hval0 hW hcnd _
  have hval : ∀ (j : Nat) t v, Tryz.f6.params[j]? = some t → args[j]? = some v → Value.okWide Tryz.prog W .any base t v := hval0
  have hW' := hW
  obtain ⟨p, q, hA0, hV, rfl, hfz, hnd⟩ := hW
  have hA : DataW.TrodAll enc Tryz.prog W 0 (fun _ => true) true Tryz.f6.params.toList args.toList ds p := hA0
  rw [Tryz.params6] at hA hval
  obtain ⟨v0, vs0, d0, ds0, p0, q0, hargs, rfl, rfl, h0, r0⟩ := trodAll_cons hA
  obtain ⟨v1, vs1, d1, ds1, p1, q1, rfl, rfl, rfl, h1, r1⟩ := trodAll_cons r0
  obtain ⟨rfl, rfl, rfl⟩ := trodAll_nil r1
  obtain rfl : args = #[v0, v1] := by cases args; simp_all
  obtain ⟨rfl, rfl⟩ := trodVars_none hV
  have k0 := h0
  have lt0 : ∀ x ∈ p0, x.block < W.heap.size := by obtain ⟨m, hm⟩ := k0; exact DataW.trod_lt m _ _ _ hm
  obtain ⟨a0, n0, c0, g0, o0, R0, rfl, sk0, hc0⟩ := open_rules (hval 0 24 v0 rfl rfl) h0
  have k1 := h1
  have lt1 : ∀ x ∈ p1, x.block < W.heap.size := by obtain ⟨m, hm⟩ := k1; exact DataW.trod_lt m _ _ _ hm
  obtain ⟨a1, n1, c1, rfl⟩ := okWide_slice Tryz.underlying22 (hval 1 22 v1 rfl rfl)
  obtain ⟨m1, hm1⟩ := h1
  obtain ⟨a1, n1, c1, g1, o1, l1, e1, sk1, hc1⟩ := row_of_strs hm1
  cases e1
  clear hA0 hval0
  refine (NameCenters_walk a0 g0 o0 c0 n0 R0 W sk0 hc0 a1 g1 o1 c1 n1 l1 sk1 hc1).mono fun e W' ⟨he, bel⟩ => ?_
  subst he
  exact ⟨_, rfl, _, _, _, [], _, [], hW', trodAll_mk1 (shut_bool Tryz.underlying4 _), (trodAll_cons_mk (Below.trod laidOut (by kernel_rfl) (of_decide_eq_true (by kernel_rfl)) k0 bel lt0) (trodAll_cons_mk (Below.trod laidOut (by kernel_rfl) (of_decide_eq_true (by kernel_rfl)) k1 bel lt1) trodAll_mk0)), rfl, bel.frame _, fun h => by cases h⟩

theorem over : Rows.nameCentersRow.holds Tryz.pinned (OpenSpec.ofChange Rows.nameCentersSpec) :=
  OpenClaim.holds_of_wide 6 Tryz.f6 rfl rfl rfl rfl rfl rfl rfl ⟨rfl, rfl, rfl, rfl, rfl⟩ rfl rfl rfl rfl rfl (by kernel_rfl) Tryz.func6 (by kernel_rfl)
    (of_decide_eq_true (by kernel_rfl)) (by unfold Func.isWrapper; first | (rw [if_pos (by decide +kernel)]; kernel_rfl) | (rw [if_neg (by decide +kernel)]; exact ⟨rfl, rfl⟩))
    (fun os started H enc _ => lifted os started H enc)
end Go.Proofs.YtkdflgaahhnigaaGreat.nameCenters
namespace Go.Proofs.YtkdflgaahhnigaaGreat
/-- THE STATEMENT -/
theorem nameCenters_holds : Rows.NameCentersSaid := nameCenters.over
#print axioms nameCenters_holds
end Go.Proofs.YtkdflgaahhnigaaGreat
