/- NameBridge: the walk. NameBridge: for every input the statement returns true, and each argument reads behind the call as it read before. No condition. -/
import Derived.Test.YtkdflgaahhnigaaGreatC14
import Derived.ProofKit
import Derived.OpenShut
import Derived.ShutString
import Derived.ChangeOld
import Derived.Below
import Derived.Lib.SmallJoins
import Derived.Deep.Slices
set_option linter.unusedVariables false
set_option linter.unusedSimpArgs false
namespace Go.Proofs.YtkdflgaahhnigaaGreat
open Go.RowKit Go.Shelf

set_option maxRecDepth 100000 in
set_option maxHeartbeats 4000000 in
theorem NameBridge_walk (a : Option Addr) (g o c n : Nat) (R : RB) (w : World) (hk : SKn w a g o c n R.cls) (hc : n ≤ c) (an : Option Addr) (gn on cn m : Nat) (ys : List ByteArray) (hkn : SKn w an gn on cn m ys) (hcm : m ≤ cn) (k : Int) (hk16 : (Lit.int .u16 k).wf = true) : Calls Tryz.prog 14 #[rulesV a n c R.soft R.al R.ot R.sk R.ss R.db, .slice an m cn, .int .u16 k] w fun e w' => e = .returned (.bool true) ∧ Below w.heap.size w w' := by
  have C36 := Lib.hid (fun W (hW : Below w.heap.size w W) => ready36 a g o c n R W hk.1 (hk.2.1.below hW) an gn on cn m ys hkn.1 (hkn.2.1.below hW))
  by_cases hm0 : m = 0
  · have t0 : ((m : Int) == 0) = true := by rw [beq_iff_eq]; omega
    clear hm0
    have s0 := ((KS.start w).new (rulesC a n c R.soft R.al R.ot R.sk R.ss R.db) 24)
    obtain ⟨kb0_0, kb0_1, kb0_2, kb0_3, kb0_4, kb0_5, kb0_6⟩ := (s0.blkAt 0 rfl).c7
    have S0 := Lib.hid s0
    clear s0 hk hc hkn hcm
    go_enter Tryz.func14, Tryz.ntmps14
    go_wp2_with (go_at_call 18; (refine (awake_any _).mono ?_); rintro e wA ⟨rfl, hbA⟩; have SA := Lib.hid (S0.out.bel.trans (hbA.mono S0.out.bel.size)); clear hbA)
    go_ret
    exact ⟨rfl, SA.out⟩
  have t0 : ((m : Int) == 0) = false := by rw [beq_eq_false_iff_ne]; omega
  by_cases hm12 : 12 < m
  · have t1 : (12 : Int) < (m : Int) := by omega
    clear hm12
    have s0 := ((KS.start w).new (rulesC a n c R.soft R.al R.ot R.sk R.ss R.db) 24)
    obtain ⟨kb0_0, kb0_1, kb0_2, kb0_3, kb0_4, kb0_5, kb0_6⟩ := (s0.blkAt 0 rfl).c7
    have S0 := Lib.hid s0
    clear s0 hk hc hkn hcm
    go_enter Tryz.func14, Tryz.ntmps14
    go_wp2_with (go_at_call 18; (refine (awake_any _).mono ?_); rintro e wA ⟨rfl, hbA⟩; have SA := Lib.hid (S0.out.bel.trans (hbA.mono S0.out.bel.size)); clear hbA)
    go_ret
    exact ⟨rfl, SA.out⟩
  have t1 : ¬ (12 : Int) < (m : Int) := by omega
  cases hr : readyB R ys with
  | false =>
    rw [hr] at C36
    clear hm12 hm0
    have s0 := ((KS.start w).new (rulesC a n c R.soft R.al R.ot R.sk R.ss R.db) 24)
    obtain ⟨kb0_0, kb0_1, kb0_2, kb0_3, kb0_4, kb0_5, kb0_6⟩ := (s0.blkAt 0 rfl).c7
    have S0 := Lib.hid s0
    clear s0 hr hk hc hkn hcm
    go_enter Tryz.func14, Tryz.ntmps14
    go_wp2_with fail
    refine (C36.out _ S0.out.bel).mono ?_
    rintro e w1 ⟨rfl, hb⟩
    have S1 := Lib.hid (S0.out.below hb)
    clear hb
    go_wp2_with (go_at_call 18; (refine (awake_any _).mono ?_); rintro e wA ⟨rfl, hbA⟩; have SA := Lib.hid (S1.out.bel.trans (hbA.mono S1.out.bel.size)); clear hbA)
    go_ret
    exact ⟨rfl, SA.out⟩
  | true =>
    obtain ⟨ht, hn15, hv, _, hl⟩ := ready_parts hr
    rw [hr] at C36
    have hnn := hk.1
    have hmm := hkn.1
    have C20 := Lib.hid (fun W (hW : Below w.heap.size w W) => Rules20 a g o c n R W (hk.below hW) (by omega))
    have C28 := Lib.hid (fun W (hW : Below w.heap.size w W) => list28' an gn on cn m ys W (hkn.below hW) (by omega))
    have HT := Lib.hid ht
    have HN := Lib.hid hk.1
    have HV := Lib.hid hv
    have hlst : lstN R ys [] = 0 := by unfold lstN; rw [if_neg (by omega), List.append_nil]; exact hv
    have HLS := Lib.hid hlst
    have hl1000 : ∀ y, y ∈ ys → y.size ≤ 1000 := fun y hy => by have := hl y hy; omega
    have HLL := Lib.hid hl1000
    have hm900 : m ≤ 900 := by omega
    have hgood := (chkN_ok hv).1
    have hnms : NmsOk ys := (chkN_ok hv).2
    have s0 := ((KS.start w).new (rulesC a n c R.soft R.al R.ot R.sk R.ss R.db) 24)
    obtain ⟨kb0_0, kb0_1, kb0_2, kb0_3, kb0_4, kb0_5, kb0_6⟩ := (s0.blkAt 0 rfl).c7
    have S0 := Lib.hid s0
    have hne : ys ≠ [] := by rintro rfl; simp at hmm; omega
    have hsm : someN R ys = 0 := by unfold someN; rw [hlst, if_pos rfl, if_neg (by omega)]
    obtain ⟨b, hb1, hb2, hb3, hb4⟩ := brN_spec hgood hnms hne
    have h1 : (grpL R ys b).length = 1 := by simpa [oneG] using hb3
    obtain ⟨kn, rfl, hk65⟩ : ∃ kn : Nat, k = (kn : Int) ∧ kn < 65536 := by
      have h2 : IntKind.u16.min ≤ k ∧ k ≤ IntKind.u16.max := by simpa [Lit.wf] using hk16
      have h3 : IntKind.u16.min = 0 := rfl
      have h4 : IntKind.u16.max = 65535 := rfl
      exact ⟨k.toNat, by omega, by omega⟩
    have H1 := Lib.hid h1
    have HSM := Lib.hid hsm
    have HBR := Lib.hid hb1
    have HPOS := Lib.hid (fun L => grpL_pos R ys L hne)
    have HB4 := Lib.hid hb4
    have q1 : ¬ (b : Int) < 0 := by omega
    have q2 : ¬ (2400 : Int) < (b : Int) := by omega
    have hb5 : b ≤ 5000 := by omega
    clear hb1 hb3 hb4 h1 hsm hne hk16 hm0
    clear s0 hr ht hn15 hv hl hnn hmm hk hc hkn hcm hl1000 hlst hgood hnms hm12
    go_enter Tryz.func14, Tryz.ntmps14
    go_wp2_with fail
    refine (C36.out _ S0.out.bel).mono ?_
    rintro e w1 ⟨rfl, hb⟩
    clear kb0_0 kb0_1 kb0_2 kb0_3 kb0_4 kb0_5 kb0_6
    have s1 := S0.out.below hb
    obtain ⟨kb0_0, kb0_1, kb0_2, kb0_3, kb0_4, kb0_5, kb0_6⟩ := (s1.blkAt 0 rfl).c7
    have S1 := Lib.hid s1
    clear hb s1
    go_wp2_with fail
    refine (C20.out _ S1.out.bel).mono ?_
    rintro e w2 ⟨a2, g2, c2, rfl, hsk, hle2, hb⟩
    have HK2 := Lib.hid hsk
    clear hsk
    clear kb0_0 kb0_1 kb0_2 kb0_3 kb0_4 kb0_5 kb0_6
    have s2 := S1.out.below hb
    obtain ⟨kb0_0, kb0_1, kb0_2, kb0_3, kb0_4, kb0_5, kb0_6⟩ := (s2.blkAt 0 rfl).c7
    have S2 := Lib.hid s2
    clear hb s2
    go_wp2_with fail
    refine (C28.out _ S2.out.bel).mono ?_
    rintro e w3 ⟨b3, d3, e3, rfl, hsl, hll3, hb⟩
    have HL3 := Lib.hid hsl
    clear hsl
    have HR3 := Lib.hid (HK2.out.below hb)
    clear kb0_0 kb0_1 kb0_2 kb0_3 kb0_4 kb0_5 kb0_6
    have s3 := S2.out.below hb
    obtain ⟨kb0_0, kb0_1, kb0_2, kb0_3, kb0_4, kb0_5, kb0_6⟩ := (s3.blkAt 0 rfl).c7
    have S3 := Lib.hid s3
    clear hb s3
    go_wp2_with fail
    refine (Bridge_good a2 g2 0 c2 n R _ HN.out HR3.out hle2 HT.out b3 d3 0 e3 m ys HL3.out hll3 hm900 HLL.out HSM.out).mono ?_
    rintro e w4 ⟨rfl, hb⟩
    rw [HBR.out]
    clear kb0_0 kb0_1 kb0_2 kb0_3 kb0_4 kb0_5 kb0_6
    have s4 := S3.out.below hb
    obtain ⟨kb0_0, kb0_1, kb0_2, kb0_3, kb0_4, kb0_5, kb0_6⟩ := (s4.blkAt 0 rfl).c7
    have S4 := Lib.hid s4
    clear hb s4
    go_wp2_with fail
    refine (C20.out _ S4.out.bel).mono ?_
    rintro e w5 ⟨a5, g5, c5, rfl, hsk, hle5, hb⟩
    have HK5 := Lib.hid hsk
    clear hsk
    clear kb0_0 kb0_1 kb0_2 kb0_3 kb0_4 kb0_5 kb0_6
    have s5 := S4.out.below hb
    obtain ⟨kb0_0, kb0_1, kb0_2, kb0_3, kb0_4, kb0_5, kb0_6⟩ := (s5.blkAt 0 rfl).c7
    have S5 := Lib.hid s5
    clear hb s5
    go_wp2_with fail
    refine (C28.out _ S5.out.bel).mono ?_
    rintro e w6 ⟨b6, d6, e6, rfl, hsl, hll6, hb⟩
    have HL6 := Lib.hid hsl
    clear hsl
    have HR6 := Lib.hid (HK5.out.below hb)
    clear kb0_0 kb0_1 kb0_2 kb0_3 kb0_4 kb0_5 kb0_6
    have s6 := S5.out.below hb
    obtain ⟨kb0_0, kb0_1, kb0_2, kb0_3, kb0_4, kb0_5, kb0_6⟩ := (s6.blkAt 0 rfl).c7
    have S6 := Lib.hid s6
    clear hb s6
    go_wp2_with fail
    refine (Groups_good a5 g5 0 c5 n R _ HN.out HR6.out hle5 HT.out b6 d6 0 e6 m ys HL6.out hll6 hm900 HLL.out b hb5 HLS.out).mono ?_
    rintro e w7 ⟨⟨v, rfl, hT⟩, hb⟩
    obtain ⟨qv, cv, rfl⟩ := lenV hT
    rw [H1.out]
    clear hT
    clear kb0_0 kb0_1 kb0_2 kb0_3 kb0_4 kb0_5 kb0_6
    have s7 := S6.out.below hb
    obtain ⟨kb0_0, kb0_1, kb0_2, kb0_3, kb0_4, kb0_5, kb0_6⟩ := (s7.blkAt 0 rfl).c7
    have S7 := Lib.hid s7
    clear hb s7
    by_cases hb0 : b = 0
    · have tb : ((b : Int) == 0) = true := by rw [beq_iff_eq]; omega
      clear hb0
      go_wp2_with (first | (go_at_call 18; (refine (awake_any _).mono ?_); rintro e wA ⟨rfl, hbA⟩; have SA := Lib.hid (S7.out.bel.trans (hbA.mono S7.out.bel.size)); clear hbA))
      go_ret
      exact ⟨rfl, SA.out⟩
    · have tb : ((b : Int) == 0) = false := by rw [beq_eq_false_iff_ne]; omega
      have hbp : 0 < b := by omega
      have qb : ¬ (b : Int) = 0 := by omega
      have ekn : IntKind.i64.wrap (kn : Int) = (kn : Int) := IntWalk.i64_in _ (by omega)
      have erem : (kn : Int).tmod (b : Int) = ((kn % b : Nat) : Int) := (Int.ofNat_tmod kn b).symm
      have hlt := Nat.mod_lt kn hbp
      have hB4 := HB4.out (kn % b) hlt
      have hpos := HPOS.out (kn % b)
      have h3 : (grpL R ys (kn % b)).length ≠ 1 := by simpa [oneG] using hB4
      have h2 : 2 ≤ (grpL R ys (kn % b)).length := by omega
      have H2 := Lib.hid h2
      have hr5 : kn % b ≤ 5000 := by omega
      clear hB4 hpos h2 h3
      go_wp2_with fail
      obtain ⟨BS, hBS⟩ : ∃ BS : List (Nat × Array Value × TypeId), BS = [(w.heap.size, rulesC a n c R.soft R.al R.ot R.sk R.ss R.db, 24)] := ⟨_, rfl⟩
      have hS : KS w BS w7.drew := by rw [hBS]; exact S7.out.drew
      have K0 : ∀ W, KS w BS W → W.cell? ⟨w.heap.size, 0, none⟩ = some (.slice a n c) := fun W h => by rw [hBS] at h; exact (h.blkAt 0 rfl).cell 0
      have K1 : ∀ W, KS w BS W → W.cell? ⟨w.heap.size, 1, none⟩ = some (.string R.soft) := fun W h => by rw [hBS] at h; exact (h.blkAt 0 rfl).cell 1
      have K2 : ∀ W, KS w BS W → W.cell? ⟨w.heap.size, 2, none⟩ = some (.int .i64 R.al) := fun W h => by rw [hBS] at h; exact (h.blkAt 0 rfl).cell 2
      have K3 : ∀ W, KS w BS W → W.cell? ⟨w.heap.size, 3, none⟩ = some (.int .i64 R.ot) := fun W h => by rw [hBS] at h; exact (h.blkAt 0 rfl).cell 3
      have K4 : ∀ W, KS w BS W → W.cell? ⟨w.heap.size, 4, none⟩ = some (.int .i64 R.sk) := fun W h => by rw [hBS] at h; exact (h.blkAt 0 rfl).cell 4
      have K5 : ∀ W, KS w BS W → W.cell? ⟨w.heap.size, 5, none⟩ = some (.int .i64 R.ss) := fun W h => by rw [hBS] at h; exact (h.blkAt 0 rfl).cell 5
      have K6 : ∀ W, KS w BS W → W.cell? ⟨w.heap.size, 6, none⟩ = some (.int .i64 R.db) := fun W h => by rw [hBS] at h; exact (h.blkAt 0 rfl).cell 6
      have HBS := Lib.hid hBS
      clear hBS
      clear kb0_0 kb0_1 kb0_2 kb0_3 kb0_4 kb0_5 kb0_6
      refine wp_region_held_drew (S := KS w BS) (by kernel_rfl) hS (fun hHeld => ?_)
      clear hS
      refine wpAnyH_take (i := 0) (v := ?_) rfl (by kernel_rfl) (by kernel_rfl) (by kernel_rfl) (fun _ _ _ h => h) (Or.inl ⟨by rfl, ?h0⟩) hHeld ?_
      case h0 =>
        intro w' hSw
        (try dsimp only at hSw)
        go_simp
        (try with_reducible rfl)
      (try simp only [Act.put]); (try simp only [List.setIfInBounds_toArray]); (try simp only [List.set_cons_succ]); (try simp only [List.set_cons_zero])
      refine wpAnyH_take (i := 2) (v := ?_) rfl (by kernel_rfl) (by kernel_rfl) (by kernel_rfl) (fun _ _ _ h => h) (Or.inl ⟨by rfl, ?h2⟩) hHeld ?_
      case h2 =>
        intro w' hSw
        (try dsimp only at hSw)
        go_simp
        (try with_reducible rfl)
      (try simp only [Act.put]); (try simp only [List.setIfInBounds_toArray]); (try simp only [List.set_cons_succ]); (try simp only [List.set_cons_zero])
      refine wpAnyH_take (i := 4) (v := ?_) rfl (by kernel_rfl) (by kernel_rfl) (by kernel_rfl) (fun _ _ _ h => h) (Or.inl ⟨by rfl, ?h4⟩) hHeld ?_
      case h4 =>
        intro w' hSw
        (try dsimp only at hSw)
        go_simp
        (try with_reducible rfl)
      (try simp only [Act.put]); (try simp only [List.setIfInBounds_toArray]); (try simp only [List.set_cons_succ]); (try simp only [List.set_cons_zero])
      refine wpAnyH_take (i := 5) (v := ?_) rfl (by kernel_rfl) (by kernel_rfl) (by kernel_rfl) (fun _ _ _ h => h) (Or.inl ⟨by rfl, ?h5⟩) hHeld ?_
      case h5 =>
        intro w' hSw
        (try dsimp only at hSw)
        go_simp
        (try with_reducible rfl)
      (try simp only [Act.put]); (try simp only [List.setIfInBounds_toArray]); (try simp only [List.set_cons_succ]); (try simp only [List.set_cons_zero])
      refine wpAnyH_take (i := 6) (v := ?_) rfl (by kernel_rfl) (by kernel_rfl) (by kernel_rfl) (fun _ _ _ h => h) (Or.inl ⟨by rfl, ?h6⟩) hHeld ?_
      case h6 =>
        intro w' hSw
        (try dsimp only at hSw)
        go_simp
        (try with_reducible rfl)
      (try simp only [Act.put]); (try simp only [List.setIfInBounds_toArray]); (try simp only [List.set_cons_succ]); (try simp only [List.set_cons_zero])
      refine wpAnyH_take (i := 7) (v := ?_) rfl (by kernel_rfl) (by kernel_rfl) (by kernel_rfl) (fun _ _ _ h => h) (Or.inl ⟨by rfl, ?h7⟩) hHeld ?_
      case h7 =>
        intro w' hSw
        (try dsimp only at hSw)
        go_simp
        (try with_reducible rfl)
      (try simp only [Act.put]); (try simp only [List.setIfInBounds_toArray]); (try simp only [List.set_cons_succ]); (try simp only [List.set_cons_zero])
      refine wpAnyH_ready (rs := [1]) (by kernel_rfl) (by simp) ?_
      refine AllReadyH.cons rfl (fun K hK => ?_) (AllReadyH.nil)
      go_simp
      (refine (C20.out _ hHeld.bel).mono ?_)
      rintro e w20 ⟨a20, g20, c20, rfl, hsk, hle20, hb⟩
      have HK20 := Lib.hid hsk
      have hS2 := hHeld.below hb
      clear hsk hb
      refine hK.out _ _ hS2 (fun hHeld => ?_)
      clear hK K hS2
      (try simp only [Act.put]); (try simp only [List.setIfInBounds_toArray]); (try simp only [List.set_cons_succ]); (try simp only [List.set_cons_zero])
      refine wpAnyH_ready (rs := [3]) (by kernel_rfl) (by simp) ?_
      refine AllReadyH.cons rfl (fun K hK => ?_) (AllReadyH.nil)
      go_simp
      (refine (C28.out _ hHeld.bel).mono ?_)
      rintro e w21 ⟨b21, d21, e21, rfl, hsl, hll21, hb⟩
      have HL21 := Lib.hid hsl
      have HR21 := Lib.hid (HK20.out.below hb)
      have hS2 := hHeld.below hb
      clear hsl hb
      refine hK.out _ _ hS2 (fun hHeld => ?_)
      clear hK K hS2
      (try simp only [Act.put]); (try simp only [List.setIfInBounds_toArray]); (try simp only [List.set_cons_succ]); (try simp only [List.set_cons_zero])
      refine wpAnyH_ready (rs := [8]) (by kernel_rfl) (by simp) ?_
      refine AllReadyH.cons rfl (fun K hK => ?_) (AllReadyH.nil)
      go_simp
      (refine (Groups_good a20 g20 0 c20 n R _ HN.out HR21.out hle20 HT.out b21 d21 0 e21 m ys HL21.out hll21 hm900 HLL.out (kn % b) hr5 HLS.out).mono ?_)
      rintro e w22 ⟨⟨v, rfl, hT⟩, hb⟩
      obtain ⟨qv, cv, rfl⟩ := lenV hT
      have hS2 := hHeld.below hb
      clear hT hb
      refine hK.out _ _ hS2 (fun hHeld => ?_)
      clear hK K hS2
      (try simp only [Act.put]); (try simp only [List.setIfInBounds_toArray]); (try simp only [List.set_cons_succ]); (try simp only [List.set_cons_zero])
      refine wpAnyH_take (i := 9) (v := ?_) rfl (by kernel_rfl) (by kernel_rfl) (by kernel_rfl) (fun _ _ _ h => h) (Or.inl ⟨by rfl, ?h9⟩) hHeld ?_
      case h9 =>
        intro w' hSw
        (try dsimp only at hSw)
        go_simp
        (try with_reducible rfl)
      (try simp only [Act.put]); (try simp only [List.setIfInBounds_toArray]); (try simp only [List.set_cons_succ]); (try simp only [List.set_cons_zero])
      refine wpAnyH_take (i := 10) (v := ?_) rfl (by kernel_rfl) (by kernel_rfl) (by kernel_rfl) (fun _ _ _ h => h) (Or.inl ⟨by rfl, ?h10⟩) hHeld ?_
      case h10 =>
        intro w' hSw
        (try dsimp only at hSw)
        go_simp
        (try with_reducible rfl)
      (try simp only [Act.put]); (try simp only [List.setIfInBounds_toArray]); (try simp only [List.set_cons_succ]); (try simp only [List.set_cons_zero])
      refine wpAnyH_take (i := 11) (v := ?_) rfl (by kernel_rfl) (by kernel_rfl) (by kernel_rfl) (fun _ _ _ h => h) (Or.inl ⟨by rfl, ?h11⟩) hHeld ?_
      case h11 =>
        intro w' hSw
        (try dsimp only at hSw)
        go_simp
        (try with_reducible rfl)
      (try simp only [Act.put]); (try simp only [List.setIfInBounds_toArray]); (try simp only [List.set_cons_succ]); (try simp only [List.set_cons_zero])
      refine wpAnyH_take (i := 12) (v := ?_) rfl (by kernel_rfl) (by kernel_rfl) (by kernel_rfl) (fun _ _ _ h => h) (Or.inl ⟨by rfl, ?h12⟩) hHeld ?_
      case h12 =>
        intro w' hSw
        (try dsimp only at hSw)
        go_simp
        (try with_reducible rfl)
      (try simp only [Act.put]); (try simp only [List.setIfInBounds_toArray]); (try simp only [List.set_cons_succ]); (try simp only [List.set_cons_zero])
      refine wpAnyH_ready (rs := [13]) (by kernel_rfl) (by simp) ?_
      refine AllReadyH.cons rfl (fun K hK => ?_) (AllReadyH.nil)
      go_simp
      refine hK.out _ _ hHeld (fun hHeld => ?_)
      clear hK K
      (try simp only [Act.put]); (try simp only [List.setIfInBounds_toArray]); (try simp only [List.set_cons_succ]); (try simp only [List.set_cons_zero])
      refine wpAnyH_done (by kernel_rfl) ?_ _
      have HB := Lib.hid hHeld.bel
      have h2 := H2.out
      generalize (grpL R ys (kn % b)).length = gl at *
      have t2 : (2 : Int) ≤ (gl : Int) := by omega
      clear hHeld h2 H2
      go_wp2_with (go_at_call 18; (refine (awake_any _).mono ?_); rintro e wA ⟨rfl, hbA⟩; have SA := Lib.hid (HB.out.trans (hbA.mono HB.out.size)); clear hbA)
      go_ret
      exact ⟨rfl, SA.out⟩
end Go.Proofs.YtkdflgaahhnigaaGreat

namespace Go.Proofs.YtkdflgaahhnigaaGreat.nameBridge
open Go.ChangeShapes Go.WideShapes Go.ChangeAt Go.RowKit Go.Joins Go.Deep
open Go.ChangeMaps (open_string)

theorem own : ownKnob Tryz.prog.godebug = none := by kernel_rfl
theorem laidOut : laidOutB Tryz.prog = true := by kernel_rfl

set_option maxRecDepth 100000 in
theorem lifted (os : Os) (started : os.Started) (H : Type) (enc : TypeId × Value → H) :
    ReturnsInHanded {} Tryz.checked os 14 .any (Rows.nameBridgeSpec.pre6 enc Tryz.prog Tryz.f14 Rows.nameBridgeRow.domain false) (Rows.nameBridgeSpec.post enc Tryz.prog Tryz.f14 false true false false) := by
  refine returnsInHanded_of_change (C := Tryz.checked) own started (by kernel_rfl) Tryz.func14
    (ChangeSpec.witness6 (enc := enc) (C := Tryz.checked) false ⟨#[], #[.agg #[.slice none 0 0, .string ⟨#[]⟩, .int .i64 0, .int .i64 0, .int .i64 0, .int .i64 0, .int .i64 0], .slice none 0 0, .int .u16 0], []⟩ 8 (by kernel_rfl) (by kernel_rfl) (by kernel_rfl) (by kernel_rfl)) ?_
  intro W base args ds gs before hval0 hW hcnd _
  have hval : ∀ (j : Nat) t v, Tryz.f14.params[j]? = some t → args[j]? = some v → Value.okWide Tryz.prog W .any base t v := hval0
  have hW' := hW
  obtain ⟨p, q, hA0, hV, rfl, hfz, hnd⟩ := hW
  have hA : DataW.TrodAll enc Tryz.prog W 0 (fun _ => true) true Tryz.f14.params.toList args.toList ds p := hA0
  rw [Tryz.params14] at hA hval
  obtain ⟨v0, vs0, d0, ds0, p0, q0, hargs, rfl, rfl, h0, r0⟩ := trodAll_cons hA
  obtain ⟨v1, vs1, d1, ds1, p1, q1, rfl, rfl, rfl, h1, r1⟩ := trodAll_cons r0
  obtain ⟨v2, vs2, d2, ds2, p2, q2, rfl, rfl, rfl, h2, r2⟩ := trodAll_cons r1
  obtain ⟨rfl, rfl, rfl⟩ := trodAll_nil r2
  obtain rfl : args = #[v0, v1, v2] := by cases args; simp_all
  obtain ⟨rfl, rfl⟩ := trodVars_none hV
  have k0 := h0
  have lt0 : ∀ x ∈ p0, x.block < W.heap.size := by obtain ⟨m, hm⟩ := k0; exact DataW.trod_lt m _ _ _ hm
  obtain ⟨a0, n0, c0, g0, o0, R0, rfl, sk0, hc0⟩ := open_rules (hval 0 24 v0 rfl rfl) h0
  have k1 := h1
  have lt1 : ∀ x ∈ p1, x.block < W.heap.size := by obtain ⟨m, hm⟩ := k1; exact DataW.trod_lt m _ _ _ hm
  obtain ⟨a1, n1, c1, rfl⟩ := okWide_slice Tryz.underlying22 (hval 1 22 v1 rfl rfl)
  obtain ⟨m1, hm1⟩ := h1
  obtain ⟨a1, n1, c1, g1, o1, l1, e1, sk1, hc1⟩ := row_of_strs hm1
  cases e1
  have k2 := h2
  have lt2 : ∀ x ∈ p2, x.block < W.heap.size := by obtain ⟨m, hm⟩ := k2; exact DataW.trod_lt m _ _ _ hm
  obtain ⟨a2, rfl, rfl, rfl, w2⟩ := open_int Tryz.underlying69 (hval 2 69 v2 rfl rfl) h2
  clear hA0 hval0
  refine (NameBridge_walk a0 g0 o0 c0 n0 R0 W sk0 hc0 a1 g1 o1 c1 n1 l1 sk1 hc1 a2 w2).mono fun e W' ⟨he, bel⟩ => ?_
  subst he
  exact ⟨_, rfl, _, _, _, [], _, [], hW', trodAll_mk1 (shut_bool Tryz.underlying4 _), (trodAll_cons_mk (Below.trod laidOut (by kernel_rfl) (of_decide_eq_true (by kernel_rfl)) k0 bel lt0) (trodAll_cons_mk (Below.trod laidOut (by kernel_rfl) (of_decide_eq_true (by kernel_rfl)) k1 bel lt1) (trodAll_cons_mk (Below.trod laidOut (by kernel_rfl) (of_decide_eq_true (by kernel_rfl)) k2 bel lt2) trodAll_mk0))), rfl, bel.frame _, fun h => by cases h⟩

theorem over : Rows.nameBridgeRow.holds Tryz.pinned (OpenSpec.ofChange Rows.nameBridgeSpec) :=
  OpenClaim.holds_of_wide 14 Tryz.f14 rfl rfl rfl rfl rfl rfl rfl ⟨rfl, rfl, rfl, rfl, rfl⟩ rfl rfl rfl rfl rfl (by kernel_rfl) Tryz.func14 (by kernel_rfl)
    (of_decide_eq_true (by kernel_rfl)) (by unfold Func.isWrapper; first | (rw [if_pos (by decide +kernel)]; kernel_rfl) | (rw [if_neg (by decide +kernel)]; exact ⟨rfl, rfl⟩))
    (fun os started H enc _ => lifted os started H enc)
end Go.Proofs.YtkdflgaahhnigaaGreat.nameBridge
namespace Go.Proofs.YtkdflgaahhnigaaGreat
/-- THE STATEMENT -/
theorem nameBridge_holds : Rows.NameBridgeSaid := nameBridge.over
#print axioms nameBridge_holds
end Go.Proofs.YtkdflgaahhnigaaGreat
