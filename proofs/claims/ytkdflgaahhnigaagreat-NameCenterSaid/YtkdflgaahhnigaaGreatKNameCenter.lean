/- NameCenter: the walk. NameCenter: for every input the statement returns true, and each argument reads behind the call as it read before. No condition. -/
import Derived.Test.YtkdflgaahhnigaaGreatC15
import Derived.ProofKit
import Derived.OpenShut
import Derived.ShutString
import Derived.ChangeOld
import Derived.Below
import Derived.Lib.SmallJoins
import Derived.Deep.Slices
set_option linter.unusedVariables false
set_option linter.unusedSimpArgs false
namespace Go.Proofs.YtkdflgaahhnigaaGreat
open Go.RowKit Go.Shelf

set_option maxRecDepth 100000 in
set_option maxHeartbeats 4000000 in
theorem NameCenter_walk (a : Option Addr) (g o c n : Nat) (R : RB) (w : World) (hk : SKn w a g o c n R.cls) (hc : n ≤ c) (an : Option Addr) (gn on cn m : Nat) (ys : List ByteArray) (hkn : SKn w an gn on cn m ys) (hcm : m ≤ cn) (k : Int) (hk8 : (Lit.int .u8 k).wf = true) : Calls Tryz.prog 11 #[rulesV a n c R.soft R.al R.ot R.sk R.ss R.db, .slice an m cn, .int .u8 k] w fun e w' => e = .returned (.bool true) ∧ Below w.heap.size w w' := by
  have C36 := Lib.hid (fun W (hW : Below w.heap.size w W) => ready36 a g o c n R W hk.1 (hk.2.1.below hW) an gn on cn m ys hkn.1 (hkn.2.1.below hW))
  by_cases hm0 : m = 0
  · have t0 : ((m : Int) == 0) = true := by rw [beq_iff_eq]; omega
    clear hm0
    have s0 := ((KS.start w).new (rulesC a n c R.soft R.al R.ot R.sk R.ss R.db) 24)
    obtain ⟨kb0_0, kb0_1, kb0_2, kb0_3, kb0_4, kb0_5, kb0_6⟩ := (s0.blkAt 0 rfl).c7
    have S0 := Lib.hid s0
    clear s0 hk hc hkn hcm
    go_enter Tryz.func11, Tryz.ntmps11
    go_wp2_with (go_at_call 18; (refine (awake_any _).mono ?_); rintro e wA ⟨rfl, hbA⟩; have SA := Lib.hid (S0.out.bel.trans (hbA.mono S0.out.bel.size)); clear hbA)
    go_ret
    exact ⟨rfl, SA.out⟩
  have t0 : ((m : Int) == 0) = false := by rw [beq_eq_false_iff_ne]; omega
  by_cases hm12 : 12 < m
  · have t1 : (12 : Int) < (m : Int) := by omega
    clear hm12
    have s0 := ((KS.start w).new (rulesC a n c R.soft R.al R.ot R.sk R.ss R.db) 24)
    obtain ⟨kb0_0, kb0_1, kb0_2, kb0_3, kb0_4, kb0_5, kb0_6⟩ := (s0.blkAt 0 rfl).c7
    have S0 := Lib.hid s0
    clear s0 hk hc hkn hcm
    go_enter Tryz.func11, Tryz.ntmps11
    go_wp2_with (go_at_call 18; (refine (awake_any _).mono ?_); rintro e wA ⟨rfl, hbA⟩; have SA := Lib.hid (S0.out.bel.trans (hbA.mono S0.out.bel.size)); clear hbA)
    go_ret
    exact ⟨rfl, SA.out⟩
  have t1 : ¬ (12 : Int) < (m : Int) := by omega
  cases hr : readyB R ys with
  | false =>
    rw [hr] at C36
    clear hm12 hm0
    have s0 := ((KS.start w).new (rulesC a n c R.soft R.al R.ot R.sk R.ss R.db) 24)
    obtain ⟨kb0_0, kb0_1, kb0_2, kb0_3, kb0_4, kb0_5, kb0_6⟩ := (s0.blkAt 0 rfl).c7
    have S0 := Lib.hid s0
    clear s0 hr hk hc hkn hcm
    go_enter Tryz.func11, Tryz.ntmps11
    go_wp2_with fail
    refine (C36.out _ S0.out.bel).mono ?_
    rintro e w1 ⟨rfl, hb⟩
    have S1 := Lib.hid (S0.out.below hb)
    clear hb
    go_wp2_with (go_at_call 18; (refine (awake_any _).mono ?_); rintro e wA ⟨rfl, hbA⟩; have SA := Lib.hid (S1.out.bel.trans (hbA.mono S1.out.bel.size)); clear hbA)
    go_ret
    exact ⟨rfl, SA.out⟩
  | true =>
    obtain ⟨ht, hn15, hv, _, hl⟩ := ready_parts hr
    rw [hr] at C36
    have hnn := hk.1
    have hmm := hkn.1
    have C20 := Lib.hid (fun W (hW : Below w.heap.size w W) => Rules20 a g o c n R W (hk.below hW) (by omega))
    have C28 := Lib.hid (fun W (hW : Below w.heap.size w W) => list28' an gn on cn m ys W (hkn.below hW) (by omega))
    have HT := Lib.hid ht
    have HN := Lib.hid hk.1
    have HV := Lib.hid hv
    have hlst : lstN R ys [] = 0 := by unfold lstN; rw [if_neg (by omega), List.append_nil]; exact hv
    have HLS := Lib.hid hlst
    have hl1000 : ∀ y, y ∈ ys → y.size ≤ 1000 := fun y hy => by have := hl y hy; omega
    have HLL := Lib.hid hl1000
    have hm900 : m ≤ 900 := by omega
    have hgood := (chkN_ok hv).1
    have hnms : NmsOk ys := (chkN_ok hv).2
    have s0 := ((KS.start w).new (rulesC a n c R.soft R.al R.ot R.sk R.ss R.db) 24)
    obtain ⟨kb0_0, kb0_1, kb0_2, kb0_3, kb0_4, kb0_5, kb0_6⟩ := (s0.blkAt 0 rfl).c7
    have S0 := Lib.hid s0
    have hne : ys ≠ [] := by rintro rfl; simp at hmm; omega
    have hsm : someN R ys = 0 := by unfold someN; rw [hlst, if_pos rfl, if_neg (by omega)]
    obtain ⟨kn, rfl, hk65⟩ : ∃ kn : Nat, k = (kn : Int) ∧ kn < 256 := by
      have h2 : IntKind.u8.min ≤ k ∧ k ≤ IntKind.u8.max := by simpa [Lit.wf] using hk8
      have h3 : IntKind.u8.min = 0 := rfl
      have h4 : IntKind.u8.max = 255 := rfl
      exact ⟨k.toNat, by omega, by omega⟩
    have e1 := hkn.2.1.1 hne
    subst e1
    have hmp : 0 < m := by omega
    obtain ⟨q, hq⟩ : ∃ q, q = kn % m := ⟨_, rfl⟩
    have hqm : q < m := by rw [hq]; exact Nat.mod_lt kn hmp
    have ekn : IntKind.i64.wrap (kn : Int) = (kn : Int) := IntWalk.i64_in _ (by omega)
    have erem : (kn : Int).tmod (m : Int) = (q : Int) := by rw [hq]; exact (Int.ofNat_tmod kn m).symm
    have erem2 : (kn : Int) % (m : Int) = (q : Int) := by rw [hq]; exact (Int.natCast_emod kn m).symm
    have hmz : ¬ (m : Int) = 0 := by omega
    have hcq : ¬ cn = q := by omega
    have b0 : (0 : Int) ≤ (q : Int) := by omega
    have b1 : (q : Int) ≤ (m : Int) := by omega
    have b2 : (q : Int) ≤ (cn : Int) := by omega
    have b3 : (m : Int) ≤ (cn : Int) := by omega
    have hperm := perm_rot ys q
    have hlr : (ys.drop q ++ ys.take q).length = m := by rw [List.length_append, List.length_drop, List.length_take, hmm]; omega
    have hv2 : chkN R (ys.drop q ++ ys.take q) = 0 := chkN_sub hv (fun z hz => hperm.mem_iff.2 hz)
    have hsm2 : someN R (ys.drop q ++ ys.take q) = 0 := by
      have h1 : lstN R (ys.drop q ++ ys.take q) [] = 0 := by unfold lstN; rw [if_neg (by omega), List.append_nil]; exact hv2
      unfold someN; rw [h1, if_pos rfl, if_neg (by omega)]
    have hll2 : ∀ y, y ∈ ys.drop q ++ ys.take q → y.size ≤ 1000 := fun y hy => hl1000 y (hperm.mem_iff.2 hy)
    have htp := tot_perm (R := R) hperm hne
    have hct := ctN_lt (R := R) hne
    have HSM := Lib.hid hsm
    have HSM2 := Lib.hid hsm2
    have HLL2 := Lib.hid hll2
    have HLR := Lib.hid hlr
    have HTP := Lib.hid htp
    have HKN := Lib.hid hkn
    have HMM := Lib.hid hmm
    have HGD := Lib.hid hgood
    have HNM := Lib.hid hnms
    have HLE := Lib.hid (fun (x : ByteArray) (hx : x ∈ ys) => ctN_le (R := R) hx)
    have HIS := Lib.hid (fun (i : Nat) (x : ByteArray) (hx : ys[i]? = some x) => totN_get (R := R) hx)
    have HTC := Lib.hid (fun (x : ByteArray) (hx : ys[ctN R ys]? = some x) => totN_get (R := R) hx)
    have HCT := Lib.hid hct
    have HI9 := Lib.hid (info_parts tInfo9)
    have C29 := Lib.hid (fun W (hW : Below w.heap.size w W) => list28 (some ⟨gn, on + q, none⟩) gn (on + q) (cn - q) (m - q) (ys.drop q) W (SKn.drop (hkn.below hW)) (by omega))
    have HTK := Lib.hid (fun W (hW : Below w.heap.size w W) => (SKn.take (k := q) (by omega) (hkn.below hW)).reads)
    have hct2 : ctN R ys < m := by omega
    have u1 : ¬ ((ctN R ys : Nat) : Int) < 0 := by omega
    have u2 : ¬ (m : Int) ≤ ((ctN R ys : Nat) : Int) := by omega
    have u3 : ¬ m ≤ ctN R ys := by omega
    have hce : ((cn : Int) - (q : Int)) = ((cn - q : Nat) : Int) := by omega
    have hme : ((m : Int) - (q : Int)) = ((m - q : Nat) : Int) := by omega
    clear hsm hsm2 hll2 hlr htp hperm hv2 hne hk8 hm0 hct hq
    clear s0 hr ht hn15 hv hl hnn hmm hk hc hkn hcm hl1000 hlst hgood hnms hm12
    go_enter Tryz.func11, Tryz.ntmps11
    go_wp2_with fail
    refine (C36.out _ S0.out.bel).mono ?_
    rintro e w1 ⟨rfl, hb⟩
    clear kb0_0 kb0_1 kb0_2 kb0_3 kb0_4 kb0_5 kb0_6
    have s1 := S0.out.below hb
    obtain ⟨kb0_0, kb0_1, kb0_2, kb0_3, kb0_4, kb0_5, kb0_6⟩ := (s1.blkAt 0 rfl).c7
    have S1 := Lib.hid s1
    clear hb s1
    go_wp2_with fail
    refine (C20.out _ S1.out.bel).mono ?_
    rintro e w2 ⟨a2, g2, c2, rfl, hsk, hle2, hb⟩
    have HK2 := Lib.hid hsk
    clear hsk
    clear kb0_0 kb0_1 kb0_2 kb0_3 kb0_4 kb0_5 kb0_6
    have s2 := S1.out.below hb
    obtain ⟨kb0_0, kb0_1, kb0_2, kb0_3, kb0_4, kb0_5, kb0_6⟩ := (s2.blkAt 0 rfl).c7
    have S2 := Lib.hid s2
    clear hb s2
    go_wp2_with fail
    refine (C28.out _ S2.out.bel).mono ?_
    rintro e w3 ⟨b3, d3, e3, rfl, hsl, hll3, hb⟩
    have HL3 := Lib.hid hsl
    clear hsl
    have HR3 := Lib.hid (HK2.out.below hb)
    clear kb0_0 kb0_1 kb0_2 kb0_3 kb0_4 kb0_5 kb0_6
    have s3 := S2.out.below hb
    obtain ⟨kb0_0, kb0_1, kb0_2, kb0_3, kb0_4, kb0_5, kb0_6⟩ := (s3.blkAt 0 rfl).c7
    have S3 := Lib.hid s3
    clear hb s3
    go_wp2_with fail
    refine (Center_good a2 g2 0 c2 n R _ HN.out HR3.out hle2 HT.out b3 d3 0 e3 m ys HL3.out hll3 hm900 HLL.out HSM.out).mono ?_
    rintro e w4 ⟨rfl, hb⟩
    clear kb0_0 kb0_1 kb0_2 kb0_3 kb0_4 kb0_5 kb0_6
    have s4 := S3.out.below hb
    obtain ⟨kb0_0, kb0_1, kb0_2, kb0_3, kb0_4, kb0_5, kb0_6⟩ := (s4.blkAt 0 rfl).c7
    have S4 := Lib.hid s4
    clear hb s4
    generalize totN R ys (ctN R ys) = tt at *
    generalize ctN R ys = cc at *
    obtain ⟨i0, hi, hz0, hz1, hz2⟩ := HI9.out
    go_wp2_with fail
    obtain ⟨BS, hBS⟩ : ∃ BS : List (Nat × Array Value × TypeId), BS = [(w.heap.size, rulesC a n c R.soft R.al R.ot R.sk R.ss R.db, 24)] := ⟨_, rfl⟩
    have hS : KS w BS w4.drew := by rw [hBS]; exact S4.out.drew
    have K0 : ∀ W, KS w BS W → W.cell? ⟨w.heap.size, 0, none⟩ = some (.slice a n c) := fun W h => by rw [hBS] at h; exact (h.blkAt 0 rfl).cell 0
    have K1 : ∀ W, KS w BS W → W.cell? ⟨w.heap.size, 1, none⟩ = some (.string R.soft) := fun W h => by rw [hBS] at h; exact (h.blkAt 0 rfl).cell 1
    have K2 : ∀ W, KS w BS W → W.cell? ⟨w.heap.size, 2, none⟩ = some (.int .i64 R.al) := fun W h => by rw [hBS] at h; exact (h.blkAt 0 rfl).cell 2
    have K3 : ∀ W, KS w BS W → W.cell? ⟨w.heap.size, 3, none⟩ = some (.int .i64 R.ot) := fun W h => by rw [hBS] at h; exact (h.blkAt 0 rfl).cell 3
    have K4 : ∀ W, KS w BS W → W.cell? ⟨w.heap.size, 4, none⟩ = some (.int .i64 R.sk) := fun W h => by rw [hBS] at h; exact (h.blkAt 0 rfl).cell 4
    have K5 : ∀ W, KS w BS W → W.cell? ⟨w.heap.size, 5, none⟩ = some (.int .i64 R.ss) := fun W h => by rw [hBS] at h; exact (h.blkAt 0 rfl).cell 5
    have K6 : ∀ W, KS w BS W → W.cell? ⟨w.heap.size, 6, none⟩ = some (.int .i64 R.db) := fun W h => by rw [hBS] at h; exact (h.blkAt 0 rfl).cell 6
    have HBS := Lib.hid hBS
    clear hBS
    clear kb0_0 kb0_1 kb0_2 kb0_3 kb0_4 kb0_5 kb0_6
    refine wp_region_held_drew (S := KS w BS) (by kernel_rfl) hS (fun hHeld => ?_)
    clear hS
    refine wpAnyH_take (i := 0) (v := ?_) rfl (by kernel_rfl) (by kernel_rfl) (by kernel_rfl) (fun _ _ _ h => h) (Or.inl ⟨by rfl, ?h0⟩) hHeld ?_
    case h0 =>
      intro w' hSw
      (try dsimp only at hSw)
      go_simp
      (try with_reducible rfl)
    (try simp only [Act.put]); (try simp only [List.setIfInBounds_toArray]); (try simp only [List.set_cons_succ]); (try simp only [List.set_cons_zero])
    refine wpAnyH_take (i := 2) (v := ?_) rfl (by kernel_rfl) (by kernel_rfl) (by kernel_rfl) (fun _ _ _ h => h) (Or.inl ⟨by rfl, ?h2⟩) hHeld ?_
    case h2 =>
      intro w' hSw
      (try dsimp only at hSw)
      go_simp
      (try with_reducible rfl)
    (try simp only [Act.put]); (try simp only [List.setIfInBounds_toArray]); (try simp only [List.set_cons_succ]); (try simp only [List.set_cons_zero])
    refine wpAnyH_take (i := 3) (v := ?_) rfl (by kernel_rfl) (by kernel_rfl) (by kernel_rfl) (fun _ _ _ h => h) (Or.inl ⟨by rfl, ?h3⟩) hHeld ?_
    case h3 =>
      intro w' hSw
      (try dsimp only at hSw)
      go_simp
      (try with_reducible rfl)
    (try simp only [Act.put]); (try simp only [List.setIfInBounds_toArray]); (try simp only [List.set_cons_succ]); (try simp only [List.set_cons_zero])
    refine wpAnyH_take (i := 4) (v := ?_) rfl (by kernel_rfl) (by kernel_rfl) (by kernel_rfl) (fun _ _ _ h => h) (Or.inl ⟨by rfl, ?h4⟩) hHeld ?_
    case h4 =>
      intro w' hSw
      (try dsimp only at hSw)
      go_simp
      (try with_reducible rfl)
    (try simp only [Act.put]); (try simp only [List.setIfInBounds_toArray]); (try simp only [List.set_cons_succ]); (try simp only [List.set_cons_zero])
    refine wpAnyH_take (i := 6) (v := ?_) rfl (by kernel_rfl) (by kernel_rfl) (by kernel_rfl) (fun _ _ _ h => h) (Or.inl ⟨by rfl, ?h6⟩) hHeld ?_
    case h6 =>
      intro w' hSw
      (try dsimp only at hSw)
      go_simp
      (try with_reducible rfl)
    (try simp only [Act.put]); (try simp only [List.setIfInBounds_toArray]); (try simp only [List.set_cons_succ]); (try simp only [List.set_cons_zero])
    refine wpAnyH_take (i := 7) (v := ?_) rfl (by kernel_rfl) (by kernel_rfl) (by kernel_rfl) (fun _ _ _ h => h) (Or.inl ⟨by rfl, ?h7⟩) hHeld ?_
    case h7 =>
      intro w' hSw
      (try dsimp only at hSw)
      go_simp
      (try with_reducible rfl)
    (try simp only [Act.put]); (try simp only [List.setIfInBounds_toArray]); (try simp only [List.set_cons_succ]); (try simp only [List.set_cons_zero])
    refine wpAnyH_take (i := 8) (v := ?_) rfl (by kernel_rfl) (by kernel_rfl) (by kernel_rfl) (fun _ _ _ h => h) (Or.inl ⟨by rfl, ?h8⟩) hHeld ?_
    case h8 =>
      intro w' hSw
      (try dsimp only at hSw)
      go_simp
      (try with_reducible rfl)
    (try simp only [Act.put]); (try simp only [List.setIfInBounds_toArray]); (try simp only [List.set_cons_succ]); (try simp only [List.set_cons_zero])
    refine wpAnyH_ready (rs := [1]) (by kernel_rfl) (by simp) ?_
    refine AllReadyH.cons rfl (fun K hK => ?_) (AllReadyH.nil)
    go_simp
    (refine (C20.out _ hHeld.bel).mono ?_)
    rintro e w20 ⟨a20, g20, c20, rfl, hsk, hle20, hb⟩
    have HK20 := Lib.hid hsk
    have hS2 := hHeld.below hb
    clear hsk hb
    refine hK.out _ _ hS2 (fun hHeld => ?_)
    clear hK K hS2
    (try simp only [Act.put]); (try simp only [List.setIfInBounds_toArray]); (try simp only [List.set_cons_succ]); (try simp only [List.set_cons_zero])
    refine wpAnyH_ready (rs := [5]) (by kernel_rfl) (by simp) ?_
    refine AllReadyH.cons rfl (fun K hK => ?_) (AllReadyH.nil)
    go_simp
    (refine (C29.out _ hHeld.bel).mono ?_)
    rintro e w21 ⟨v, rfl, hv, hb⟩
    have HV1 := Lib.hid hv
    have hbase := hb.size
    have HR21 := Lib.hid (HK20.out.below hb)
    have HLT := Lib.hid HK20.out.2.2
    have hS2 := hHeld.below hb
    have hsz20 := hHeld.size
    have hw20 := HBS.out
    have hlt0 : w.heap.size < w20.heap.size := by have h := hHeld; rw [HBS.out] at h; exact h.lt 0 rfl
    clear hv hb hw20
    refine hK.out _ _ hS2 (fun hHeld => ?_)
    clear hK K hS2
    (try simp only [Act.put]); (try simp only [List.setIfInBounds_toArray]); (try simp only [List.set_cons_succ]); (try simp only [List.set_cons_zero])
    refine wpAnyH_ready (rs := [9]) (by kernel_rfl) (by simp) ?_
    refine AllReadyH.cons rfl (fun K hK => ?_) (AllReadyH.nil)
    refine step_append_own rfl _ _ 22 rfl w20.heap.size 9 i0 _ 1 16 Tryz.underlying22 hi hz0 hz1 hz2 rfl (by decide) v (m - q) _ rfl HV1.out ⟨gn, on, none⟩ q cn (strsV (ys.take q)) rfl (by rw [strsV, List.length_map, List.length_take, HMM.out]; omega) (HTK.out _ hHeld.bel) (by intro u hu; unfold strsV at hu; obtain ⟨y, _, rfl⟩ := List.mem_map.1 hu; rfl) (by unfold maxLen; omega) (by omega) hbase ?_
    intro v' w22 hown hgr _
    obtain ⟨b22, d22, e22, rfl, hsl, hll22⟩ := skn_of_row (l := ys.drop q ++ ys.take q) (by have h := hown; rw [show strsV (ys.drop q) ++ strsV (ys.take q) = strsV (ys.drop q ++ ys.take q) by simp [strsV]] at h; exact h)
    have HL22 := Lib.hid hsl
    have HR22 := Lib.hid (HR21.out.grownRow hgr (fun r e hne => by have h1 := (HV1.out.lt r e).1; have h2 := HLT.out hne; omega))
    have hS3 : KS w BS w22 := by rw [HBS.out]; have h := hHeld; rw [HBS.out] at h; exact KS1_rowg h hgr hlt0 (fun r e => (HV1.out.lt r e).1)
    have emq : m - q + q = m := by omega
    rw [emq] at HL22 hll22 ⊢
    clear hown hgr hsl emq
    refine hK.out _ _ hS3 (fun hHeld => ?_)
    clear hK K hS3
    (try simp only [Act.put]); (try simp only [List.setIfInBounds_toArray]); (try simp only [List.set_cons_succ]); (try simp only [List.set_cons_zero])
    refine wpAnyH_ready (rs := [10]) (by kernel_rfl) (by simp) ?_
    refine AllReadyH.cons rfl (fun K hK => ?_) (AllReadyH.nil)
    go_simp
    (refine (Center_good a20 g20 0 c20 n R _ HN.out HR22.out hle20 HT.out b22 d22 0 e22 m (ys.drop q ++ ys.take q) HL22.out hll22 hm900 HLL2.out HSM2.out).mono ?_)
    rintro e w23 ⟨rfl, hb⟩
    rw [← HTP.out]
    generalize ctN R (ys.drop q ++ ys.take q) = c2 at *
    have hS2 := hHeld.below hb
    clear hb
    refine hK.out _ _ hS2 (fun hHeld => ?_)
    clear hK K hS2
    (try simp only [Act.put]); (try simp only [List.setIfInBounds_toArray]); (try simp only [List.set_cons_succ]); (try simp only [List.set_cons_zero])
    refine wpAnyH_take (i := 11) (v := ?_) rfl (by kernel_rfl) (by kernel_rfl) (by kernel_rfl) (fun _ _ _ h => h) (Or.inl ⟨by rfl, ?h11⟩) hHeld ?_
    case h11 =>
      intro w' hSw
      (try dsimp only at hSw)
      go_simp
      (try with_reducible rfl)
    (try simp only [Act.put]); (try simp only [List.setIfInBounds_toArray]); (try simp only [List.set_cons_succ]); (try simp only [List.set_cons_zero])
    refine wpAnyH_take (i := 12) (v := ?_) rfl (by kernel_rfl) (by kernel_rfl) (by kernel_rfl) (fun _ _ _ h => h) (Or.inl ⟨by rfl, ?h12⟩) hHeld ?_
    case h12 =>
      intro w' hSw
      (try dsimp only at hSw)
      go_simp
      (try with_reducible rfl)
    (try simp only [Act.put]); (try simp only [List.setIfInBounds_toArray]); (try simp only [List.set_cons_succ]); (try simp only [List.set_cons_zero])
    refine wpAnyH_take (i := 13) (v := ?_) rfl (by kernel_rfl) (by kernel_rfl) (by kernel_rfl) (fun _ _ _ h => h) (Or.inl ⟨by rfl, ?h13⟩) hHeld ?_
    case h13 =>
      intro w' hSw
      (try dsimp only at hSw)
      go_simp
      (try with_reducible rfl)
    (try simp only [Act.put]); (try simp only [List.setIfInBounds_toArray]); (try simp only [List.set_cons_succ]); (try simp only [List.set_cons_zero])
    refine wpAnyH_take (i := 14) (v := ?_) rfl (by kernel_rfl) (by kernel_rfl) (by kernel_rfl) (fun _ _ _ h => h) (Or.inl ⟨by rfl, ?h14⟩) hHeld ?_
    case h14 =>
      intro w' hSw
      (try dsimp only at hSw)
      go_simp
      (try with_reducible rfl)
    (try simp only [Act.put]); (try simp only [List.setIfInBounds_toArray]); (try simp only [List.set_cons_succ]); (try simp only [List.set_cons_zero])
    refine wpAnyH_take (i := 15) (v := ?_) rfl (by kernel_rfl) (by kernel_rfl) (by kernel_rfl) (fun _ _ _ h => h) (Or.inl ⟨by rfl, ?h15⟩) hHeld ?_
    case h15 =>
      intro w' hSw
      (try dsimp only at hSw)
      go_simp
      (try with_reducible rfl)
    (try simp only [Act.put]); (try simp only [List.setIfInBounds_toArray]); (try simp only [List.set_cons_succ]); (try simp only [List.set_cons_zero])
    refine wpAnyH_take (i := 16) (v := ?_) rfl (by kernel_rfl) (by kernel_rfl) (by kernel_rfl) (fun _ _ _ h => h) (Or.inl ⟨by rfl, ?h16⟩) hHeld ?_
    case h16 =>
      intro w' hSw
      (try dsimp only at hSw)
      go_simp
      (try with_reducible rfl)
    (try simp only [Act.put]); (try simp only [List.setIfInBounds_toArray]); (try simp only [List.set_cons_succ]); (try simp only [List.set_cons_zero])
    refine wpAnyH_ready (rs := [17]) (by kernel_rfl) (by simp) ?_
    refine AllReadyH.cons rfl (fun K hK => ?_) (AllReadyH.nil)
    go_simp
    refine hK.out _ _ hHeld (fun hHeld => ?_)
    clear hK K
    (try simp only [Act.put]); (try simp only [List.setIfInBounds_toArray]); (try simp only [List.set_cons_succ]); (try simp only [List.set_cons_zero])
    refine wpAnyH_done (by kernel_rfl) ?_ _
    have hs9 := hHeld
    rw [HBS.out] at hs9
    have S9 := Lib.hid hs9
    clear hHeld hs9 K0 K1 K2 K3 K4 K5 K6 HBS HL22 HR22 HR21 HLT HV1
    have ctl : cc < ys.length := by have := HMM.out; omega
    go_wp2_with fail
    go_loopw [14] (fun y wr => ∃ i : Nat, i ≤ m ∧ y = .int .i64 (i : Int) ∧ Hid (KS w [(w.heap.size, rulesC a n c R.soft R.al R.ot R.sk R.ss R.db, 24)] wr)) (fun y _ => m - (intOf y).toNat)
    case atStart => exact ⟨0, Nat.zero_le _, rfl, S9.out⟩
    case round =>
      clear S9
      obtain ⟨i, hi, rfl, H⟩ := hrel
      by_cases him : i < m
      · obtain ⟨x, hx⟩ : ∃ x, ys[i]? = some x := ⟨ys[i]'(by rw [HMM.out]; exact him), by simp⟩
        have hxm := List.mem_of_getElem? hx
        have HX := Lib.hid hx
        have hx12 := (HNM.out x hxm)
        have HX12 := Lib.hid hx12
        have HPL := Lib.hid (psum_le HGD.out hx12.1 HNM.out)
        have HT1 := Lib.hid (HLE.out x hxm)
        have HT2 := Lib.hid (HIS.out i x hx)
        have hx1000 : x.size ≤ 1000 := by have := hx12.1; omega
        have pi0 : (0 : Int) ≤ (i : Int) := by omega
        have pi1 : (i : Int) < (m : Int) := by omega
        have hwr : ∃ wo, wo = wr := ⟨_, rfl⟩
        obtain ⟨wo, hwo⟩ := hwr
        subst hwo
        clear hx hxm hx12
        go_wp2_with fail
        go_loopw [15, 16] (fun y1 y2 wr => ∃ j : Nat, j ≤ m ∧ y2 = .int .i64 (j : Int) ∧ y1 = .int .i64 (psum R x ys j : Nat) ∧ Hid (KS w [(w.heap.size, rulesC a n c R.soft R.al R.ot R.sk R.ss R.db, 24)] wr)) (fun _ y2 _ => m - (intOf y2).toNat)
        case atStart => exact ⟨0, Nat.zero_le _, rfl, rfl, H.out⟩
        case round =>
          clear H
          obtain ⟨j, hj, rfl, rfl, H⟩ := hrel
          have hpl := HPL.out j
          by_cases hjm : j < m
          · obtain ⟨y, hy⟩ : ∃ y, ys[j]? = some y := ⟨ys[j]'(by rw [HMM.out]; exact hjm), by simp⟩
            have hym := List.mem_of_getElem? hy
            have HY := Lib.hid hy
            have hy12 := (HNM.out y hym)
            have hy1000 : y.size ≤ 1000 := by have := hy12.1; omega
            have hcv : chkN R [x, y] = 0 := chkN_intro HGD.out (fun z hz => by simp at hz; rcases hz with rfl | rfl; exact HX12.out; exact hy12)
            have HCV := Lib.hid hcv
            have hcl := cR_le HGD.out HX12.out.1 hy12.1 0 0
            have HPS := Lib.hid (psum_succ (R := R) (x := x) hy)
            have pj0 : (0 : Int) ≤ (j : Int) := by omega
            have pj1 : (j : Int) < (m : Int) := by omega
            clear hy hym hy12 hcv
            go_wp2_with fail
            obtain ⟨BS, hBS⟩ : ∃ BS : List (Nat × Array Value × TypeId), BS = [(w.heap.size, rulesC a n c R.soft R.al R.ot R.sk R.ss R.db, 24)] := ⟨_, rfl⟩
            have hS : KS w BS wr.drew := by rw [hBS]; exact H.out.drew
            have K0 : ∀ W, KS w BS W → W.cell? ⟨w.heap.size, 0, none⟩ = some (.slice a n c) := fun W h => by rw [hBS] at h; exact (h.blkAt 0 rfl).cell 0
            have K1 : ∀ W, KS w BS W → W.cell? ⟨w.heap.size, 1, none⟩ = some (.string R.soft) := fun W h => by rw [hBS] at h; exact (h.blkAt 0 rfl).cell 1
            have K2 : ∀ W, KS w BS W → W.cell? ⟨w.heap.size, 2, none⟩ = some (.int .i64 R.al) := fun W h => by rw [hBS] at h; exact (h.blkAt 0 rfl).cell 2
            have K3 : ∀ W, KS w BS W → W.cell? ⟨w.heap.size, 3, none⟩ = some (.int .i64 R.ot) := fun W h => by rw [hBS] at h; exact (h.blkAt 0 rfl).cell 3
            have K4 : ∀ W, KS w BS W → W.cell? ⟨w.heap.size, 4, none⟩ = some (.int .i64 R.sk) := fun W h => by rw [hBS] at h; exact (h.blkAt 0 rfl).cell 4
            have K5 : ∀ W, KS w BS W → W.cell? ⟨w.heap.size, 5, none⟩ = some (.int .i64 R.ss) := fun W h => by rw [hBS] at h; exact (h.blkAt 0 rfl).cell 5
            have K6 : ∀ W, KS w BS W → W.cell? ⟨w.heap.size, 6, none⟩ = some (.int .i64 R.db) := fun W h => by rw [hBS] at h; exact (h.blkAt 0 rfl).cell 6
            have HBS := Lib.hid hBS
            clear hBS
            have L0 : ∀ W, KS w BS W → W.cell? ⟨gn, on + i, none⟩ = some (.string x) := fun W h => (HKN.out.below h.bel).2.1.2.1 i x HX.out
            have L1 : ∀ W, KS w BS W → W.cell? ⟨gn, on + j, none⟩ = some (.string y) := fun W h => (HKN.out.below h.bel).2.1.2.1 j y HY.out
            refine wp_region_held_drew (S := KS w BS) (by kernel_rfl) hS (fun hHeld => ?_)
            clear hS
            refine wpAnyH_take (i := 0) (v := ?_) rfl (by kernel_rfl) (by kernel_rfl) (by kernel_rfl) (fun _ _ _ h => h) (Or.inl ⟨by rfl, ?h0⟩) hHeld ?_
            case h0 =>
              intro w' hSw
              (try dsimp only at hSw)
              go_simp
              (try with_reducible rfl)
            (try simp only [Act.put]); (try simp only [List.setIfInBounds_toArray]); (try simp only [List.set_cons_succ]); (try simp only [List.set_cons_zero])
            refine wpAnyH_take (i := 2) (v := ?_) rfl (by kernel_rfl) (by kernel_rfl) (by kernel_rfl) (fun _ _ _ h => h) (Or.inl ⟨by rfl, ?h2⟩) hHeld ?_
            case h2 =>
              intro w' hSw
              (try dsimp only at hSw)
              go_simp
              (try with_reducible rfl)
            (try simp only [Act.put]); (try simp only [List.setIfInBounds_toArray]); (try simp only [List.set_cons_succ]); (try simp only [List.set_cons_zero])
            refine wpAnyH_take (i := 3) (v := ?_) rfl (by kernel_rfl) (by kernel_rfl) (by kernel_rfl) (fun _ _ _ h => h) (Or.inl ⟨by rfl, ?h3⟩) hHeld ?_
            case h3 =>
              intro w' hSw
              (try dsimp only at hSw)
              go_simp
              (try with_reducible rfl)
            (try simp only [Act.put]); (try simp only [List.setIfInBounds_toArray]); (try simp only [List.set_cons_succ]); (try simp only [List.set_cons_zero])
            refine wpAnyH_take (i := 4) (v := ?_) rfl (by kernel_rfl) (by kernel_rfl) (by kernel_rfl) (fun _ _ _ h => h) (Or.inl ⟨by rfl, ?h4⟩) hHeld ?_
            case h4 =>
              intro w' hSw
              (try dsimp only at hSw)
              go_simp
              (try with_reducible rfl)
            (try simp only [Act.put]); (try simp only [List.setIfInBounds_toArray]); (try simp only [List.set_cons_succ]); (try simp only [List.set_cons_zero])
            refine wpAnyH_take (i := 5) (v := ?_) rfl (by kernel_rfl) (by kernel_rfl) (by kernel_rfl) (fun _ _ _ h => h) (Or.inl ⟨by rfl, ?h5⟩) hHeld ?_
            case h5 =>
              intro w' hSw
              (try dsimp only at hSw)
              go_simp
              (try with_reducible rfl)
            (try simp only [Act.put]); (try simp only [List.setIfInBounds_toArray]); (try simp only [List.set_cons_succ]); (try simp only [List.set_cons_zero])
            refine wpAnyH_take (i := 6) (v := ?_) rfl (by kernel_rfl) (by kernel_rfl) (by kernel_rfl) (fun _ _ _ h => h) (Or.inl ⟨by rfl, ?h6⟩) hHeld ?_
            case h6 =>
              intro w' hSw
              (try dsimp only at hSw)
              go_simp
              (try with_reducible rfl)
            (try simp only [Act.put]); (try simp only [List.setIfInBounds_toArray]); (try simp only [List.set_cons_succ]); (try simp only [List.set_cons_zero])
            refine wpAnyH_take (i := 7) (v := ?_) rfl (by kernel_rfl) (by kernel_rfl) (by kernel_rfl) (fun _ _ _ h => h) (Or.inl ⟨by rfl, ?h7⟩) hHeld ?_
            case h7 =>
              intro w' hSw
              (try dsimp only at hSw)
              go_simp
              (try with_reducible rfl)
            (try simp only [Act.put]); (try simp only [List.setIfInBounds_toArray]); (try simp only [List.set_cons_succ]); (try simp only [List.set_cons_zero])
            refine wpAnyH_take (i := 8) (v := ?_) rfl (by kernel_rfl) (by kernel_rfl) (by kernel_rfl) (fun _ _ _ h => h) (Or.inl ⟨by rfl, ?h8⟩) hHeld ?_
            case h8 =>
              intro w' hSw
              (try dsimp only at hSw)
              go_simp
              (try with_reducible rfl)
            (try simp only [Act.put]); (try simp only [List.setIfInBounds_toArray]); (try simp only [List.set_cons_succ]); (try simp only [List.set_cons_zero])
            refine wpAnyH_take (i := 9) (v := ?_) rfl (by kernel_rfl) (by kernel_rfl) (by kernel_rfl) (fun _ _ _ h => h) (Or.inl ⟨by rfl, ?h9⟩) hHeld ?_
            case h9 =>
              intro w' hSw
              (try dsimp only at hSw)
              go_simp
              (try with_reducible rfl)
            (try simp only [Act.put]); (try simp only [List.setIfInBounds_toArray]); (try simp only [List.set_cons_succ]); (try simp only [List.set_cons_zero])
            refine wpAnyH_ready (rs := [1]) (by kernel_rfl) (by simp) ?_
            refine AllReadyH.cons rfl (fun K hK => ?_) (AllReadyH.nil)
            go_simp
            (refine (C20.out _ hHeld.bel).mono ?_)
            rintro e w30 ⟨a30, g30, c30, rfl, hsk, hle30, hb⟩
            have HK30 := Lib.hid hsk
            have hS2 := hHeld.below hb
            clear hsk hb
            refine hK.out _ _ hS2 (fun hHeld => ?_)
            clear hK K hS2
            (try simp only [Act.put]); (try simp only [List.setIfInBounds_toArray]); (try simp only [List.set_cons_succ]); (try simp only [List.set_cons_zero])
            refine wpAnyH_ready (rs := [10]) (by kernel_rfl) (by simp) ?_
            refine AllReadyH.cons rfl (fun K hK => ?_) (AllReadyH.nil)
            go_simp
            (refine (Cost_good a30 g30 0 c30 n R _ HN.out HK30.out hle30 HT.out x y hx1000 hy1000 HCV.out).mono ?_)
            rintro e w31 ⟨rfl, hb⟩
            have hS2 := hHeld.below hb
            clear hb
            refine hK.out _ _ hS2 (fun hHeld => ?_)
            clear hK K hS2
            (try simp only [Act.put]); (try simp only [List.setIfInBounds_toArray]); (try simp only [List.set_cons_succ]); (try simp only [List.set_cons_zero])
            refine wpAnyH_take (i := 11) (v := ?_) rfl (by kernel_rfl) (by kernel_rfl) (by kernel_rfl) (fun _ _ _ h => h) (Or.inl ⟨by rfl, ?h11⟩) hHeld ?_
            case h11 =>
              intro w' hSw
              (try dsimp only at hSw)
              go_simp
              (try with_reducible rfl)
            (try simp only [Act.put]); (try simp only [List.setIfInBounds_toArray]); (try simp only [List.set_cons_succ]); (try simp only [List.set_cons_zero])
            refine wpAnyH_take (i := 12) (v := ?_) rfl (by kernel_rfl) (by kernel_rfl) (by kernel_rfl) (fun _ _ _ h => h) (Or.inl ⟨by rfl, ?h12⟩) hHeld ?_
            case h12 =>
              intro w' hSw
              (try dsimp only at hSw)
              go_simp
              (try with_reducible rfl)
            (try simp only [Act.put]); (try simp only [List.setIfInBounds_toArray]); (try simp only [List.set_cons_succ]); (try simp only [List.set_cons_zero])
            refine wpAnyH_take (i := 13) (v := ?_) rfl (by kernel_rfl) (by kernel_rfl) (by kernel_rfl) (fun _ _ _ h => h) (Or.inl ⟨by rfl, ?h13⟩) hHeld ?_
            case h13 =>
              intro w' hSw
              (try dsimp only at hSw)
              go_simp
              (try with_reducible rfl)
            (try simp only [Act.put]); (try simp only [List.setIfInBounds_toArray]); (try simp only [List.set_cons_succ]); (try simp only [List.set_cons_zero])
            refine wpAnyH_take (i := 14) (v := ?_) rfl (by kernel_rfl) (by kernel_rfl) (by kernel_rfl) (fun _ _ _ h => h) (Or.inl ⟨by rfl, ?h14⟩) hHeld ?_
            case h14 =>
              intro w' hSw
              (try dsimp only at hSw)
              go_simp
              (try with_reducible rfl)
            (try simp only [Act.put]); (try simp only [List.setIfInBounds_toArray]); (try simp only [List.set_cons_succ]); (try simp only [List.set_cons_zero])
            refine wpAnyH_ready (rs := [15]) (by kernel_rfl) (by simp) ?_
            refine AllReadyH.cons rfl (fun K hK => ?_) (AllReadyH.nil)
            go_simp
            refine hK.out _ _ hHeld (fun hHeld => ?_)
            clear hK K
            (try simp only [Act.put]); (try simp only [List.setIfInBounds_toArray]); (try simp only [List.set_cons_succ]); (try simp only [List.set_cons_zero])
            refine wpAnyH_done (by kernel_rfl) ?_ _
            have eadd : IntKind.i64.wrap ((psum R x ys j : Nat) + (cR R x y 0 0 : Nat) : Int) = ((psum R x ys (j + 1) : Nat) : Int) := by rw [HPS.out]; rw [IntWalk.i64_in _ (by omega)]; omega
            generalize psum R x ys j = ps at *
            generalize cR R x y 0 0 = cv at *
            have hs7 := hHeld
            rw [HBS.out] at hs7
            have S7 := Lib.hid hs7
            clear hHeld hs7 K0 K1 K2 K3 K4 K5 K6 L0 L1 HBS
            go_wp2_with fail
            go_roundw
            case rel => exact ⟨j + 1, by omega, by go_num, by first | rfl | (rw [eadd]), S7.out⟩
            case measure => simp [intOf]; omega
          · obtain rfl : j = m := by omega
            have hpt : psum R x ys j = toX R x ys := psum_all (by rw [HMM.out]; exact Nat.le_refl _)
            have ht1 := HT1.out
            rw [← hpt] at ht1
            have HPT := Lib.hid hpt
            clear hpt
            generalize hps : psum R x ys j = ps at *
            have HPS := Lib.hid hps
            clear hps
            have p1 : ¬ (ps : Int) < (tt : Int) := by omega
            by_cases hic : i = cc
            · have te : ((i : Int) == (cc : Int)) = true := by rw [beq_iff_eq]; omega
              have htt : tt = ps := by have h := HTC.out x (by rw [← hic]; exact HX.out); rw [h, ← HPT.out]
              have tn : ((ps : Int) == (tt : Int)) = true := by rw [beq_iff_eq]; omega
              have tn1 : ((ps : Int) != (tt : Int)) = false := by rw [bne, tn]; rfl
              clear hic htt ht1 hpl
              go_wp2_with fail
              go_roundw
              case rel => exact ⟨i + 1, by omega, by go_num, H.out⟩
              case measure => simp [intOf]; omega
            · have te : ((i : Int) == (cc : Int)) = false := by rw [beq_eq_false_iff_ne]; omega
              clear hic ht1 hpl
              go_wp2_with fail
              go_roundw
              case rel => exact ⟨i + 1, by omega, by go_num, H.out⟩
              case measure => simp [intOf]; omega
      · go_wp2_with (go_at_call 18; (refine (awake_any _).mono ?_); rintro e wA ⟨rfl, hbA⟩; have SA := Lib.hid (H.out.bel.trans (hbA.mono H.out.bel.size)); clear hbA)
        go_ret
        exact ⟨rfl, SA.out⟩
end Go.Proofs.YtkdflgaahhnigaaGreat

namespace Go.Proofs.YtkdflgaahhnigaaGreat.nameCenter
open Go.ChangeShapes Go.WideShapes Go.ChangeAt Go.RowKit Go.Joins Go.Deep
open Go.ChangeMaps (open_string)

theorem own : ownKnob Tryz.prog.godebug = none := by kernel_rfl
theorem laidOut : laidOutB Tryz.prog = true := by kernel_rfl

set_option maxRecDepth 100000 in
theorem lifted (os : Os) (started : os.Started) (H : Type) (enc : TypeId × Value → H) :
    ReturnsInHanded {} Tryz.checked os 11 .any (Rows.nameCenterSpec.pre6 enc Tryz.prog Tryz.f11 Rows.nameCenterRow.domain false) (Rows.nameCenterSpec.post enc Tryz.prog Tryz.f11 false true false false) := by
  refine returnsInHanded_of_change (C := Tryz.checked) own started (by kernel_rfl) Tryz.func11
    (ChangeSpec.witness6 (enc := enc) (C := Tryz.checked) false ⟨#[], #[.agg #[.slice none 0 0, .string ⟨#[]⟩, .int .i64 0, .int .i64 0, .int .i64 0, .int .i64 0, .int .i64 0], .slice none 0 0, .int .u8 0], []⟩ 8 (by kernel_rfl) (by kernel_rfl) (by kernel_rfl) (by kernel_rfl)) ?_
  intro W base args ds gs before hval0 hW hcnd _
  have hval : ∀ (j : Nat) t v, Tryz.f11.params[j]? = some t → args[j]? = some v → Value.okWide Tryz.prog W .any base t v := hval0
  have hW' := hW
  obtain ⟨p, q, hA0, hV, rfl, hfz, hnd⟩ := hW
  have hA : DataW.TrodAll enc Tryz.prog W 0 (fun _ => true) true Tryz.f11.params.toList args.toList ds p := hA0
  rw [Tryz.params11] at hA hval
  obtain ⟨v0, vs0, d0, ds0, p0, q0, hargs, rfl, rfl, h0, r0⟩ := trodAll_cons hA
  obtain ⟨v1, vs1, d1, ds1, p1, q1, rfl, rfl, rfl, h1, r1⟩ := trodAll_cons r0
  obtain ⟨v2, vs2, d2, ds2, p2, q2, rfl, rfl, rfl, h2, r2⟩ := trodAll_cons r1
  obtain ⟨rfl, rfl, rfl⟩ := trodAll_nil r2
  obtain rfl : args = #[v0, v1, v2] := by cases args; simp_all
  obtain ⟨rfl, rfl⟩ := trodVars_none hV
  have k0 := h0
  have lt0 : ∀ x ∈ p0, x.block < W.heap.size := by obtain ⟨m, hm⟩ := k0; exact DataW.trod_lt m _ _ _ hm
  obtain ⟨a0, n0, c0, g0, o0, R0, rfl, sk0, hc0⟩ := open_rules (hval 0 24 v0 rfl rfl) h0
  have k1 := h1
  have lt1 : ∀ x ∈ p1, x.block < W.heap.size := by obtain ⟨m, hm⟩ := k1; exact DataW.trod_lt m _ _ _ hm
  obtain ⟨a1, n1, c1, rfl⟩ := okWide_slice Tryz.underlying22 (hval 1 22 v1 rfl rfl)
  obtain ⟨m1, hm1⟩ := h1
  obtain ⟨a1, n1, c1, g1, o1, l1, e1, sk1, hc1⟩ := row_of_strs hm1
  cases e1
  have k2 := h2
  have lt2 : ∀ x ∈ p2, x.block < W.heap.size := by obtain ⟨m, hm⟩ := k2; exact DataW.trod_lt m _ _ _ hm
  obtain ⟨a2, rfl, rfl, rfl, w2⟩ := open_int Tryz.underlying5 (hval 2 5 v2 rfl rfl) h2
  clear hA0 hval0
  refine (NameCenter_walk a0 g0 o0 c0 n0 R0 W sk0 hc0 a1 g1 o1 c1 n1 l1 sk1 hc1 a2 w2).mono fun e W' ⟨he, bel⟩ => ?_
  subst he
  exact ⟨_, rfl, _, _, _, [], _, [], hW', trodAll_mk1 (shut_bool Tryz.underlying4 _), (trodAll_cons_mk (Below.trod laidOut (by kernel_rfl) (of_decide_eq_true (by kernel_rfl)) k0 bel lt0) (trodAll_cons_mk (Below.trod laidOut (by kernel_rfl) (of_decide_eq_true (by kernel_rfl)) k1 bel lt1) (trodAll_cons_mk (Below.trod laidOut (by kernel_rfl) (of_decide_eq_true (by kernel_rfl)) k2 bel lt2) trodAll_mk0))), rfl, bel.frame _, fun h => by cases h⟩

theorem over : Rows.nameCenterRow.holds Tryz.pinned (OpenSpec.ofChange Rows.nameCenterSpec) :=
  OpenClaim.holds_of_wide 11 Tryz.f11 rfl rfl rfl rfl rfl rfl rfl ⟨rfl, rfl, rfl, rfl, rfl⟩ rfl rfl rfl rfl rfl (by kernel_rfl) Tryz.func11 (by kernel_rfl)
    (of_decide_eq_true (by kernel_rfl)) (by unfold Func.isWrapper; first | (rw [if_pos (by decide +kernel)]; kernel_rfl) | (rw [if_neg (by decide +kernel)]; exact ⟨rfl, rfl⟩))
    (fun os started H enc _ => lifted os started H enc)
end Go.Proofs.YtkdflgaahhnigaaGreat.nameCenter
namespace Go.Proofs.YtkdflgaahhnigaaGreat
/-- THE STATEMENT -/
theorem nameCenter_holds : Rows.NameCenterSaid := nameCenter.over
#print axioms nameCenter_holds
end Go.Proofs.YtkdflgaahhnigaaGreat
