/- NameParts: the walk. NameParts: for every input the statement returns true, and each argument reads behind the call as it read before. No condition. -/
import Derived.Test.YtkdflgaahhnigaaGreatC16
import Derived.Test.YtkdflgaahhnigaaGreatC15
import Derived.ProofKit
import Derived.OpenShut
import Derived.ShutString
import Derived.ChangeOld
import Derived.Below
import Derived.Lib.SmallJoins
import Derived.Deep.Slices
set_option linter.unusedVariables false
set_option linter.unusedSimpArgs false
namespace Go.Proofs.YtkdflgaahhnigaaGreat
open Go.RowKit Go.Shelf

theorem u16n {k : Int} (h : (Lit.int .u16 k).wf = true) : ∃ n : Nat, k = (n : Int) ∧ n < 65536 := by
  have h2 : IntKind.u16.min ≤ k ∧ k ≤ IntKind.u16.max := by simpa [Lit.wf] using h
  have h3 : IntKind.u16.min = 0 := rfl
  have h4 : IntKind.u16.max = 65535 := rfl
  exact ⟨k.toNat, by omega, by omega⟩
/-- what the groups of two limits say of two names -/
theorem parts_facts (R : RB) (ys : List ByteArray) (lo hi : Nat) (h : lo ≤ hi) :
    (∀ i, i < ys.length → 0 ≤ gOf (grpL R ys lo) i) ∧ (∀ i, i < ys.length → 0 ≤ gOf (grpL R ys hi) i) ∧ (grpL R ys hi).length ≤ (grpL R ys lo).length ∧
    (∀ i k, i < ys.length → k < ys.length → gOf (grpL R ys lo) i = gOf (grpL R ys lo) k → gOf (grpL R ys hi) i = gOf (grpL R ys hi) k) ∧
    (∀ i k x y, ys[i]? = some x → ys[k]? = some y → gOf (grpL R ys lo) i ≠ gOf (grpL R ys lo) k → ¬ cR R x y 0 0 ≤ lo) := by
  rw [grpL_classes, grpL_classes]
  refine ⟨fun i hi => gOf_nonneg (wjR_eqv R ys lo) hi, fun i hi => gOf_nonneg (wjR_eqv R ys _) hi, classes_len_le fun i k e => wjR_mono R ys h e, fun i k hi hk e => ?_, fun i k x y hx hy hne hle => ?_⟩
  · exact (gOf_iff (wjR_eqv R ys _) hi hk).2 (wjR_mono R ys h ((gOf_iff (wjR_eqv R ys lo) hi hk).1 e))
  · have hi := (List.getElem?_eq_some_iff.1 hx).1
    have hk := (List.getElem?_eq_some_iff.1 hy).1
    refine hne ((gOf_iff (wjR_eqv R ys lo) hi hk).2 (wjR_base R ys lo ?_))
    rw [rT_cost hx hy, decide_eq_true_eq]; exact hle
set_option maxRecDepth 100000 in
set_option maxHeartbeats 4000000 in
theorem NameParts_walk (a : Option Addr) (g o c n : Nat) (R : RB) (w : World) (hk : SKn w a g o c n R.cls) (hc : n ≤ c) (an : Option Addr) (gn on cn m : Nat) (ys : List ByteArray) (hkn : SKn w an gn on cn m ys) (hcm : m ≤ cn) (k1 k2 : Int) (hk1 : (Lit.int .u16 k1).wf = true) (hk2 : (Lit.int .u16 k2).wf = true) : Calls Tryz.prog 13 #[rulesV a n c R.soft R.al R.ot R.sk R.ss R.db, .slice an m cn, .int .u16 k1, .int .u16 k2] w fun e w' => e = .returned (.bool true) ∧ Below w.heap.size w w' := by
  have C36 := Lib.hid (fun W (hW : Below w.heap.size w W) => ready36 a g o c n R W hk.1 (hk.2.1.below hW) an gn on cn m ys hkn.1 (hkn.2.1.below hW))
  by_cases hm12 : 12 < m
  · have t1 : (12 : Int) < (m : Int) := by omega
    clear hm12
    have s0 := ((KS.start w).new (rulesC a n c R.soft R.al R.ot R.sk R.ss R.db) 24)
    obtain ⟨kb0_0, kb0_1, kb0_2, kb0_3, kb0_4, kb0_5, kb0_6⟩ := (s0.blkAt 0 rfl).c7
    have S0 := Lib.hid s0
    clear s0 hk hc hkn hcm
    go_enter Tryz.func13, Tryz.ntmps13
    go_wp2_with (go_at_call 18; (refine (awake_any _).mono ?_); rintro e wA ⟨rfl, hbA⟩; have SA := Lib.hid (S0.out.bel.trans (hbA.mono S0.out.bel.size)); clear hbA)
    go_ret
    exact ⟨rfl, SA.out⟩
  have t1 : ¬ (12 : Int) < (m : Int) := by omega
  cases hr : readyB R ys with
  | false =>
    rw [hr] at C36
    clear hm12
    have s0 := ((KS.start w).new (rulesC a n c R.soft R.al R.ot R.sk R.ss R.db) 24)
    obtain ⟨kb0_0, kb0_1, kb0_2, kb0_3, kb0_4, kb0_5, kb0_6⟩ := (s0.blkAt 0 rfl).c7
    have S0 := Lib.hid s0
    clear s0 hr hk hc hkn hcm
    go_enter Tryz.func13, Tryz.ntmps13
    go_wp2_with fail
    refine (C36.out _ S0.out.bel).mono ?_
    rintro e w1 ⟨rfl, hb⟩
    have S1 := Lib.hid (S0.out.below hb)
    clear hb
    go_wp2_with (go_at_call 18; (refine (awake_any _).mono ?_); rintro e wA ⟨rfl, hbA⟩; have SA := Lib.hid (S1.out.bel.trans (hbA.mono S1.out.bel.size)); clear hbA)
    go_ret
    exact ⟨rfl, SA.out⟩
  | true =>
    obtain ⟨ht, hn15, hv, _, hl⟩ := ready_parts hr
    rw [hr] at C36
    have hnn := hk.1
    have hmm := hkn.1
    have C20 := Lib.hid (fun W (hW : Below w.heap.size w W) => Rules20 a g o c n R W (hk.below hW) (by omega))
    have C28 := Lib.hid (fun W (hW : Below w.heap.size w W) => list28' an gn on cn m ys W (hkn.below hW) (by omega))
    have HT := Lib.hid ht
    have HN := Lib.hid hk.1
    have HV := Lib.hid hv
    have hlst : lstN R ys [] = 0 := by unfold lstN; rw [if_neg (by omega), List.append_nil]; exact hv
    have HLS := Lib.hid hlst
    have hl1000 : ∀ y, y ∈ ys → y.size ≤ 1000 := fun y hy => by have := hl y hy; omega
    have HLL := Lib.hid hl1000
    have hm900 : m ≤ 900 := by omega
    have hgood := (chkN_ok hv).1
    have hnms : NmsOk ys := (chkN_ok hv).2
    have s0 := ((KS.start w).new (rulesC a n c R.soft R.al R.ot R.sk R.ss R.db) 24)
    obtain ⟨kb0_0, kb0_1, kb0_2, kb0_3, kb0_4, kb0_5, kb0_6⟩ := (s0.blkAt 0 rfl).c7
    have S0 := Lib.hid s0
    obtain ⟨n1, rfl, hn1⟩ := u16n hk1
    obtain ⟨n2, rfl, hn2⟩ := u16n hk2
    obtain ⟨lo, hlo⟩ : ∃ lo, lo = n1 % 4000 := ⟨_, rfl⟩
    obtain ⟨md, hmd⟩ : ∃ md, md = n2 % 1000 := ⟨_, rfl⟩
    obtain ⟨hi, hhi⟩ : ∃ hi, hi = lo + md := ⟨_, rfl⟩
    have hlo4 : lo < 4000 := by omega
    have hmd1 : md < 1000 := by omega
    have a1 : IntKind.i64.wrap (n1 : Int) = (n1 : Int) := IntWalk.i64_in _ (by omega)
    have a2 : IntKind.i64.wrap (n2 : Int) = (n2 : Int) := IntWalk.i64_in _ (by omega)
    have a3 : (n1 : Int) % 4000 = (lo : Int) := by omega
    have a4 : (n2 : Int) % 1000 = (md : Int) := by omega
    have a5 : (n1 : Int).tmod 4000 = (lo : Int) := by rw [hlo]; exact (Int.ofNat_tmod n1 4000).symm
    have a6 : (n2 : Int).tmod 1000 = (md : Int) := by rw [hmd]; exact (Int.ofNat_tmod n2 1000).symm
    have a7 : (lo : Int) + (md : Int) = (hi : Int) := by omega
    have hlo5 : lo ≤ 5000 := by omega
    have hhi5 : hi ≤ 5000 := by omega
    obtain ⟨f1, f2, f3, f4, f5⟩ := parts_facts R ys lo hi (by omega)
    obtain ⟨r1, r2⟩ := grpL_rows R ys lo
    obtain ⟨r3, r4⟩ := grpL_rows R ys hi
    have F1 := Lib.hid f1
    have F2 := Lib.hid f2
    have F4 := Lib.hid f4
    have F5 := Lib.hid f5
    have RA := Lib.hid (show (grpL R ys lo).length ≤ 100 ∧ ∀ r, r ∈ grpL R ys lo → r ≠ [] ∧ r.length ≤ 100 from ⟨by omega, fun r hr => ⟨(r2 r hr).1, by have := (r2 r hr).2; omega⟩⟩)
    have RBB := Lib.hid (show (grpL R ys hi).length ≤ 100 ∧ ∀ r, r ∈ grpL R ys hi → r ≠ [] ∧ r.length ≤ 100 from ⟨by omega, fun r hr => ⟨(r4 r hr).1, by have := (r4 r hr).2; omega⟩⟩)
    have CGA := Lib.hid (fun (r l : Nat) => True.intro)
    have HKN := Lib.hid hkn
    have HMM := Lib.hid hmm
    have HGD := Lib.hid hgood
    have HNM := Lib.hid hnms
    have pab : ¬ ((grpL R ys lo).length : Int) < ((grpL R ys hi).length : Int) := by omega
    have pab2 : ¬ (grpL R ys lo).length < (grpL R ys hi).length := by omega
    clear f1 f2 f3 f4 f5 r1 r2 r3 r4 hk1 hk2 hlo hmd hhi
    clear s0 hr ht hn15 hv hl hnn hmm hk hc hkn hcm hl1000 hlst hgood hnms hm12
    go_enter Tryz.func13, Tryz.ntmps13
    go_wp2_with fail
    refine (C36.out _ S0.out.bel).mono ?_
    rintro e w1 ⟨rfl, hb⟩
    clear kb0_0 kb0_1 kb0_2 kb0_3 kb0_4 kb0_5 kb0_6
    have s1 := S0.out.below hb
    obtain ⟨kb0_0, kb0_1, kb0_2, kb0_3, kb0_4, kb0_5, kb0_6⟩ := (s1.blkAt 0 rfl).c7
    have S1 := Lib.hid s1
    clear hb s1
    go_wp2_with fail
    refine (C20.out _ S1.out.bel).mono ?_
    rintro e w2 ⟨a2, g2, c2, rfl, hsk, hle2, hb⟩
    have HK2 := Lib.hid hsk
    clear hsk
    clear kb0_0 kb0_1 kb0_2 kb0_3 kb0_4 kb0_5 kb0_6
    have s2 := S1.out.below hb
    obtain ⟨kb0_0, kb0_1, kb0_2, kb0_3, kb0_4, kb0_5, kb0_6⟩ := (s2.blkAt 0 rfl).c7
    have S2 := Lib.hid s2
    clear hb s2
    go_wp2_with fail
    refine (C28.out _ S2.out.bel).mono ?_
    rintro e w3 ⟨b3, d3, e3, rfl, hsl, hll3, hb⟩
    have HL3 := Lib.hid hsl
    clear hsl
    have HR3 := Lib.hid (HK2.out.below hb)
    clear kb0_0 kb0_1 kb0_2 kb0_3 kb0_4 kb0_5 kb0_6
    have s3 := S2.out.below hb
    obtain ⟨kb0_0, kb0_1, kb0_2, kb0_3, kb0_4, kb0_5, kb0_6⟩ := (s3.blkAt 0 rfl).c7
    have S3 := Lib.hid s3
    clear hb s3
    go_wp2_with fail
    refine (Groups_good a2 g2 0 c2 n R _ HN.out HR3.out hle2 HT.out b3 d3 0 e3 m ys HL3.out hll3 hm900 HLL.out lo hlo5 HLS.out).mono ?_
    rintro e w4 ⟨⟨v, rfl, hT⟩, hb⟩
    obtain ⟨qa, ca, rfl⟩ := lenV hT
    obtain ⟨Ba, hBa⟩ : ∃ B, B = w3.heap.size + 1 := ⟨_, rfl⟩
    rw [← hBa] at hT
    clear hBa
    have TA4 := Lib.hid hT
    clear hT
    clear kb0_0 kb0_1 kb0_2 kb0_3 kb0_4 kb0_5 kb0_6
    have s4 := S3.out.below hb
    obtain ⟨kb0_0, kb0_1, kb0_2, kb0_3, kb0_4, kb0_5, kb0_6⟩ := (s4.blkAt 0 rfl).c7
    have S4 := Lib.hid s4
    clear hb s4
    go_wp2_with fail
    refine (C20.out _ S4.out.bel).mono ?_
    rintro e w5 ⟨a5, g5, c5, rfl, hsk, hle5, hb⟩
    have HK5 := Lib.hid hsk
    clear hsk
    clear kb0_0 kb0_1 kb0_2 kb0_3 kb0_4 kb0_5 kb0_6
    have TA5 := Lib.hid (TA4.out.below hb)
    have s5 := S4.out.below hb
    obtain ⟨kb0_0, kb0_1, kb0_2, kb0_3, kb0_4, kb0_5, kb0_6⟩ := (s5.blkAt 0 rfl).c7
    have S5 := Lib.hid s5
    clear hb s5
    go_wp2_with fail
    refine (C28.out _ S5.out.bel).mono ?_
    rintro e w6 ⟨b6, d6, e6, rfl, hsl, hll6, hb⟩
    have HL6 := Lib.hid hsl
    clear hsl
    have HR6 := Lib.hid (HK5.out.below hb)
    clear kb0_0 kb0_1 kb0_2 kb0_3 kb0_4 kb0_5 kb0_6
    have TA6 := Lib.hid (TA5.out.below hb)
    have s6 := S5.out.below hb
    obtain ⟨kb0_0, kb0_1, kb0_2, kb0_3, kb0_4, kb0_5, kb0_6⟩ := (s6.blkAt 0 rfl).c7
    have S6 := Lib.hid s6
    clear hb s6
    go_wp2_with fail
    refine (Groups_good a5 g5 0 c5 n R _ HN.out HR6.out hle5 HT.out b6 d6 0 e6 m ys HL6.out hll6 hm900 HLL.out hi hhi5 HLS.out).mono ?_
    rintro e w7 ⟨⟨v, rfl, hT⟩, hb⟩
    obtain ⟨qb, cb, rfl⟩ := lenV hT
    obtain ⟨Bb, hBb⟩ : ∃ B, B = w6.heap.size + 1 := ⟨_, rfl⟩
    rw [← hBb] at hT
    clear hBb
    have TB7 := Lib.hid hT
    clear hT
    clear kb0_0 kb0_1 kb0_2 kb0_3 kb0_4 kb0_5 kb0_6
    have TA7 := Lib.hid (TA6.out.below hb)
    have s7 := S6.out.below hb
    obtain ⟨kb0_0, kb0_1, kb0_2, kb0_3, kb0_4, kb0_5, kb0_6⟩ := (s7.blkAt 0 rfl).c7
    have S7 := Lib.hid s7
    clear hb s7
    generalize grpL R ys lo = ta at *
    generalize grpL R ys hi = tb at *
    go_wp2_with fail
    clear kb0_0 kb0_1 kb0_2 kb0_3 kb0_4 kb0_5 kb0_6
    go_loopw [14] (fun y wr => ∃ i : Nat, i ≤ m ∧ y = .int .i64 (i : Int) ∧ Hid (KS w [(w.heap.size, rulesC a n c R.soft R.al R.ot R.sk R.ss R.db, 24)] wr ∧ TabK wr Ba (.slice qa ta.length ca) ta ∧ TabK wr Bb (.slice qb tb.length cb) tb)) (fun y _ => m - (intOf y).toNat)
    case atStart => exact ⟨0, Nat.zero_le _, rfl, S7.out, TA7.out, TB7.out⟩
    case round =>
      clear S7 TA7 TB7
      obtain ⟨i, hi, rfl, H⟩ := hrel
      by_cases him : i < m
      · have hne : ys ≠ [] := by rintro rfl; have := HMM.out; simp at this; omega
        have e1 := HKN.out.2.1.1 hne
        subst e1
        obtain ⟨x, hx⟩ : ∃ x, ys[i]? = some x := ⟨ys[i]'(by rw [HMM.out]; exact him), by simp⟩
        have hxm := List.mem_of_getElem? hx
        have HX := Lib.hid hx
        have hx12 := (HNM.out x hxm)
        have HX12 := Lib.hid hx12
        have hx1000 : x.size ≤ 1000 := by have := hx12.1; omega
        have g1 : ¬ gOf ta i < 0 := by have := F1.out i (by rw [HMM.out]; exact him); omega
        have g2 : ¬ gOf tb i < 0 := by have := F2.out i (by rw [HMM.out]; exact him); omega
        have CA := Lib.hid (fun (nn : Nat) => groupOf41 Ba _ ta nn wr H.out.2.1 RA.out.2 RA.out.1)
        have CB := Lib.hid (fun (nn : Nat) => groupOf41 Bb _ tb nn wr H.out.2.2 RBB.out.2 RBB.out.1)
        have pi0 : (0 : Int) ≤ (i : Int) := by omega
        have pi1 : (i : Int) < (m : Int) := by omega
        clear hx hxm hx12 hne
        go_wp2_with (first | (go_at_call 41; (with_reducible refine (CA.out _).mono ?_); rintro e wG ⟨rfl, rfl⟩) | (go_at_call 41; (with_reducible refine (CB.out _).mono ?_); rintro e wG ⟨rfl, rfl⟩))
        go_loopw [15] (fun y wr => ∃ k : Nat, k ≤ i ∧ y = .int .i64 (k : Int) ∧ Hid (KS w [(w.heap.size, rulesC a n c R.soft R.al R.ot R.sk R.ss R.db, 24)] wr ∧ TabK wr Ba (.slice qa ta.length ca) ta ∧ TabK wr Bb (.slice qb tb.length cb) tb)) (fun y _ => i - (intOf y).toNat)
        case atStart => exact ⟨0, Nat.zero_le _, rfl, H.out⟩
        case round =>
          clear H CA CB
          obtain ⟨k, hk, rfl, H⟩ := hrel
          by_cases hki : k < i
          · obtain ⟨y, hy⟩ : ∃ y, ys[k]? = some y := ⟨ys[k]'(by rw [HMM.out]; omega), by simp⟩
            have hym := List.mem_of_getElem? hy
            have HY := Lib.hid hy
            have hy12 := (HNM.out y hym)
            have hy1000 : y.size ≤ 1000 := by have := hy12.1; omega
            have hcv : chkN R [x, y] = 0 := chkN_intro HGD.out (fun z hz => by simp at hz; rcases hz with rfl | rfl; exact HX12.out; exact hy12)
            have HCV := Lib.hid hcv
            have pk0 : (0 : Int) ≤ (k : Int) := by omega
            have pk1 : (k : Int) < (m : Int) := by omega
            have HF5 := Lib.hid (F5.out i k x y HX.out HY.out)
            have HF4 := Lib.hid (F4.out i k (by rw [HMM.out]; omega) (by rw [HMM.out]; omega))
            clear hy hym hy12 hcv
            go_wp2_with fail
            obtain ⟨BS, hBS⟩ : ∃ BS : List (Nat × Array Value × TypeId), BS = [(w.heap.size, rulesC a n c R.soft R.al R.ot R.sk R.ss R.db, 24)] := ⟨_, rfl⟩
            have hS : KS w BS wr.drew := by rw [hBS]; exact H.out.1.drew
            have K0 : ∀ W, KS w BS W → W.cell? ⟨w.heap.size, 0, none⟩ = some (.slice a n c) := fun W h => by rw [hBS] at h; exact (h.blkAt 0 rfl).cell 0
            have K1 : ∀ W, KS w BS W → W.cell? ⟨w.heap.size, 1, none⟩ = some (.string R.soft) := fun W h => by rw [hBS] at h; exact (h.blkAt 0 rfl).cell 1
            have K2 : ∀ W, KS w BS W → W.cell? ⟨w.heap.size, 2, none⟩ = some (.int .i64 R.al) := fun W h => by rw [hBS] at h; exact (h.blkAt 0 rfl).cell 2
            have K3 : ∀ W, KS w BS W → W.cell? ⟨w.heap.size, 3, none⟩ = some (.int .i64 R.ot) := fun W h => by rw [hBS] at h; exact (h.blkAt 0 rfl).cell 3
            have K4 : ∀ W, KS w BS W → W.cell? ⟨w.heap.size, 4, none⟩ = some (.int .i64 R.sk) := fun W h => by rw [hBS] at h; exact (h.blkAt 0 rfl).cell 4
            have K5 : ∀ W, KS w BS W → W.cell? ⟨w.heap.size, 5, none⟩ = some (.int .i64 R.ss) := fun W h => by rw [hBS] at h; exact (h.blkAt 0 rfl).cell 5
            have K6 : ∀ W, KS w BS W → W.cell? ⟨w.heap.size, 6, none⟩ = some (.int .i64 R.db) := fun W h => by rw [hBS] at h; exact (h.blkAt 0 rfl).cell 6
            have HBS := Lib.hid hBS
            clear hBS
            have L0 : ∀ W, KS w BS W → W.cell? ⟨gn, on + i, none⟩ = some (.string x) := fun W h => (HKN.out.below h.bel).2.1.2.1 i x HX.out
            have L1 : ∀ W, KS w BS W → W.cell? ⟨gn, on + k, none⟩ = some (.string y) := fun W h => (HKN.out.below h.bel).2.1.2.1 k y HY.out
            refine wp_region_held_drew (S := KS w BS) (by kernel_rfl) hS (fun hHeld => ?_)
            clear hS
            refine wpAnyH_take (i := 0) (v := ?_) rfl (by kernel_rfl) (by kernel_rfl) (by kernel_rfl) (fun _ _ _ h => h) (Or.inl ⟨by rfl, ?h0⟩) hHeld ?_
            case h0 =>
              intro w' hSw
              (try dsimp only at hSw)
              go_simp
              (try with_reducible rfl)
            (try simp only [Act.put]); (try simp only [List.setIfInBounds_toArray]); (try simp only [List.set_cons_succ]); (try simp only [List.set_cons_zero])
            refine wpAnyH_take (i := 2) (v := ?_) rfl (by kernel_rfl) (by kernel_rfl) (by kernel_rfl) (fun _ _ _ h => h) (Or.inl ⟨by rfl, ?h2⟩) hHeld ?_
            case h2 =>
              intro w' hSw
              (try dsimp only at hSw)
              go_simp
              (try with_reducible rfl)
            (try simp only [Act.put]); (try simp only [List.setIfInBounds_toArray]); (try simp only [List.set_cons_succ]); (try simp only [List.set_cons_zero])
            refine wpAnyH_take (i := 3) (v := ?_) rfl (by kernel_rfl) (by kernel_rfl) (by kernel_rfl) (fun _ _ _ h => h) (Or.inl ⟨by rfl, ?h3⟩) hHeld ?_
            case h3 =>
              intro w' hSw
              (try dsimp only at hSw)
              go_simp
              (try with_reducible rfl)
            (try simp only [Act.put]); (try simp only [List.setIfInBounds_toArray]); (try simp only [List.set_cons_succ]); (try simp only [List.set_cons_zero])
            refine wpAnyH_take (i := 4) (v := ?_) rfl (by kernel_rfl) (by kernel_rfl) (by kernel_rfl) (fun _ _ _ h => h) (Or.inl ⟨by rfl, ?h4⟩) hHeld ?_
            case h4 =>
              intro w' hSw
              (try dsimp only at hSw)
              go_simp
              (try with_reducible rfl)
            (try simp only [Act.put]); (try simp only [List.setIfInBounds_toArray]); (try simp only [List.set_cons_succ]); (try simp only [List.set_cons_zero])
            refine wpAnyH_take (i := 5) (v := ?_) rfl (by kernel_rfl) (by kernel_rfl) (by kernel_rfl) (fun _ _ _ h => h) (Or.inl ⟨by rfl, ?h5⟩) hHeld ?_
            case h5 =>
              intro w' hSw
              (try dsimp only at hSw)
              go_simp
              (try with_reducible rfl)
            (try simp only [Act.put]); (try simp only [List.setIfInBounds_toArray]); (try simp only [List.set_cons_succ]); (try simp only [List.set_cons_zero])
            refine wpAnyH_take (i := 6) (v := ?_) rfl (by kernel_rfl) (by kernel_rfl) (by kernel_rfl) (fun _ _ _ h => h) (Or.inl ⟨by rfl, ?h6⟩) hHeld ?_
            case h6 =>
              intro w' hSw
              (try dsimp only at hSw)
              go_simp
              (try with_reducible rfl)
            (try simp only [Act.put]); (try simp only [List.setIfInBounds_toArray]); (try simp only [List.set_cons_succ]); (try simp only [List.set_cons_zero])
            refine wpAnyH_take (i := 7) (v := ?_) rfl (by kernel_rfl) (by kernel_rfl) (by kernel_rfl) (fun _ _ _ h => h) (Or.inl ⟨by rfl, ?h7⟩) hHeld ?_
            case h7 =>
              intro w' hSw
              (try dsimp only at hSw)
              go_simp
              (try with_reducible rfl)
            (try simp only [Act.put]); (try simp only [List.setIfInBounds_toArray]); (try simp only [List.set_cons_succ]); (try simp only [List.set_cons_zero])
            refine wpAnyH_take (i := 8) (v := ?_) rfl (by kernel_rfl) (by kernel_rfl) (by kernel_rfl) (fun _ _ _ h => h) (Or.inl ⟨by rfl, ?h8⟩) hHeld ?_
            case h8 =>
              intro w' hSw
              (try dsimp only at hSw)
              go_simp
              (try with_reducible rfl)
            (try simp only [Act.put]); (try simp only [List.setIfInBounds_toArray]); (try simp only [List.set_cons_succ]); (try simp only [List.set_cons_zero])
            refine wpAnyH_take (i := 9) (v := ?_) rfl (by kernel_rfl) (by kernel_rfl) (by kernel_rfl) (fun _ _ _ h => h) (Or.inl ⟨by rfl, ?h9⟩) hHeld ?_
            case h9 =>
              intro w' hSw
              (try dsimp only at hSw)
              go_simp
              (try with_reducible rfl)
            (try simp only [Act.put]); (try simp only [List.setIfInBounds_toArray]); (try simp only [List.set_cons_succ]); (try simp only [List.set_cons_zero])
            refine wpAnyH_ready (rs := [1]) (by kernel_rfl) (by simp) ?_
            refine AllReadyH.cons rfl (fun K hK => ?_) (AllReadyH.nil)
            go_simp
            (refine (C20.out _ hHeld.bel).mono ?_)
            rintro e w30 ⟨a30, g30, c30, rfl, hsk, hle30, hb⟩
            have HK30 := Lib.hid hsk
            have HTA := Lib.hid ((H.out.2.1.below (Below.refl _ _).drew).below hb)
            have HTB := Lib.hid ((H.out.2.2.below (Below.refl _ _).drew).below hb)
            have hS2 := hHeld.below hb
            clear hsk hb
            refine hK.out _ _ hS2 (fun hHeld => ?_)
            clear hK K hS2
            (try simp only [Act.put]); (try simp only [List.setIfInBounds_toArray]); (try simp only [List.set_cons_succ]); (try simp only [List.set_cons_zero])
            refine wpAnyH_ready (rs := [10]) (by kernel_rfl) (by simp) ?_
            refine AllReadyH.cons rfl (fun K hK => ?_) (AllReadyH.nil)
            go_simp
            (refine (Cost_good a30 g30 0 c30 n R _ HN.out HK30.out hle30 HT.out x y hx1000 hy1000 HCV.out).mono ?_)
            rintro e w31 ⟨rfl, hb⟩
            have hS2 := hHeld.below hb
            have HTA := Lib.hid (HTA.out.below hb)
            have HTB := Lib.hid (HTB.out.below hb)
            clear hb
            refine hK.out _ _ hS2 (fun hHeld => ?_)
            clear hK K hS2
            (try simp only [Act.put]); (try simp only [List.setIfInBounds_toArray]); (try simp only [List.set_cons_succ]); (try simp only [List.set_cons_zero])
            refine wpAnyH_take (i := 11) (v := ?_) rfl (by kernel_rfl) (by kernel_rfl) (by kernel_rfl) (fun _ _ _ h => h) (Or.inl ⟨by rfl, ?h11⟩) hHeld ?_
            case h11 =>
              intro w' hSw
              (try dsimp only at hSw)
              go_simp
              (try with_reducible rfl)
            (try simp only [Act.put]); (try simp only [List.setIfInBounds_toArray]); (try simp only [List.set_cons_succ]); (try simp only [List.set_cons_zero])
            refine wpAnyH_take (i := 12) (v := ?_) rfl (by kernel_rfl) (by kernel_rfl) (by kernel_rfl) (fun _ _ _ h => h) (Or.inl ⟨by rfl, ?h12⟩) hHeld ?_
            case h12 =>
              intro w' hSw
              (try dsimp only at hSw)
              go_simp
              (try with_reducible rfl)
            (try simp only [Act.put]); (try simp only [List.setIfInBounds_toArray]); (try simp only [List.set_cons_succ]); (try simp only [List.set_cons_zero])
            refine wpAnyH_take (i := 13) (v := ?_) rfl (by kernel_rfl) (by kernel_rfl) (by kernel_rfl) (fun _ _ _ h => h) (Or.inl ⟨by rfl, ?h13⟩) hHeld ?_
            case h13 =>
              intro w' hSw
              (try dsimp only at hSw)
              go_simp
              (try with_reducible rfl)
            (try simp only [Act.put]); (try simp only [List.setIfInBounds_toArray]); (try simp only [List.set_cons_succ]); (try simp only [List.set_cons_zero])
            refine wpAnyH_take (i := 14) (v := ?_) rfl (by kernel_rfl) (by kernel_rfl) (by kernel_rfl) (fun _ _ _ h => h) (Or.inl ⟨by rfl, ?h14⟩) hHeld ?_
            case h14 =>
              intro w' hSw
              (try dsimp only at hSw)
              go_simp
              (try with_reducible rfl)
            (try simp only [Act.put]); (try simp only [List.setIfInBounds_toArray]); (try simp only [List.set_cons_succ]); (try simp only [List.set_cons_zero])
            refine wpAnyH_ready (rs := [15]) (by kernel_rfl) (by simp) ?_
            refine AllReadyH.cons rfl (fun K hK => ?_) (AllReadyH.nil)
            go_simp
            refine hK.out _ _ hHeld (fun hHeld => ?_)
            clear hK K
            (try simp only [Act.put]); (try simp only [List.setIfInBounds_toArray]); (try simp only [List.set_cons_succ]); (try simp only [List.set_cons_zero])
            refine wpAnyH_done (by kernel_rfl) ?_ _
            have hs7 := hHeld
            rw [HBS.out] at hs7
            have S7 := Lib.hid (show KS w [(w.heap.size, rulesC a n c R.soft R.al R.ot R.sk R.ss R.db, 24)] w31 ∧ TabK w31 Ba (.slice qa ta.length ca) ta ∧ TabK w31 Bb (.slice qb tb.length cb) tb from ⟨hs7, HTA.out, HTB.out⟩)
            have CA := Lib.hid (fun (nn : Nat) => groupOf41 Ba _ ta nn w31 HTA.out RA.out.2 RA.out.1)
            have CB := Lib.hid (fun (nn : Nat) => groupOf41 Bb _ tb nn w31 HTB.out RBB.out.2 RBB.out.1)
            clear hHeld hs7 K0 K1 K2 K3 K4 K5 K6 L0 L1 HBS HTA HTB
            generalize cR R x y 0 0 = cv at *
            by_cases hs : gOf ta i = gOf ta k
            · have h4 := HF4.out hs
              have ts : (gOf ta i == gOf ta k) = true := by rw [beq_iff_eq]; exact hs
              have tb1 : (gOf tb i == gOf tb k) = true := by rw [beq_iff_eq]; exact h4
              have tb2 : (gOf tb i != gOf tb k) = false := by rw [bne, tb1]; rfl
              clear hs h4
              go_wp2_with (first | (go_at_call 41; (with_reducible refine (CA.out _).mono ?_); rintro e wG ⟨rfl, rfl⟩) | (go_at_call 41; (with_reducible refine (CB.out _).mono ?_); rintro e wG ⟨rfl, rfl⟩))
              go_roundw
              case rel => exact ⟨k + 1, by omega, by go_num, S7.out⟩
              case measure => simp [intOf]; omega
            · have h5 := HF5.out hs
              have ts : (gOf ta i == gOf ta k) = false := by rw [beq_eq_false_iff_ne]; exact hs
              have p5 : ¬ (cv : Int) ≤ (lo : Int) := by omega
              clear hs h5
              go_wp2_with (first | (go_at_call 41; (with_reducible refine (CA.out _).mono ?_); rintro e wG ⟨rfl, rfl⟩) | (go_at_call 41; (with_reducible refine (CB.out _).mono ?_); rintro e wG ⟨rfl, rfl⟩))
              go_roundw
              case rel => exact ⟨k + 1, by omega, by go_num, S7.out⟩
              case measure => simp [intOf]; omega
          · go_wp2_with fail
            go_roundw
            case rel => exact ⟨i + 1, by omega, by go_num, H.out⟩
            case measure => simp [intOf]; omega
      · go_wp2_with (go_at_call 18; (refine (awake_any _).mono ?_); rintro e wA ⟨rfl, hbA⟩; have SA := Lib.hid (H.out.1.bel.trans (hbA.mono H.out.1.bel.size)); clear hbA)
        go_ret
        exact ⟨rfl, SA.out⟩
end Go.Proofs.YtkdflgaahhnigaaGreat

namespace Go.Proofs.YtkdflgaahhnigaaGreat.nameParts
open Go.ChangeShapes Go.WideShapes Go.ChangeAt Go.RowKit Go.Joins Go.Deep
open Go.ChangeMaps (open_string)

theorem own : ownKnob Tryz.prog.godebug = none := by kernel_rfl
theorem laidOut : laidOutB Tryz.prog = true := by kernel_rfl

set_option maxRecDepth 100000 in
theorem lifted (os : Os) (started : os.Started) (H : Type) (enc : TypeId × Value → H) :
    ReturnsInHanded {} Tryz.checked os 13 .any (Rows.namePartsSpec.pre6 enc Tryz.prog Tryz.f13 Rows.namePartsRow.domain false) (Rows.namePartsSpec.post enc Tryz.prog Tryz.f13 false true false false) := by
  refine returnsInHanded_of_change (C := Tryz.checked) own started (by kernel_rfl) Tryz.func13
    (ChangeSpec.witness6 (enc := enc) (C := Tryz.checked) false ⟨#[], #[.agg #[.slice none 0 0, .string ⟨#[]⟩, .int .i64 0, .int .i64 0, .int .i64 0, .int .i64 0, .int .i64 0], .slice none 0 0, .int .u16 0, .int .u16 0], []⟩ 8 (by kernel_rfl) (by kernel_rfl) (by kernel_rfl) (by kernel_rfl)) ?_
  intro W base args ds gs before hval0 hW hcnd _
  have hval : ∀ (j : Nat) t v, Tryz.f13.params[j]? = some t → args[j]? = some v → Value.okWide Tryz.prog W .any base t v := hval0
  have hW' := hW
  obtain ⟨p, q, hA0, hV, rfl, hfz, hnd⟩ := hW
  have hA : DataW.TrodAll enc Tryz.prog W 0 (fun _ => true) true Tryz.f13.params.toList args.toList ds p := hA0
  rw [Tryz.params13] at hA hval
  obtain ⟨v0, vs0, d0, ds0, p0, q0, hargs, rfl, rfl, h0, r0⟩ := trodAll_cons hA
  obtain ⟨v1, vs1, d1, ds1, p1, q1, rfl, rfl, rfl, h1, r1⟩ := trodAll_cons r0
  obtain ⟨v2, vs2, d2, ds2, p2, q2, rfl, rfl, rfl, h2, r2⟩ := trodAll_cons r1
  obtain ⟨v3, vs3, d3, ds3, p3, q3, rfl, rfl, rfl, h3, r3⟩ := trodAll_cons r2
  obtain ⟨rfl, rfl, rfl⟩ := trodAll_nil r3
  obtain rfl : args = #[v0, v1, v2, v3] := by cases args; simp_all
  obtain ⟨rfl, rfl⟩ := trodVars_none hV
  have k0 := h0
  have lt0 : ∀ x ∈ p0, x.block < W.heap.size := by obtain ⟨m, hm⟩ := k0; exact DataW.trod_lt m _ _ _ hm
  obtain ⟨a0, n0, c0, g0, o0, R0, rfl, sk0, hc0⟩ := open_rules (hval 0 24 v0 rfl rfl) h0
  have k1 := h1
  have lt1 : ∀ x ∈ p1, x.block < W.heap.size := by obtain ⟨m, hm⟩ := k1; exact DataW.trod_lt m _ _ _ hm
  obtain ⟨a1, n1, c1, rfl⟩ := okWide_slice Tryz.underlying22 (hval 1 22 v1 rfl rfl)
  obtain ⟨m1, hm1⟩ := h1
  obtain ⟨a1, n1, c1, g1, o1, l1, e1, sk1, hc1⟩ := row_of_strs hm1
  cases e1
  have k2 := h2
  have lt2 : ∀ x ∈ p2, x.block < W.heap.size := by obtain ⟨m, hm⟩ := k2; exact DataW.trod_lt m _ _ _ hm
  obtain ⟨a2, rfl, rfl, rfl, w2⟩ := open_int Tryz.underlying69 (hval 2 69 v2 rfl rfl) h2
  have k3 := h3
  have lt3 : ∀ x ∈ p3, x.block < W.heap.size := by obtain ⟨m, hm⟩ := k3; exact DataW.trod_lt m _ _ _ hm
  obtain ⟨a3, rfl, rfl, rfl, w3⟩ := open_int Tryz.underlying69 (hval 3 69 v3 rfl rfl) h3
  clear hA0 hval0
  refine (NameParts_walk a0 g0 o0 c0 n0 R0 W sk0 hc0 a1 g1 o1 c1 n1 l1 sk1 hc1 a2 a3 w2 w3).mono fun e W' ⟨he, bel⟩ => ?_
  subst he
  exact ⟨_, rfl, _, _, _, [], _, [], hW', trodAll_mk1 (shut_bool Tryz.underlying4 _), (trodAll_cons_mk (Below.trod laidOut (by kernel_rfl) (of_decide_eq_true (by kernel_rfl)) k0 bel lt0) (trodAll_cons_mk (Below.trod laidOut (by kernel_rfl) (of_decide_eq_true (by kernel_rfl)) k1 bel lt1) (trodAll_cons_mk (Below.trod laidOut (by kernel_rfl) (of_decide_eq_true (by kernel_rfl)) k2 bel lt2) (trodAll_cons_mk (Below.trod laidOut (by kernel_rfl) (of_decide_eq_true (by kernel_rfl)) k3 bel lt3) trodAll_mk0)))), rfl, bel.frame _, fun h => by cases h⟩

theorem over : Rows.namePartsRow.holds Tryz.pinned (OpenSpec.ofChange Rows.namePartsSpec) :=
  OpenClaim.holds_of_wide 13 Tryz.f13 rfl rfl rfl rfl rfl rfl rfl ⟨rfl, rfl, rfl, rfl, rfl⟩ rfl rfl rfl rfl rfl (by kernel_rfl) Tryz.func13 (by kernel_rfl)
    (of_decide_eq_true (by kernel_rfl)) (by unfold Func.isWrapper; first | (rw [if_pos (by decide +kernel)]; kernel_rfl) | (rw [if_neg (by decide +kernel)]; exact ⟨rfl, rfl⟩))
    (fun os started H enc _ => lifted os started H enc)
end Go.Proofs.YtkdflgaahhnigaaGreat.nameParts
namespace Go.Proofs.YtkdflgaahhnigaaGreat
/-- THE STATEMENT -/
theorem nameParts_holds : Rows.NamePartsSaid := nameParts.over
#print axioms nameParts_holds
end Go.Proofs.YtkdflgaahhnigaaGreat
