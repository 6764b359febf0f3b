/- NameGroups: the walk. NameGroups: for every input the statement returns true, and each argument reads behind the call as it read before. No condition. -/
import Derived.Test.YtkdflgaahhnigaaGreatC20
import Derived.Test.YtkdflgaahhnigaaGreatC21
import Derived.Test.YtkdflgaahhnigaaGreatC12
import Derived.ProofKit
import Derived.OpenShut
import Derived.ShutString
import Derived.ChangeOld
import Derived.Below
import Derived.Lib.SmallJoins
import Derived.Deep.Slices
set_option linter.unusedVariables false
set_option linter.unusedSimpArgs false
namespace Go.Proofs.YtkdflgaahhnigaaGreat
open Go.RowKit Go.Shelf

theorem lst_chk2 {R : RB} {ys : List ByteArray} (h : lstN R ys [] = 0) : ys.length ≤ 12 ∧ Good R ∧ NmsOk ys := by
  unfold lstN at h
  by_cases h12 : 12 < ys.length
  · rw [if_pos h12] at h; cases h
  · rw [if_neg h12, List.append_nil] at h
    exact ⟨by omega, (chkN_ok h).1, (chkN_ok h).2⟩
set_option maxRecDepth 100000 in
set_option maxHeartbeats 8000000 in
theorem NameGroups_walk (a : Option Addr) (g o c n : Nat) (R : RB) (w : World) (hk : SKn w a g o c n R.cls) (hc : n ≤ c) (an : Option Addr) (gn on cn m : Nat) (ys : List ByteArray) (hkn : SKn w an gn on cn m ys) (hcm : m ≤ cn) (lim : Int) (hlim : (Lit.int .i64 lim).wf = true) : Calls Tryz.prog 12 #[rulesV a n c R.soft R.al R.ot R.sk R.ss R.db, .slice an m cn, .int .i64 lim] w fun e w' => e = .returned (.bool true) ∧ Below w.heap.size w w' := by
  have C17 := Lib.hid (fun W (hW : Below w.heap.size w W) => Thin17 a g o c n R W hk.1 (hk.2.1.below hW) an gn on cn m ys hkn.1 (hkn.2.1.below hW))
  cases hr : thinB R ys with
  | false =>
    rw [hr] at C17
    have s0 := ((KS.start w).new (rulesC a n c R.soft R.al R.ot R.sk R.ss R.db) 24)
    obtain ⟨kb0_0, kb0_1, kb0_2, kb0_3, kb0_4, kb0_5, kb0_6⟩ := (s0.blkAt 0 rfl).c7
    have S0 := Lib.hid s0
    clear s0 hr hk hc hkn hcm hlim
    go_enter Tryz.func12, Tryz.ntmps12
    go_wp2_with fail
    refine (C17.out _ S0.out.bel).mono ?_
    rintro e w1 ⟨rfl, hb⟩
    have S1 := Lib.hid (S0.out.below hb)
    clear hb
    go_wp2_with (go_at_call 18; (refine (awake_any _).mono ?_); rintro e wA ⟨rfl, hbA⟩; have SA := Lib.hid (S1.out.bel.trans (hbA.mono S1.out.bel.size)); clear hbA)
    go_ret
    exact ⟨rfl, SA.out⟩
  | true =>
    rw [hr] at C17
    have ht := thin_thn hr
    obtain ⟨hl15, hl40⟩ := thin_l hr
    have hn900 : R.cls.length ≤ 900 := by
      simp only [thinB, Bool.and_eq_true] at hr
      have := (shB_len hr.1).1; omega
    have hnn := hk.1
    have hmm := hkn.1
    have hl1000 : ∀ y, y ∈ ys → y.size ≤ 1000 := fun z hz => by have := hl40 z hz; omega
    have C20 := Lib.hid (fun W (hW : Below w.heap.size w W) => Rules20 a g o c n R W (hk.below hW) (by omega))
    have C28 := Lib.hid (fun W (hW : Below w.heap.size w W) => list28' an gn on cn m ys W (hkn.below hW) (by omega))
    have C29 := Lib.hid (fun W (hW : Below w.heap.size w W) => listed29_nil a g o c n R W hk.1 (hk.2.1.below hW) ht an gn on cn m ys (hkn.below hW) (by omega) (by simpa using hl1000))
    have HT := Lib.hid ht
    have HN := Lib.hid hk.1
    have HLL := Lib.hid hl1000
    have HSK := Lib.hid hk
    have HKN := Lib.hid hkn
    have HMM := Lib.hid hmm
    have hm15 : m ≤ 15 := by omega
    have hm900 : m ≤ 900 := by omega
    have C30 := Lib.hid (fun W => rIn_any lim 0 5000 W)
    have s0 := ((KS.start w).new (rulesC a n c R.soft R.al R.ot R.sk R.ss R.db) 24)
    obtain ⟨kb0_0, kb0_1, kb0_2, kb0_3, kb0_4, kb0_5, kb0_6⟩ := (s0.blkAt 0 rfl).c7
    have S0 := Lib.hid s0
    clear s0 hr hk hc hkn hcm ht hl15 hl40 hn900 hnn hmm hl1000 hlim
    go_enter Tryz.func12, Tryz.ntmps12
    go_wp2_with fail
    refine (C17.out _ S0.out.bel).mono ?_
    rintro e w1 ⟨rfl, hb⟩
    clear kb0_0 kb0_1 kb0_2 kb0_3 kb0_4 kb0_5 kb0_6
    have s1 := S0.out.below hb
    obtain ⟨kb0_0, kb0_1, kb0_2, kb0_3, kb0_4, kb0_5, kb0_6⟩ := (s1.blkAt 0 rfl).c7
    have S1 := Lib.hid s1
    clear hb s1
    go_wp2_with fail
    refine (C20.out _ S1.out.bel).mono ?_
    rintro e w2 ⟨a2, g2, c2, rfl, hsk, hle2, hb⟩
    have HK2 := Lib.hid hsk
    clear hsk
    clear kb0_0 kb0_1 kb0_2 kb0_3 kb0_4 kb0_5 kb0_6
    have s2 := S1.out.below hb
    obtain ⟨kb0_0, kb0_1, kb0_2, kb0_3, kb0_4, kb0_5, kb0_6⟩ := (s2.blkAt 0 rfl).c7
    have S2 := Lib.hid s2
    clear hb s2
    go_wp2_with fail
    refine (C28.out _ S2.out.bel).mono ?_
    rintro e w3 ⟨b3, d3, e3, rfl, hsl, hll3, hb⟩
    have HL3 := Lib.hid hsl
    clear hsl
    have HR3 := Lib.hid (HK2.out.below hb)
    clear kb0_0 kb0_1 kb0_2 kb0_3 kb0_4 kb0_5 kb0_6
    have s3 := S2.out.below hb
    obtain ⟨kb0_0, kb0_1, kb0_2, kb0_3, kb0_4, kb0_5, kb0_6⟩ := (s3.blkAt 0 rfl).c7
    have S3 := Lib.hid s3
    clear hb s3
    go_wp2_with fail
    refine (Groups_any a2 g2 0 c2 n R _ HN.out HR3.out hle2 HT.out b3 d3 0 e3 m ys HL3.out hll3 hm900 HLL.out lim).mono ?_
    rintro e w4 ⟨⟨v, rfl, hT⟩, hb⟩
    obtain ⟨qa, ca, rfl⟩ := lenV hT
    have T4 := Lib.hid hT
    clear hT
    clear kb0_0 kb0_1 kb0_2 kb0_3 kb0_4 kb0_5 kb0_6
    have s4 := S3.out.below hb
    obtain ⟨kb0_0, kb0_1, kb0_2, kb0_3, kb0_4, kb0_5, kb0_6⟩ := (s4.blkAt 0 rfl).c7
    have S4 := Lib.hid s4
    clear hb s4
    go_wp2_with fail
    refine (C29.out _ S4.out.bel).mono ?_
    rintro e w5 ⟨rfl, hb⟩
    have T5 := Lib.hid (T4.out.below hb)
    clear kb0_0 kb0_1 kb0_2 kb0_3 kb0_4 kb0_5 kb0_6
    have s5 := S4.out.below hb
    obtain ⟨kb0_0, kb0_1, kb0_2, kb0_3, kb0_4, kb0_5, kb0_6⟩ := (s5.blkAt 0 rfl).c7
    have S5 := Lib.hid s5
    clear hb s5
    clear T4
    by_cases h0 : lstN R ys [] = 0
    · cases hb : inB lim 0 5000 with
      | false =>
        have hE : groupsE R ys lim = 2 := by unfold groupsE; rw [if_pos h0, hb]; rfl
        have hX : groupsV R ys lim = [] := by unfold groupsV; rw [if_neg (by omega)]
        rw [hb] at C30
        rw [hE, hX, h0]
        clear hE hX h0 hb
        go_wp2_with (first | (go_at_call 30; (with_reducible refine (C30.out _).mono ?_); rintro e w9 ⟨rfl, rfl⟩) | (go_at_call 18; (refine (awake_any _).mono ?_); rintro e wA ⟨rfl, hbA⟩; have SA := Lib.hid (S5.out.bel.trans (hbA.mono S5.out.bel.size)); clear hbA))
        go_ret
        exact ⟨rfl, SA.out⟩
      | true =>
        have hE : groupsE R ys lim = 0 := by unfold groupsE; rw [if_pos h0, hb]; rfl
        have hX : groupsV R ys lim = grpL R ys lim.toNat := by unfold groupsV; rw [if_pos hE]
        rw [hb] at C30
        obtain ⟨hm12, hgd, hny⟩ := lst_chk2 h0
        rw [hX] at T5 ⊢
        rw [hE, h0]
        obtain ⟨hl0, hl5⟩ := inB_iff.1 hb
        obtain ⟨L, rfl⟩ := Int.eq_ofNat_of_zero_le hl0
        have C35 := Lib.hid (fun W (hW : Below w.heap.size w W) => Groups35 a g o c n R W HN.out (HSK.out.2.1.below hW) hgd HT.out an gn on cn m ys (HKN.out.below hW) (by have := HMM.out; omega) hny L)
        obtain ⟨r1, r2⟩ := grpL_rows R ys L
        have HRL := Lib.hid (show (∀ r, r ∈ grpL R ys L → r.length ≤ 1000) ∧ (grpL R ys L).length ≤ 1000 from ⟨fun r hr => by have := (r2 r hr).2; omega, by omega⟩)
        rw [show ((L : Int)).toNat = L by simp] at T5 ⊢
        generalize grpL R ys L = gl at *
        clear hE hX h0 hb hl0 hl5 hm12 hgd hny r1 r2
        go_wp2_with (first | (go_at_call 30; (with_reducible refine (C30.out _).mono ?_); rintro e w9 ⟨rfl, rfl⟩) | (go_at_call 35; (refine (C35.out _ S5.out.bel).mono ?_); rintro e wS ⟨v2, rfl, hT2, hbS⟩; have TA := Lib.hid (T5.out.below hbS); have TB := Lib.hid hT2; have SS := Lib.hid (S5.out.below hbS); clear hT2 hbS) | (go_at_call 40; (refine (rows40 _ _ _ _ gl _ TA.out TB.out HRL.out.1 HRL.out.2).mono ?_); rintro e wR ⟨rfl, hbR⟩; have SR := Lib.hid (SS.out.below hbR); clear hbR) | (go_at_call 18; (refine (awake_any _).mono ?_); rintro e wA ⟨rfl, hbA⟩; have SA := Lib.hid (SR.out.bel.trans (hbA.mono SR.out.bel.size)); clear hbA))
        go_ret
        exact ⟨rfl, SA.out⟩
    · have hE : groupsE R ys lim = lstN R ys [] := by unfold groupsE; rw [if_neg h0]
      have hX : groupsV R ys lim = [] := by unfold groupsV; rw [if_neg (by rw [hE]; exact h0)]
      rw [hE, hX]
      generalize lstN R ys [] = v at *
      have t0 : ((v : Int) == 0) = false := by rw [beq_eq_false_iff_ne]; omega
      have t1 : ((v : Int) != 0) = true := by rw [bne, t0]; rfl
      clear hE hX h0
      go_wp2_with (first | (go_at_call 18; (refine (awake_any _).mono ?_); rintro e wA ⟨rfl, hbA⟩; have SA := Lib.hid (S5.out.bel.trans (hbA.mono S5.out.bel.size)); clear hbA))
      go_ret
      exact ⟨rfl, SA.out⟩
end Go.Proofs.YtkdflgaahhnigaaGreat

namespace Go.Proofs.YtkdflgaahhnigaaGreat.nameGroups
open Go.ChangeShapes Go.WideShapes Go.ChangeAt Go.RowKit Go.Joins Go.Deep
open Go.ChangeMaps (open_string)

theorem own : ownKnob Tryz.prog.godebug = none := by kernel_rfl
theorem laidOut : laidOutB Tryz.prog = true := by kernel_rfl

set_option maxRecDepth 100000 in
theorem lifted (os : Os) (started : os.Started) (H : Type) (enc : TypeId × Value → H) :
    ReturnsInHanded {} Tryz.checked os 12 .any (Rows.nameGroupsSpec.pre6 enc Tryz.prog Tryz.f12 Rows.nameGroupsRow.domain false) (Rows.nameGroupsSpec.post enc Tryz.prog Tryz.f12 false true false false) := by
  refine returnsInHanded_of_change (C := Tryz.checked) own started (by kernel_rfl) Tryz.func12
    (ChangeSpec.witness6 (enc := enc) (C := Tryz.checked) false ⟨#[], #[.agg #[.slice none 0 0, .string ⟨#[]⟩, .int .i64 0, .int .i64 0, .int .i64 0, .int .i64 0, .int .i64 0], .slice none 0 0, .int .i64 0], []⟩ 8 (by kernel_rfl) (by kernel_rfl) (by kernel_rfl) (by kernel_rfl)) ?_
  intro W base args ds gs before hval0 hW hcnd _
  have hval : ∀ (j : Nat) t v, Tryz.f12.params[j]? = some t → args[j]? = some v → Value.okWide Tryz.prog W .any base t v := hval0
  have hW' := hW
  obtain ⟨p, q, hA0, hV, rfl, hfz, hnd⟩ := hW
  have hA : DataW.TrodAll enc Tryz.prog W 0 (fun _ => true) true Tryz.f12.params.toList args.toList ds p := hA0
  rw [Tryz.params12] at hA hval
  obtain ⟨v0, vs0, d0, ds0, p0, q0, hargs, rfl, rfl, h0, r0⟩ := trodAll_cons hA
  obtain ⟨v1, vs1, d1, ds1, p1, q1, rfl, rfl, rfl, h1, r1⟩ := trodAll_cons r0
  obtain ⟨v2, vs2, d2, ds2, p2, q2, rfl, rfl, rfl, h2, r2⟩ := trodAll_cons r1
  obtain ⟨rfl, rfl, rfl⟩ := trodAll_nil r2
  obtain rfl : args = #[v0, v1, v2] := by cases args; simp_all
  obtain ⟨rfl, rfl⟩ := trodVars_none hV
  have k0 := h0
  have lt0 : ∀ x ∈ p0, x.block < W.heap.size := by obtain ⟨m, hm⟩ := k0; exact DataW.trod_lt m _ _ _ hm
  obtain ⟨a0, n0, c0, g0, o0, R0, rfl, sk0, hc0⟩ := open_rules (hval 0 24 v0 rfl rfl) h0
  have k1 := h1
  have lt1 : ∀ x ∈ p1, x.block < W.heap.size := by obtain ⟨m, hm⟩ := k1; exact DataW.trod_lt m _ _ _ hm
  obtain ⟨a1, n1, c1, rfl⟩ := okWide_slice Tryz.underlying22 (hval 1 22 v1 rfl rfl)
  obtain ⟨m1, hm1⟩ := h1
  obtain ⟨a1, n1, c1, g1, o1, l1, e1, sk1, hc1⟩ := row_of_strs hm1
  cases e1
  have k2 := h2
  have lt2 : ∀ x ∈ p2, x.block < W.heap.size := by obtain ⟨m, hm⟩ := k2; exact DataW.trod_lt m _ _ _ hm
  obtain ⟨a2, rfl, rfl, rfl, w2⟩ := open_int Tryz.underlying3 (hval 2 3 v2 rfl rfl) h2
  clear hA0 hval0
  refine (NameGroups_walk a0 g0 o0 c0 n0 R0 W sk0 hc0 a1 g1 o1 c1 n1 l1 sk1 hc1 a2 w2).mono fun e W' ⟨he, bel⟩ => ?_
  subst he
  exact ⟨_, rfl, _, _, _, [], _, [], hW', trodAll_mk1 (shut_bool Tryz.underlying4 _), (trodAll_cons_mk (Below.trod laidOut (by kernel_rfl) (of_decide_eq_true (by kernel_rfl)) k0 bel lt0) (trodAll_cons_mk (Below.trod laidOut (by kernel_rfl) (of_decide_eq_true (by kernel_rfl)) k1 bel lt1) (trodAll_cons_mk (Below.trod laidOut (by kernel_rfl) (of_decide_eq_true (by kernel_rfl)) k2 bel lt2) trodAll_mk0))), rfl, bel.frame _, fun h => by cases h⟩

theorem over : Rows.nameGroupsRow.holds Tryz.pinned (OpenSpec.ofChange Rows.nameGroupsSpec) :=
  OpenClaim.holds_of_wide 12 Tryz.f12 rfl rfl rfl rfl rfl rfl rfl ⟨rfl, rfl, rfl, rfl, rfl⟩ rfl rfl rfl rfl rfl (by kernel_rfl) Tryz.func12 (by kernel_rfl)
    (of_decide_eq_true (by kernel_rfl)) (by unfold Func.isWrapper; first | (rw [if_pos (by decide +kernel)]; kernel_rfl) | (rw [if_neg (by decide +kernel)]; exact ⟨rfl, rfl⟩))
    (fun os started H enc _ => lifted os started H enc)
end Go.Proofs.YtkdflgaahhnigaaGreat.nameGroups
namespace Go.Proofs.YtkdflgaahhnigaaGreat
/-- THE STATEMENT -/
theorem nameGroups_holds : Rows.NameGroupsSaid := nameGroups.over
#print axioms nameGroups_holds
end Go.Proofs.YtkdflgaahhnigaaGreat
