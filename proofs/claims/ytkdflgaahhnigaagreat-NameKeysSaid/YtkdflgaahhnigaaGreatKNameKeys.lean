/- NameKeys: the walk. NameKeys: for every input the statement returns true, and each argument reads behind the call as it read before. No condition. -/
import Derived.Test.YtkdflgaahhnigaaGreatC12
import Derived.Test.YtkdflgaahhnigaaGreatC18
import Derived.ProofKit
import Derived.OpenShut
import Derived.ShutString
import Derived.ChangeOld
import Derived.Below
import Derived.Lib.SmallJoins
import Derived.Deep.Slices
set_option linter.unusedVariables false
set_option linter.unusedSimpArgs false
namespace Go.Proofs.YtkdflgaahhnigaaGreat
open Go.RowKit Go.Shelf

set_option maxRecDepth 100000 in
set_option maxHeartbeats 4000000 in
theorem NameKeys_walk (a : Option Addr) (g o c n : Nat) (R : RB) (w : World) (hk : SKn w a g o c n R.cls) (hc : n ≤ c) (x : ByteArray) : Calls Tryz.prog 4 #[rulesV a n c R.soft R.al R.ot R.sk R.ss R.db, .string x] w fun e w' => e = .returned (.bool true) ∧ Below w.heap.size w w' := by
  have C17 := Lib.hid (fun W b (hW : Below w.heap.size w W) (hb : Blk W b #[.string x] 9) => Thin17 a g o c n R W hk.1 (hk.2.1.below hW) (some ⟨b, 0, none⟩) b 0 1 1 [x] rfl (sk1 hb))
  cases hr : thinB R [x] with
  | false =>
    rw [hr] at C17
    have s0 := ((KS.start w).new (rulesC a n c R.soft R.al R.ot R.sk R.ss R.db) 24)
    obtain ⟨kb0_0, kb0_1, kb0_2, kb0_3, kb0_4, kb0_5, kb0_6⟩ := (s0.blkAt 0 rfl).c7
    have S0 := Lib.hid s0
    clear s0 hr hk hc
    go_enter Tryz.func4, Tryz.ntmps4
    go_wp2_with fail
    refine (C17.out _ (w.heap.size + 1) ((S0.out.bel).alloc S0.out.size _) (two_new w _ _ _ _).2.1).mono ?_
    rintro e w1 ⟨rfl, hb⟩
    have S1 := Lib.hid ((S0.out.alloc (.cells #[.string x] 9)).below hb)
    clear hb
    go_wp2_with (go_at_call 18; (refine (awake_any _).mono ?_); rintro e wA ⟨rfl, hbA⟩; have SA := Lib.hid (S1.out.bel.trans (hbA.mono S1.out.bel.size)); clear hbA)
    go_ret
    exact ⟨rfl, SA.out⟩
  | true =>
    have ht := thin_thn hr
    have hl := thin_l hr
    have hx := hl.2 x (by simp)
    have hxy : ∀ z, z ∈ [x] → z.size ≤ 1000 := fun z hz => by have := hl.2 z hz; omega
    rw [hr] at C17
    have hnn := hk.1
    have hn1000 : R.cls.length ≤ 900 := by
      simp only [thinB, Bool.and_eq_true] at hr
      have := (shB_len hr.1).1; omega
    have C20 := Lib.hid (fun W (hW : Below w.heap.size w W) => Rules20 a g o c n R W (hk.below hW) (by omega))
    have C22 := Lib.hid (fun W b (hW : Below w.heap.size w W) (hb : Blk W b #[.string x] 9) => fault22 a g o c n R W hk.1 (hk.2.1.below hW) ht (some ⟨b, 0, none⟩) b 0 1 1 [x] rfl (sk1 hb) (by omega) hxy)
    have HT := Lib.hid ht
    have HN := Lib.hid hk.1
    have hx' : x.size ≤ 1000 := by omega
    have HSKN := Lib.hid hk
    have s0 := ((KS.start w).new (rulesC a n c R.soft R.al R.ot R.sk R.ss R.db) 24)
    obtain ⟨kb0_0, kb0_1, kb0_2, kb0_3, kb0_4, kb0_5, kb0_6⟩ := (s0.blkAt 0 rfl).c7
    have S0 := Lib.hid s0
    clear s0 hr hk hc hl hx hxy hnn hn1000 ht
    go_enter Tryz.func4, Tryz.ntmps4
    go_wp2_with fail
    refine (C17.out _ (w.heap.size + 1) ((S0.out.bel).alloc S0.out.size _) (two_new w _ _ _ _).2.1).mono ?_
    rintro e w1 ⟨rfl, hb⟩
    clear kb0_0 kb0_1 kb0_2 kb0_3 kb0_4 kb0_5 kb0_6
    have s1 := (S0.out.alloc (.cells #[.string x] 9)).below hb
    obtain ⟨kb0_0, kb0_1, kb0_2, kb0_3, kb0_4, kb0_5, kb0_6⟩ := (s1.blkAt 0 rfl).c7
    have S1 := Lib.hid s1
    clear hb s1
    go_wp2_with fail
    refine (C20.out _ S1.out.bel).mono ?_
    rintro e w2 ⟨a2, g2, c2, rfl, hsk, hle2, hb⟩
    have HK2 := Lib.hid hsk
    clear hsk
    clear kb0_0 kb0_1 kb0_2 kb0_3 kb0_4 kb0_5 kb0_6
    have s2 := S1.out.below hb
    obtain ⟨kb0_0, kb0_1, kb0_2, kb0_3, kb0_4, kb0_5, kb0_6⟩ := (s2.blkAt 0 rfl).c7
    have S2 := Lib.hid s2
    clear hb s2
    go_wp2_with fail
    refine (Key_any a2 g2 0 c2 n R _ HN.out HK2.out hle2 HT.out x hx').mono ?_
    rintro e w3 ⟨rfl, hb⟩
    clear kb0_0 kb0_1 kb0_2 kb0_3 kb0_4 kb0_5 kb0_6
    have s3 := S2.out.below hb
    obtain ⟨kb0_0, kb0_1, kb0_2, kb0_3, kb0_4, kb0_5, kb0_6⟩ := (s3.blkAt 0 rfl).c7
    have S3 := Lib.hid s3
    clear hb s3
    go_wp2_with fail
    refine (C22.out _ w3.heap.size (S3.out.bel.alloc S3.out.size _) (Blk.new w3 _ _)).mono ?_
    rintro e w4 ⟨rfl, hb⟩
    clear kb0_0 kb0_1 kb0_2 kb0_3 kb0_4 kb0_5 kb0_6
    have s4 := (S3.out.alloc (.cells #[.string x] 9)).below hb
    obtain ⟨kb0_0, kb0_1, kb0_2, kb0_3, kb0_4, kb0_5, kb0_6⟩ := (s4.blkAt 0 rfl).c7
    have S4 := Lib.hid s4
    clear hb s4
    by_cases h0 : chkN R [x] = 0
    · have hcv : keyV R x = keyR R x.data.toList := by unfold keyV; rw [if_pos h0]
      rw [hcv, h0]
      obtain ⟨hgd, hxy⟩ := chkN_ok h0
      have hxs := hxy x (by simp)
      have hpos : 0 < x.size := by
        rcases Nat.eq_zero_or_pos x.size with h | h
        · have := spB_not_empty h; rw [hxs.2] at this; cases this
        · exact h
      have C26 := Lib.hid (fun W (hW : Below w.heap.size w W) => rKey26 a g o c n R W HSKN.out.1 (HSKN.out.2.1.below hW) hgd HT.out x hpos hxs.1)
      clear hcv hgd hxy h0 hxs hpos
      generalize keyR R x.data.toList = kv at *
      go_wp2_with (first | (go_at_call 26; (refine (C26.out _ S4.out.bel).mono ?_); rintro e wS ⟨rfl, hb⟩; have S4 := Lib.hid (S4.out.below hb); clear hb) | (go_at_call 18; (refine (awake_any _).mono ?_); rintro e wA ⟨rfl, hbA⟩; have SA := Lib.hid (S4.out.bel.trans (hbA.mono S4.out.bel.size)); clear hbA))
      go_ret
      exact ⟨rfl, SA.out⟩
    · have hcv : keyV R x = [] := by unfold keyV; rw [if_neg h0]
      rw [hcv]
      generalize chkN R [x] = v at *
      have t0 : ((v : Int) == 0) = false := by rw [beq_eq_false_iff_ne]; omega
      have t1 : ((v : Int) != 0) = true := by rw [bne, t0]; rfl
      clear hcv h0
      go_wp2_with (first | (go_at_call 18; (refine (awake_any _).mono ?_); rintro e wA ⟨rfl, hbA⟩; have SA := Lib.hid (S4.out.bel.trans (hbA.mono S4.out.bel.size)); clear hbA))
      go_ret
      exact ⟨rfl, SA.out⟩
end Go.Proofs.YtkdflgaahhnigaaGreat

namespace Go.Proofs.YtkdflgaahhnigaaGreat.nameKeys
open Go.ChangeShapes Go.WideShapes Go.ChangeAt Go.RowKit Go.Joins Go.Deep
open Go.ChangeMaps (open_string)

theorem own : ownKnob Tryz.prog.godebug = none := by kernel_rfl
theorem laidOut : laidOutB Tryz.prog = true := by kernel_rfl

set_option maxRecDepth 100000 in
theorem lifted (os : Os) (started : os.Started) (H : Type) (enc : TypeId × Value → H) :
    ReturnsInHanded {} Tryz.checked os 4 .any (Rows.nameKeysSpec.pre6 enc Tryz.prog Tryz.f4 Rows.nameKeysRow.domain false) (Rows.nameKeysSpec.post enc Tryz.prog Tryz.f4 false true false false) := by
  refine returnsInHanded_of_change (C := Tryz.checked) own started (by kernel_rfl) Tryz.func4
    (ChangeSpec.witness6 (enc := enc) (C := Tryz.checked) false ⟨#[], #[.agg #[.slice none 0 0, .string ⟨#[]⟩, .int .i64 0, .int .i64 0, .int .i64 0, .int .i64 0, .int .i64 0], .string ⟨#[]⟩], []⟩ 8 (by kernel_rfl) (by kernel_rfl) (by kernel_rfl) (by kernel_rfl)) ?_
  intro W base args ds gs before hval0 hW hcnd _
  have hval : ∀ (j : Nat) t v, Tryz.f4.params[j]? = some t → args[j]? = some v → Value.okWide Tryz.prog W .any base t v := hval0
  have hW' := hW
  obtain ⟨p, q, hA0, hV, rfl, hfz, hnd⟩ := hW
  have hA : DataW.TrodAll enc Tryz.prog W 0 (fun _ => true) true Tryz.f4.params.toList args.toList ds p := hA0
  rw [Tryz.params4] at hA hval
  obtain ⟨v0, vs0, d0, ds0, p0, q0, hargs, rfl, rfl, h0, r0⟩ := trodAll_cons hA
  obtain ⟨v1, vs1, d1, ds1, p1, q1, rfl, rfl, rfl, h1, r1⟩ := trodAll_cons r0
  obtain ⟨rfl, rfl, rfl⟩ := trodAll_nil r1
  obtain rfl : args = #[v0, v1] := by cases args; simp_all
  obtain ⟨rfl, rfl⟩ := trodVars_none hV
  have k0 := h0
  have lt0 : ∀ x ∈ p0, x.block < W.heap.size := by obtain ⟨m, hm⟩ := k0; exact DataW.trod_lt m _ _ _ hm
  obtain ⟨a0, n0, c0, g0, o0, R0, rfl, sk0, hc0⟩ := open_rules (hval 0 24 v0 rfl rfl) h0
  have k1 := h1
  have lt1 : ∀ x ∈ p1, x.block < W.heap.size := by obtain ⟨m, hm⟩ := k1; exact DataW.trod_lt m _ _ _ hm
  obtain ⟨s1, rfl, rfl, rfl, w1⟩ := open_string Tryz.underlying9 (hval 1 9 v1 rfl rfl) h1
  clear hA0 hval0
  refine (NameKeys_walk a0 g0 o0 c0 n0 R0 W sk0 hc0 s1).mono fun e W' ⟨he, bel⟩ => ?_
  subst he
  exact ⟨_, rfl, _, _, _, [], _, [], hW', trodAll_mk1 (shut_bool Tryz.underlying4 _), (trodAll_cons_mk (Below.trod laidOut (by kernel_rfl) (of_decide_eq_true (by kernel_rfl)) k0 bel lt0) (trodAll_cons_mk (Below.trod laidOut (by kernel_rfl) (of_decide_eq_true (by kernel_rfl)) k1 bel lt1) trodAll_mk0)), rfl, bel.frame _, fun h => by cases h⟩

theorem over : Rows.nameKeysRow.holds Tryz.pinned (OpenSpec.ofChange Rows.nameKeysSpec) :=
  OpenClaim.holds_of_wide 4 Tryz.f4 rfl rfl rfl rfl rfl rfl rfl ⟨rfl, rfl, rfl, rfl, rfl⟩ rfl rfl rfl rfl rfl (by kernel_rfl) Tryz.func4 (by kernel_rfl)
    (of_decide_eq_true (by kernel_rfl)) (by unfold Func.isWrapper; first | (rw [if_pos (by decide +kernel)]; kernel_rfl) | (rw [if_neg (by decide +kernel)]; exact ⟨rfl, rfl⟩))
    (fun os started H enc _ => lifted os started H enc)
end Go.Proofs.YtkdflgaahhnigaaGreat.nameKeys
namespace Go.Proofs.YtkdflgaahhnigaaGreat
/-- THE STATEMENT -/
theorem nameKeys_holds : Rows.NameKeysSaid := nameKeys.over
#print axioms nameKeys_holds
end Go.Proofs.YtkdflgaahhnigaaGreat
