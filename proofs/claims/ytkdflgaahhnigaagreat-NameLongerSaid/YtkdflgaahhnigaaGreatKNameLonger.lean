/- NameLonger: the walk. NameLonger: for every input the statement returns true, and each argument reads behind the call as it read before. No condition. -/
import Derived.Test.YtkdflgaahhnigaaGreatC12
import Derived.Test.YtkdflgaahhnigaaGreatC10
import Derived.Test.YtkdflgaahhnigaaGreatC13
import Derived.ProofKit
import Derived.OpenShut
import Derived.ShutString
import Derived.ChangeOld
import Derived.Below
import Derived.Lib.SmallJoins
import Derived.Deep.Slices
set_option linter.unusedVariables false
set_option linter.unusedSimpArgs false
namespace Go.Proofs.YtkdflgaahhnigaaGreat
open Go.RowKit Go.Shelf

/-- a letter by a number -/
def letN (by' : Nat) : UInt8 := UInt8.ofNat (65 + by' % 26)
theorem isL_letN (k : Nat) : isL (letN k) = true := by
  unfold isL letN
  have : (UInt8.ofNat (65 + k % 26)).toNat = 65 + k % 26 := by rw [UInt8.toNat_ofNat']; omega
  rw [this]; simp; omega
def oneB (b : UInt8) : ByteArray := ⟨#[b]⟩
theorem spB_app {x : ByteArray} {b : UInt8} (hx : spB x = true) (hb : isL b = true) : spB (x ++ oneB b) = true := by
  simp only [spB, Bool.and_eq_true, List.all_eq_true] at *
  rw [bytes_app]
  refine ⟨by simp [oneB], fun z hz => ?_⟩
  rcases List.mem_append.1 hz with h | h
  · exact hx.2 z h
  · simp [oneB] at h; rw [h]; exact hb
theorem letN_toNat (k : Nat) : (letN k).toNat = 65 + k % 26 := by unfold letN; rw [UInt8.toNat_ofNat']; omega
theorem u8_nat {k : Int} (h : (Lit.int .u8 k).wf = true) : ∃ n : Nat, k = (n : Int) ∧ n < 256 := by
  have h2 : IntKind.u8.min ≤ k ∧ k ≤ IntKind.u8.max := by simpa [Lit.wf] using h
  have h3 : IntKind.u8.min = 0 := rfl
  have h4 : IntKind.u8.max = 255 := rfl
  exact ⟨k.toNat, by omega, by omega⟩
theorem conv_one (b : UInt8) (W : World) : (convert 56 9 (.slice (some ⟨W.heap.size, 0, none⟩) 1 1)).run Tryz.prog (W.alloc (.cells #[.int .u8 (b.toNat : Int)] 5)) = .ok (.string (oneB b)) (W.alloc (.cells #[.int .u8 (b.toNat : Int)] 5)) :=
  conv_key (l := [b]) (World.ownsRow_lit (base := W.heap.size) (e := 5) (size := 1) W #[.int .u8 (b.toNat : Int)] 1 (Nat.le_refl _) (by unfold maxLen; omega) rfl)
set_option maxRecDepth 100000 in
set_option maxHeartbeats 4000000 in
theorem NameLonger_walk (a : Option Addr) (g o c n : Nat) (R : RB) (w : World) (hk : SKn w a g o c n R.cls) (hc : n ≤ c) (x y : ByteArray) (k : Int) (hk8 : (Lit.int .u8 k).wf = true) : Calls Tryz.prog 8 #[rulesV a n c R.soft R.al R.ot R.sk R.ss R.db, .string x, .string y, .int .u8 k] w fun e w' => e = .returned (.bool true) ∧ Below w.heap.size w w' := by
  have C36 := Lib.hid (fun W b (hW : Below w.heap.size w W) (hb : Blk W b #[.string x, .string y] 9) => ready36 a g o c n R W hk.1 (hk.2.1.below hW) (some ⟨b, 0, none⟩) b 0 2 2 [x, y] rfl (sk2 hb))
  cases hr : readyB R [x, y] with
  | false =>
    rw [hr] at C36
    have s0 := ((KS.start w).new (rulesC a n c R.soft R.al R.ot R.sk R.ss R.db) 24)
    obtain ⟨kb0_0, kb0_1, kb0_2, kb0_3, kb0_4, kb0_5, kb0_6⟩ := (s0.blkAt 0 rfl).c7
    have S0 := Lib.hid s0
    clear s0 hr hk hc
    go_enter Tryz.func8, Tryz.ntmps8
    go_wp2_with fail
    refine (C36.out _ (w.heap.size + 1) ((S0.out.bel).alloc S0.out.size _) (two_new w _ _ _ _).2.1).mono ?_
    rintro e w1 ⟨rfl, hb⟩
    have S1 := Lib.hid ((S0.out.alloc (.cells #[.string x, .string y] 9)).below hb)
    clear hb
    go_wp2_with (go_at_call 18; (refine (awake_any _).mono ?_); rintro e wA ⟨rfl, hbA⟩; have SA := Lib.hid (S1.out.bel.trans (hbA.mono S1.out.bel.size)); clear hbA)
    go_ret
    exact ⟨rfl, SA.out⟩
  | true =>
    obtain ⟨ht, hn15, hv, _, hl⟩ := ready_parts hr
    have hx := hl x (by simp)
    have hy := hl y (by simp)
    rw [hr] at C36
    have hnn := hk.1
    have C20 := Lib.hid (fun W (hW : Below w.heap.size w W) => Rules20 a g o c n R W (hk.below hW) (by omega))
    have HT := Lib.hid ht
    have HN := Lib.hid hk.1
    have HV := Lib.hid hv
    have hx' : x.size ≤ 1000 := by omega
    have hy' : y.size ≤ 1000 := by omega
    have s0 := ((KS.start w).new (rulesC a n c R.soft R.al R.ot R.sk R.ss R.db) 24)
    obtain ⟨kb0_0, kb0_1, kb0_2, kb0_3, kb0_4, kb0_5, kb0_6⟩ := (s0.blkAt 0 rfl).c7
    have S0 := Lib.hid s0
    obtain ⟨kn, rfl, hkn⟩ := u8_nat hk8
    have hall := (chkN_ok hv).2
    have hgood := (chkN_ok hv).1
    by_cases h11 : x.size ≤ 11 ∧ y.size ≤ 11
    · have pz : ¬ (11 : Int) < (x.size : Int) := by omega
      have pz2 : ¬ (11 : Int) < (y.size : Int) := by omega
      have hL := isL_letN kn
      have hvl : chkN R [x ++ oneB (letN kn), y] = 0 := chkN_intro hgood fun z hz => by
        simp at hz
        rcases hz with rfl | rfl
        · exact ⟨by rw [size_app1 _ _ rfl]; omega, spB_app (hall x (by simp)).2 hL⟩
        · exact hall _ (by simp)
      have hvb : chkN R [x ++ oneB (letN kn), y ++ oneB (letN kn)] = 0 := chkN_intro hgood fun z hz => by
        simp at hz
        rcases hz with rfl | rfl
        · exact ⟨by rw [size_app1 _ _ rfl]; omega, spB_app (hall x (by simp)).2 hL⟩
        · exact ⟨by rw [size_app1 _ _ rfl]; omega, spB_app (hall y (by simp)).2 hL⟩
      have hc1 := cR_longer R x y (oneB (letN kn)) rfl
      have hc2 := cR_both R x y (oneB (letN kn)) rfl
      have hsk := skI_nat hgood (x ++ oneB (letN kn)) x.size
      have hc3 : ((cR R (x ++ oneB (letN kn)) y 0 0 : Nat) : Int) ≤ (cR R x y 0 0 : Nat) + skI R (x ++ oneB (letN kn)) x.size := by omega
      have HC2 := Lib.hid hc2
      clear hc1 hc2 hsk
      have HVL := Lib.hid hvl
      have HVB := Lib.hid hvb
      have hxa : (x ++ oneB (letN kn)).size ≤ 1000 := by rw [size_app1 _ _ rfl]; omega
      have hya : (y ++ oneB (letN kn)).size ≤ 1000 := by rw [size_app1 _ _ rfl]; omega
      have hxl : x.size < (x ++ oneB (letN kn)).size := by rw [size_app1 _ _ rfl]; omega
      obtain ⟨sI, hsI⟩ : ∃ sI, sI = skI R (x ++ oneB (letN kn)) x.size := ⟨_, rfl⟩
      have CS := Lib.hid (fun W => (show Calls Tryz.prog 37 #[rulesV a n c R.soft R.al R.ot R.sk R.ss R.db, .string (x ++ oneB (letN kn)), .int .i64 (x.size : Int)] W fun e w' => e = .returned (.int .i64 sI) ∧ Below W.heap.size W w' by rw [hsI]; exact skip_any a n c R.soft R.al R.ot R.sk R.ss R.db ht.2.2 (x ++ oneB (letN kn)) hxa x.size hxl W))
      have HB1 := Lib.hid (cR_le hgood hx hy 0 0)
      have HB2 := Lib.hid (show 0 ≤ sI ∧ sI ≤ 100 by
        have h := skI_nat hgood (x ++ oneB (letN kn)) x.size
        have h2 := skN_le R.soft R.sk.toNat R.ss.toNat R.db.toNat (x ++ oneB (letN kn)).data.toList x.size (by have := hgood.cos; omega) (by have := hgood.cos; omega) (by have := hgood.cos; omega)
        rw [hsI, h]; unfold SA; omega)
      rw [← hsI] at hc3
      have HC3 := Lib.hid hc3
      have qa : ¬ 9223372036854775807 < x.size + (oneB (letN kn)).size := by rw [show (oneB (letN kn)).size = 1 from rfl]; omega
      have qb : ¬ 9223372036854775807 < y.size + (oneB (letN kn)).size := by rw [show (oneB (letN kn)).size = 1 from rfl]; omega
      have hconv : ∀ W : World, (convert 56 9 (.slice (some ⟨W.heap.size, 0, none⟩) 1 1)).run Tryz.prog (W.alloc (.cells #[.int .u8 (65 + (kn : Int) % 26)] 5)) = .ok (.string (oneB (letN kn))) (W.alloc (.cells #[.int .u8 (65 + (kn : Int) % 26)] 5)) := fun W => by
        have h := conv_one (letN kn) W
        rw [show (((letN kn).toNat : Nat) : Int) = 65 + (kn : Int) % 26 by rw [letN_toNat]; omega] at h
        exact h
      generalize letN kn = ch at *
      clear s0 hr hk hc ht hn15 hv hl hx hy hnn hall hgood hvl hvb hk8 hL h11 hc3 hsI
      go_enter Tryz.func8, Tryz.ntmps8
      go_wp2_with fail
      refine (C36.out _ (w.heap.size + 1) ((S0.out.bel).alloc S0.out.size _) (two_new w _ _ _ _).2.1).mono ?_
      rintro e w1 ⟨rfl, hb⟩
      clear kb0_0 kb0_1 kb0_2 kb0_3 kb0_4 kb0_5 kb0_6
      have s1 := (S0.out.alloc (.cells #[.string x, .string y] 9)).below hb
      obtain ⟨kb0_0, kb0_1, kb0_2, kb0_3, kb0_4, kb0_5, kb0_6⟩ := (s1.blkAt 0 rfl).c7
      have S1 := Lib.hid s1
      clear hb s1
      clear kb0_0 kb0_1 kb0_2 kb0_3 kb0_4 kb0_5 kb0_6
      have s2 := S1.out.alloc (.cells #[.int .u8 (65 + (kn : Int) % 26)] 5)
      obtain ⟨kb0_0, kb0_1, kb0_2, kb0_3, kb0_4, kb0_5, kb0_6⟩ := (s2.blkAt 0 rfl).c7
      have S2 := Lib.hid s2
      clear s2
      go_wp2_with fail
      refine (C20.out _ S2.out.bel).mono ?_
      rintro e w3 ⟨a3, g3, c3, rfl, hsk, hle3, hb⟩
      have HK3 := Lib.hid hsk
      clear hsk
      clear kb0_0 kb0_1 kb0_2 kb0_3 kb0_4 kb0_5 kb0_6
      have s3 := S2.out.below hb
      obtain ⟨kb0_0, kb0_1, kb0_2, kb0_3, kb0_4, kb0_5, kb0_6⟩ := (s3.blkAt 0 rfl).c7
      have S3 := Lib.hid s3
      clear hb s3
      go_wp2_with fail
      refine (Cost_good a3 g3 0 c3 n R _ HN.out HK3.out hle3 HT.out x y hx' hy' HV.out).mono ?_
      rintro e w4 ⟨rfl, hb⟩
      clear kb0_0 kb0_1 kb0_2 kb0_3 kb0_4 kb0_5 kb0_6
      have s4 := S3.out.below hb
      obtain ⟨kb0_0, kb0_1, kb0_2, kb0_3, kb0_4, kb0_5, kb0_6⟩ := (s4.blkAt 0 rfl).c7
      have S4 := Lib.hid s4
      clear hb s4
      go_wp2_with fail
      refine (C20.out _ S4.out.bel).mono ?_
      rintro e w5 ⟨a5, g5, c5, rfl, hsk, hle5, hb⟩
      have HK5 := Lib.hid hsk
      clear hsk
      clear kb0_0 kb0_1 kb0_2 kb0_3 kb0_4 kb0_5 kb0_6
      have s5 := S4.out.below hb
      obtain ⟨kb0_0, kb0_1, kb0_2, kb0_3, kb0_4, kb0_5, kb0_6⟩ := (s5.blkAt 0 rfl).c7
      have S5 := Lib.hid s5
      clear hb s5
      go_wp2_with fail
      refine (Cost_good a5 g5 0 c5 n R _ HN.out HK5.out hle5 HT.out (x ++ oneB ch) y hxa hy' HVL.out).mono ?_
      rintro e w6 ⟨rfl, hb⟩
      clear kb0_0 kb0_1 kb0_2 kb0_3 kb0_4 kb0_5 kb0_6
      have s6 := S5.out.below hb
      obtain ⟨kb0_0, kb0_1, kb0_2, kb0_3, kb0_4, kb0_5, kb0_6⟩ := (s6.blkAt 0 rfl).c7
      have S6 := Lib.hid s6
      clear hb s6
      go_wp2_with fail
      refine (C20.out _ S6.out.bel).mono ?_
      rintro e w7 ⟨a7, g7, c7, rfl, hsk, hle7, hb⟩
      have HK7 := Lib.hid hsk
      clear hsk
      clear kb0_0 kb0_1 kb0_2 kb0_3 kb0_4 kb0_5 kb0_6
      have s7 := S6.out.below hb
      obtain ⟨kb0_0, kb0_1, kb0_2, kb0_3, kb0_4, kb0_5, kb0_6⟩ := (s7.blkAt 0 rfl).c7
      have S7 := Lib.hid s7
      clear hb s7
      go_wp2_with fail
      refine (Cost_good a7 g7 0 c7 n R _ HN.out HK7.out hle7 HT.out (x ++ oneB ch) (y ++ oneB ch) hxa hya HVB.out).mono ?_
      rintro e w8 ⟨rfl, hb⟩
      clear kb0_0 kb0_1 kb0_2 kb0_3 kb0_4 kb0_5 kb0_6
      have s8 := S7.out.below hb
      obtain ⟨kb0_0, kb0_1, kb0_2, kb0_3, kb0_4, kb0_5, kb0_6⟩ := (s8.blkAt 0 rfl).c7
      have S8 := Lib.hid s8
      clear hb s8
      have p1 := HC3.out
      have p2 : ((cR R (x ++ oneB ch) (y ++ oneB ch) 0 0 : Nat) : Int) ≤ (cR R x y 0 0 : Nat) := Int.ofNat_le.2 HC2.out
      have p3 := HB1.out
      have p4 : 0 ≤ sI ∧ sI ≤ 100 := HB2.out
      have e1 : IntKind.i64.wrap (((cR R x y 0 0 : Nat) : Int) + sI) = ((cR R x y 0 0 : Nat) : Int) + sI := IntWalk.i64_in _ (by omega)
      generalize cR R x y 0 0 = u0 at *
      generalize cR R (x ++ oneB ch) y 0 0 = u1 at *
      generalize cR R (x ++ oneB ch) (y ++ oneB ch) 0 0 = u2 at *
      clear p3 p4
      go_wp2_with (first | (go_at_call 37; (refine (CS.out _).mono ?_); rintro e wS ⟨rfl, hb⟩; have S8 := Lib.hid (S8.out.below hb); clear hb) | (go_at_call 18; (refine (awake_any _).mono ?_); rintro e wA ⟨rfl, hbA⟩; have SA := Lib.hid (S8.out.bel.trans (hbA.mono S8.out.bel.size)); clear hbA))
      go_ret
      exact ⟨rfl, SA.out⟩
    · by_cases hx11 : x.size ≤ 11
      · have hy11 : ¬ y.size ≤ 11 := fun h => h11 ⟨hx11, h⟩
        have pz : ¬ (11 : Int) < (x.size : Int) := by omega
        have pz2 : (11 : Int) < (y.size : Int) := by omega
        clear hx11 hy11
        clear s0 hr hk hc ht hn15 hv hl hx hy hnn hall hgood hk8 h11
        go_enter Tryz.func8, Tryz.ntmps8
        go_wp2_with fail
        refine (C36.out _ (w.heap.size + 1) ((S0.out.bel).alloc S0.out.size _) (two_new w _ _ _ _).2.1).mono ?_
        rintro e w1 ⟨rfl, hb⟩
        clear kb0_0 kb0_1 kb0_2 kb0_3 kb0_4 kb0_5 kb0_6
        have s1 := (S0.out.alloc (.cells #[.string x, .string y] 9)).below hb
        obtain ⟨kb0_0, kb0_1, kb0_2, kb0_3, kb0_4, kb0_5, kb0_6⟩ := (s1.blkAt 0 rfl).c7
        have S1 := Lib.hid s1
        clear hb s1
        go_wp2_with (first | (go_at_call 18; (refine (awake_any _).mono ?_); rintro e wA ⟨rfl, hbA⟩; have SA := Lib.hid (S1.out.bel.trans (hbA.mono S1.out.bel.size)); clear hbA))
        go_ret
        exact ⟨rfl, SA.out⟩
      · have pz : (11 : Int) < (x.size : Int) := by omega
        clear hx11
        clear s0 hr hk hc ht hn15 hv hl hx hy hnn hall hgood hk8 h11
        go_enter Tryz.func8, Tryz.ntmps8
        go_wp2_with fail
        refine (C36.out _ (w.heap.size + 1) ((S0.out.bel).alloc S0.out.size _) (two_new w _ _ _ _).2.1).mono ?_
        rintro e w1 ⟨rfl, hb⟩
        clear kb0_0 kb0_1 kb0_2 kb0_3 kb0_4 kb0_5 kb0_6
        have s1 := (S0.out.alloc (.cells #[.string x, .string y] 9)).below hb
        obtain ⟨kb0_0, kb0_1, kb0_2, kb0_3, kb0_4, kb0_5, kb0_6⟩ := (s1.blkAt 0 rfl).c7
        have S1 := Lib.hid s1
        clear hb s1
        go_wp2_with (first | (go_at_call 18; (refine (awake_any _).mono ?_); rintro e wA ⟨rfl, hbA⟩; have SA := Lib.hid (S1.out.bel.trans (hbA.mono S1.out.bel.size)); clear hbA))
        go_ret
        exact ⟨rfl, SA.out⟩
end Go.Proofs.YtkdflgaahhnigaaGreat

namespace Go.Proofs.YtkdflgaahhnigaaGreat.nameLonger
open Go.ChangeShapes Go.WideShapes Go.ChangeAt Go.RowKit Go.Joins Go.Deep
open Go.ChangeMaps (open_string)

theorem own : ownKnob Tryz.prog.godebug = none := by kernel_rfl
theorem laidOut : laidOutB Tryz.prog = true := by kernel_rfl

set_option maxRecDepth 100000 in
theorem lifted (os : Os) (started : os.Started) (H : Type) (enc : TypeId × Value → H) :
    ReturnsInHanded {} Tryz.checked os 8 .any (Rows.nameLongerSpec.pre6 enc Tryz.prog Tryz.f8 Rows.nameLongerRow.domain false) (Rows.nameLongerSpec.post enc Tryz.prog Tryz.f8 false true false false) := by
  refine returnsInHanded_of_change (C := Tryz.checked) own started (by kernel_rfl) Tryz.func8
    (ChangeSpec.witness6 (enc := enc) (C := Tryz.checked) false ⟨#[], #[.agg #[.slice none 0 0, .string ⟨#[]⟩, .int .i64 0, .int .i64 0, .int .i64 0, .int .i64 0, .int .i64 0], .string ⟨#[]⟩, .string ⟨#[]⟩, .int .u8 0], []⟩ 8 (by kernel_rfl) (by kernel_rfl) (by kernel_rfl) (by kernel_rfl)) ?_
  intro W base args ds gs before hval0 hW hcnd _
  have hval : ∀ (j : Nat) t v, Tryz.f8.params[j]? = some t → args[j]? = some v → Value.okWide Tryz.prog W .any base t v := hval0
  have hW' := hW
  obtain ⟨p, q, hA0, hV, rfl, hfz, hnd⟩ := hW
  have hA : DataW.TrodAll enc Tryz.prog W 0 (fun _ => true) true Tryz.f8.params.toList args.toList ds p := hA0
  rw [Tryz.params8] at hA hval
  obtain ⟨v0, vs0, d0, ds0, p0, q0, hargs, rfl, rfl, h0, r0⟩ := trodAll_cons hA
  obtain ⟨v1, vs1, d1, ds1, p1, q1, rfl, rfl, rfl, h1, r1⟩ := trodAll_cons r0
  obtain ⟨v2, vs2, d2, ds2, p2, q2, rfl, rfl, rfl, h2, r2⟩ := trodAll_cons r1
  obtain ⟨v3, vs3, d3, ds3, p3, q3, rfl, rfl, rfl, h3, r3⟩ := trodAll_cons r2
  obtain ⟨rfl, rfl, rfl⟩ := trodAll_nil r3
  obtain rfl : args = #[v0, v1, v2, v3] := by cases args; simp_all
  obtain ⟨rfl, rfl⟩ := trodVars_none hV
  have k0 := h0
  have lt0 : ∀ x ∈ p0, x.block < W.heap.size := by obtain ⟨m, hm⟩ := k0; exact DataW.trod_lt m _ _ _ hm
  obtain ⟨a0, n0, c0, g0, o0, R0, rfl, sk0, hc0⟩ := open_rules (hval 0 24 v0 rfl rfl) h0
  have k1 := h1
  have lt1 : ∀ x ∈ p1, x.block < W.heap.size := by obtain ⟨m, hm⟩ := k1; exact DataW.trod_lt m _ _ _ hm
  obtain ⟨s1, rfl, rfl, rfl, w1⟩ := open_string Tryz.underlying9 (hval 1 9 v1 rfl rfl) h1
  have k2 := h2
  have lt2 : ∀ x ∈ p2, x.block < W.heap.size := by obtain ⟨m, hm⟩ := k2; exact DataW.trod_lt m _ _ _ hm
  obtain ⟨s2, rfl, rfl, rfl, w2⟩ := open_string Tryz.underlying9 (hval 2 9 v2 rfl rfl) h2
  have k3 := h3
  have lt3 : ∀ x ∈ p3, x.block < W.heap.size := by obtain ⟨m, hm⟩ := k3; exact DataW.trod_lt m _ _ _ hm
  obtain ⟨a3, rfl, rfl, rfl, w3⟩ := open_int Tryz.underlying5 (hval 3 5 v3 rfl rfl) h3
  clear hA0 hval0
  refine (NameLonger_walk a0 g0 o0 c0 n0 R0 W sk0 hc0 s1 s2 a3 w3).mono fun e W' ⟨he, bel⟩ => ?_
  subst he
  exact ⟨_, rfl, _, _, _, [], _, [], hW', trodAll_mk1 (shut_bool Tryz.underlying4 _), (trodAll_cons_mk (Below.trod laidOut (by kernel_rfl) (of_decide_eq_true (by kernel_rfl)) k0 bel lt0) (trodAll_cons_mk (Below.trod laidOut (by kernel_rfl) (of_decide_eq_true (by kernel_rfl)) k1 bel lt1) (trodAll_cons_mk (Below.trod laidOut (by kernel_rfl) (of_decide_eq_true (by kernel_rfl)) k2 bel lt2) (trodAll_cons_mk (Below.trod laidOut (by kernel_rfl) (of_decide_eq_true (by kernel_rfl)) k3 bel lt3) trodAll_mk0)))), rfl, bel.frame _, fun h => by cases h⟩

theorem over : Rows.nameLongerRow.holds Tryz.pinned (OpenSpec.ofChange Rows.nameLongerSpec) :=
  OpenClaim.holds_of_wide 8 Tryz.f8 rfl rfl rfl rfl rfl rfl rfl ⟨rfl, rfl, rfl, rfl, rfl⟩ rfl rfl rfl rfl rfl (by kernel_rfl) Tryz.func8 (by kernel_rfl)
    (of_decide_eq_true (by kernel_rfl)) (by unfold Func.isWrapper; first | (rw [if_pos (by decide +kernel)]; kernel_rfl) | (rw [if_neg (by decide +kernel)]; exact ⟨rfl, rfl⟩))
    (fun os started H enc _ => lifted os started H enc)
end Go.Proofs.YtkdflgaahhnigaaGreat.nameLonger
namespace Go.Proofs.YtkdflgaahhnigaaGreat
/-- THE STATEMENT -/
theorem nameLonger_holds : Rows.NameLongerSaid := nameLonger.over
#print axioms nameLonger_holds
end Go.Proofs.YtkdflgaahhnigaaGreat
