/- NameSounds: the walk (under way). NameSounds: for every input the statement returns true, and each argument reads behind the call as it read before. No condition. -/
import Derived.Test.YtkdflgaahhnigaaGreatC25
import Derived.Test.YtkdflgaahhnigaaGreatC15
import Derived.Test.YtkdflgaahhnigaaGreatC19
import Derived.ProofKit
import Derived.OpenShut
import Derived.ShutString
import Derived.ChangeOld
import Derived.Below
import Derived.Lib.SmallJoins
import Derived.Deep.Slices
set_option linter.unusedVariables false
set_option linter.unusedSimpArgs false
namespace Go.Proofs.YtkdflgaahhnigaaGreat
open Go.RowKit Go.Shelf

theorem u8s {k : Int} (h : (Lit.int .u8 k).wf = true) : ∃ n : Nat, k = (n : Int) ∧ n < 256 := by
  have h2 : IntKind.u8.min ≤ k ∧ k ≤ IntKind.u8.max := by simpa [Lit.wf] using h
  have h3 : IntKind.u8.min = 0 := rfl
  have h4 : IntKind.u8.max = 255 := rfl
  exact ⟨k.toNat, by omega, by omega⟩
/-- the key as a string -/
def keyB (R : RB) (s : ByteArray) : ByteArray := ⟨(keyR R s.data.toList).toArray⟩
theorem keyB_list (R : RB) (s : ByteArray) : (keyB R s).data.toList = keyR R s.data.toList := by simp [keyB]
theorem keyB_size (R : RB) (s : ByteArray) : (keyB R s).size = (keyR R s.data.toList).length := by rw [← keyB_list]; simp
theorem spB_of {x : ByteArray} (h0 : 0 < x.size) (h : ∀ b, b ∈ x.data.toList → isL b = true) : spB x = true := by
  rw [spB_pos h0, List.all_eq_true]; exact h
theorem spB_all {x : ByteArray} (h : spB x = true) : 0 < x.size ∧ ∀ b, b ∈ x.data.toList → isL b = true := by
  have hp : 0 < x.size := by
    rcases Nat.eq_zero_or_pos x.size with h0 | h0
    · rw [spB_not_empty h0] at h; cases h
    · exact h0
  refine ⟨hp, ?_⟩
  rw [spB_pos hp, List.all_eq_true] at h
  exact h
theorem list_ne {x : ByteArray} (h : 0 < x.size) : x.data.toList ≠ [] := fun e => by
  have h2 : x.data.toList.length = x.size := by simp
  rw [e] at h2; simp at h2; omega
theorem keyB_ok {R : RB} (hg : Good R) {s : ByteArray} (h : spB s = true) : spB (keyB R s) = true ∧ 0 < (keyB R s).size ∧ (keyB R s).size ≤ 6 := by
  obtain ⟨h0, hl⟩ := spB_all h
  have hne : s.data.toList ≠ [] := fun e => by have h2 : s.data.toList.length = s.size := by simp
                                               rw [e] at h2; simp at h2; omega
  have hp : 0 < (keyB R s).size := by rw [keyB_size]; exact List.length_pos_iff.2 (keyR_pos R _ hne)
  refine ⟨spB_of hp fun b hb => ?_, hp, by rw [keyB_size]; exact keyR_le6 R _⟩
  rw [keyB_list] at hb
  exact keyR_letters hg hl b hb
/-- the names that are told so far -/
def SdL (w : World) (rc : Array Value) (R : RB) (x : ByteArray) (Bl b : Nat) (v : Value) (W : World) : Prop := ∃ ls : List ByteArray, W.ownsRow Bl 9 1 v ls.length (strsV ls) ∧ (∀ z, z ∈ ls → OKv R x z) ∧ ls.length ≤ b ∧ Bl ≤ W.heap.size ∧ KS w [(w.heap.size, rc, 24)] W
def KL (w : World) (bs : List (Nat × Array Value × TypeId)) (va : Option Addr) (vg vc k : Nat) (l : List ByteArray) (W : World) : Prop := KS w bs W ∧ SKn W va vg 0 vc k l
theorem KL.below {w W W' : World} {bs : List (Nat × Array Value × TypeId)} {va : Option Addr} {vg vc k : Nat} {l : List ByteArray} (h : KL w bs va vg vc k l W) (hb : Below W.heap.size W W') : KL w bs va vg vc k l W' := ⟨h.1.below hb, h.2.below hb⟩
theorem KL.bel {w W : World} {bs : List (Nat × Array Value × TypeId)} {va : Option Addr} {vg vc k : Nat} {l : List ByteArray} (h : KL w bs va vg vc k l W) : Below w.heap.size w W := h.1.bel
theorem KL.drew {w W : World} {bs : List (Nat × Array Value × TypeId)} {va : Option Addr} {vg vc k : Nat} {l : List ByteArray} (h : KL w bs va vg vc k l W) : KL w bs va vg vc k l W.drew := h.below (Below.refl _ _).drew
set_option maxRecDepth 100000 in
set_option maxHeartbeats 8000000 in
theorem NameSounds_walk (a : Option Addr) (g o c n : Nat) (R : RB) (w : World) (hk : SKn w a g o c n R.cls) (hc : n ≤ c) (x : ByteArray) (k1 k2 : Int) (hk1 : (Lit.int .u8 k1).wf = true) (hk2 : (Lit.int .u8 k2).wf = true) : Calls Tryz.prog 10 #[rulesV a n c R.soft R.al R.ot R.sk R.ss R.db, .string x, .int .u8 k1, .int .u8 k2] w fun e w' => e = .returned (.bool true) ∧ Below w.heap.size w w' := by
  have C36 := Lib.hid (fun (z : ByteArray) W b (hW : Below w.heap.size w W) (hb : Blk W b #[.string z] 9) => ready36 a g o c n R W hk.1 (hk.2.1.below hW) (some ⟨b, 0, none⟩) b 0 1 1 [z] rfl (sk1 hb))
  cases hr : readyB R [x] with
  | false =>
    have s0 := ((KS.start w).new (rulesC a n c R.soft R.al R.ot R.sk R.ss R.db) 24)
    obtain ⟨kb0_0, kb0_1, kb0_2, kb0_3, kb0_4, kb0_5, kb0_6⟩ := (s0.blkAt 0 rfl).c7
    have S0 := Lib.hid s0
    clear s0 hk hc hk1 hk2
    go_enter Tryz.func10, Tryz.ntmps10
    go_wp2_with fail
    refine (C36.out x _ (w.heap.size + 1) ((S0.out.bel).alloc S0.out.size _) (two_new w _ _ _ _).2.1).mono ?_
    rintro e w1 ⟨rfl, hb⟩
    rw [hr]
    have S1 := Lib.hid ((S0.out.alloc (.cells #[.string x] 9)).below hb)
    clear hb
    go_wp2_with (go_at_call 18; (refine (awake_any _).mono ?_); rintro e wA ⟨rfl, hbA⟩; have SA := Lib.hid (S1.out.bel.trans (hbA.mono S1.out.bel.size)); clear hbA)
    go_ret
    exact ⟨rfl, SA.out⟩
  | true =>
    obtain ⟨ht, hn15, hv, _, hl⟩ := ready_parts hr
    have hx12 := hl x (by simp)
    by_cases h11 : 11 < x.size
    · have p11 : (11 : Int) < (x.size : Int) := by omega
      have s0 := ((KS.start w).new (rulesC a n c R.soft R.al R.ot R.sk R.ss R.db) 24)
      obtain ⟨kb0_0, kb0_1, kb0_2, kb0_3, kb0_4, kb0_5, kb0_6⟩ := (s0.blkAt 0 rfl).c7
      have S0 := Lib.hid s0
      clear s0 hk hc hk1 hk2 ht hn15 hv hl h11
      go_enter Tryz.func10, Tryz.ntmps10
      go_wp2_with fail
      refine (C36.out x _ (w.heap.size + 1) ((S0.out.bel).alloc S0.out.size _) (two_new w _ _ _ _).2.1).mono ?_
      rintro e w1 ⟨rfl, hb⟩
      rw [hr]
      have S1 := Lib.hid ((S0.out.alloc (.cells #[.string x] 9)).below hb)
      clear hb
      go_wp2_with (go_at_call 18; (refine (awake_any _).mono ?_); rintro e wA ⟨rfl, hbA⟩; have SA := Lib.hid (S1.out.bel.trans (hbA.mono S1.out.bel.size)); clear hbA)
      go_ret
      exact ⟨rfl, SA.out⟩
    · have p11 : ¬ (11 : Int) < (x.size : Int) := by omega
      obtain ⟨m1, rfl, hm1⟩ := u8s hk1
      obtain ⟨m2, rfl, hm2⟩ := u8s hk2
      have hgood := (chkN_ok hv).1
      have hsp := ((chkN_ok hv).2 x (by simp)).2
      obtain ⟨hpos, hlet⟩ := spB_all hsp
      obtain ⟨kg1, kg2, kg3⟩ := keyB_ok hgood hsp
      have hkv : chkN R [keyB R x] = 0 := chkN_intro hgood (fun z hz => by simp at hz; subst hz; exact ⟨by omega, kg1⟩)
      have hrk : readyB R [keyB R x] = true := by
        have hth : thinB R [x] = true := by
          simp only [readyB, Bool.and_eq_true] at hr; exact hr.1
        simp only [thinB, Bool.and_eq_true] at hth
        have h40 : shB [keyB R x] = true := by
          simp [shB]; omega
        simp only [readyB, thinB, hth.1, hth.2.1, h40, hkv, Bool.and_self, decide_true]
      have hnn := hk.1
      have C20 := Lib.hid (fun W (hW : Below w.heap.size w W) => Rules20 a g o c n R W (hk.below hW) (by omega))
      have HRK := Lib.hid hrk
      have HR := Lib.hid hr
      have HT := Lib.hid ht
      have HN := Lib.hid hk.1
      have HV := Lib.hid hv
      have HGD := Lib.hid hgood
      have HSP := Lib.hid hsp
      have HSKN := Lib.hid hk
      have hx' : x.size ≤ 1000 := by omega
      obtain ⟨i, hi⟩ : ∃ i, i = m1 % x.size := ⟨_, rfl⟩
      have hix : i < x.size := by rw [hi]; exact Nat.mod_lt m1 hpos
      have erem : (m1 : Int).tmod (x.size : Int) = (i : Int) := by rw [hi]; exact (Int.ofNat_tmod m1 x.size).symm
      have erem2 : (m1 : Int) % (x.size : Int) = (i : Int) := by rw [hi]; exact (Int.natCast_emod m1 x.size).symm
      have em1 : IntKind.i64.wrap (m1 : Int) = (m1 : Int) := IntWalk.i64_in _ (by omega)
      have hxz : ¬ (x.size : Int) = 0 := by omega
      have hxz2 : ¬ x.size = 0 := by omega
      have b0 : (0 : Int) ≤ (i : Int) := by omega
      have b1 : (i : Int) < (x.size : Int) := by omega
      have b2 : (i : Int) ≤ (x.size : Int) := by omega
      have b3 : (0 : Int) ≤ (i : Int) + 1 := by omega
      have b4 : (i : Int) + 1 ≤ (x.size : Int) := by omega
      have b5 : ((i : Int) + 1).toNat = i + 1 := by omega
      have b6 : IntKind.i64.wrap ((i : Int) + 1) = (i : Int) + 1 := IntWalk.i64_in _ (by omega)
      have HOK0 := Lib.hid (show ∀ z, z ∈ [keyB R x, x.extract 0 (i + 1) ++ x.extract i x.size] → OKv R x z from fun z hz => by
        simp only [List.mem_cons, List.not_mem_nil, or_false] at hz
        rcases hz with rfl | rfl
        · exact ⟨kg1, by omega, by rw [keyB_list]; exact keyR_keyR hgood (list_ne (by omega))⟩
        · exact v_twice hsp (by omega) hix)
      have qa : ¬ 9223372036854775807 < min (i + 1) x.size + (x.size - i) := by omega
      have p6 : ¬ (6 : Int) < ((keyB R x).size : Int) := by omega
      have s0 := ((KS.start w).new (rulesC a n c R.soft R.al R.ot R.sk R.ss R.db) 24)
      obtain ⟨kb0_0, kb0_1, kb0_2, kb0_3, kb0_4, kb0_5, kb0_6⟩ := (s0.blkAt 0 rfl).c7
      have S0 := Lib.hid s0
      clear s0 hk hc hk1 hk2 ht hn15 hv hl h11 hgood hsp hlet kg1 hkv hrk hnn hi hr
      go_enter Tryz.func10, Tryz.ntmps10
      go_wp2_with fail
      refine (C36.out x _ (w.heap.size + 1) ((S0.out.bel).alloc S0.out.size _) (two_new w _ _ _ _).2.1).mono ?_
      rintro e w1 ⟨rfl, hb⟩
      rw [HR.out]
      clear kb0_0 kb0_1 kb0_2 kb0_3 kb0_4 kb0_5 kb0_6
      have s1 := (S0.out.alloc (.cells #[.string x] 9)).below hb
      obtain ⟨kb0_0, kb0_1, kb0_2, kb0_3, kb0_4, kb0_5, kb0_6⟩ := (s1.blkAt 0 rfl).c7
      have S1 := Lib.hid s1
      clear hb s1
      go_wp2_with fail
      refine (C20.out _ S1.out.bel).mono ?_
      rintro e w2 ⟨a2, g2, c2, rfl, hsk, hle2, hb⟩
      have HK2 := Lib.hid hsk
      clear hsk
      clear kb0_0 kb0_1 kb0_2 kb0_3 kb0_4 kb0_5 kb0_6
      have s2 := S1.out.below hb
      obtain ⟨kb0_0, kb0_1, kb0_2, kb0_3, kb0_4, kb0_5, kb0_6⟩ := (s2.blkAt 0 rfl).c7
      have S2 := Lib.hid s2
      clear hb s2
      go_wp2_with fail
      refine (Key_good a2 g2 0 c2 n R _ HN.out HK2.out hle2 HT.out x hx' HV.out).mono ?_
      rintro e w3 ⟨rfl, hb⟩
      clear kb0_0 kb0_1 kb0_2 kb0_3 kb0_4 kb0_5 kb0_6
      have s3 := S2.out.below hb
      obtain ⟨kb0_0, kb0_1, kb0_2, kb0_3, kb0_4, kb0_5, kb0_6⟩ := (s3.blkAt 0 rfl).c7
      have S3 := Lib.hid s3
      clear hb s3
      skip
      rw [show (⟨(keyR R x.data.toList).toArray⟩ : ByteArray) = keyB R x from rfl]
      generalize hkb : keyB R x = kb at *
      have HKB := Lib.hid hkb
      clear hkb
      go_wp2_with fail
      refine (C36.out kb _ w3.heap.size (S3.out.bel.alloc S3.out.size _) (Blk.new w3 _ _)).mono ?_
      rintro e w4 ⟨rfl, hb⟩
      rw [HRK.out]
      clear kb0_0 kb0_1 kb0_2 kb0_3 kb0_4 kb0_5 kb0_6
      have s4 := (S3.out.alloc (.cells #[.string kb] 9)).below hb
      obtain ⟨kb0_0, kb0_1, kb0_2, kb0_3, kb0_4, kb0_5, kb0_6⟩ := (s4.blkAt 0 rfl).c7
      have S4 := Lib.hid s4
      clear hb s4
      go_wp2_with fail
      obtain ⟨BS, hBS⟩ : ∃ BS : List (Nat × Array Value × TypeId), BS = [(w.heap.size, rulesC a n c R.soft R.al R.ot R.sk R.ss R.db, 24)] := ⟨_, rfl⟩
      have hS : KS w BS w4.drew := by rw [hBS]; exact (S4.out.sub (by simp)).drew
      have K0 : ∀ W, KS w BS W → W.cell? ⟨w.heap.size, 0, none⟩ = some (.slice a n c) := fun W h => by rw [hBS] at h; exact (h.blkAt 0 rfl).cell 0
      have K1 : ∀ W, KS w BS W → W.cell? ⟨w.heap.size, 1, none⟩ = some (.string R.soft) := fun W h => by rw [hBS] at h; exact (h.blkAt 0 rfl).cell 1
      have K2 : ∀ W, KS w BS W → W.cell? ⟨w.heap.size, 2, none⟩ = some (.int .i64 R.al) := fun W h => by rw [hBS] at h; exact (h.blkAt 0 rfl).cell 2
      have K3 : ∀ W, KS w BS W → W.cell? ⟨w.heap.size, 3, none⟩ = some (.int .i64 R.ot) := fun W h => by rw [hBS] at h; exact (h.blkAt 0 rfl).cell 3
      have K4 : ∀ W, KS w BS W → W.cell? ⟨w.heap.size, 4, none⟩ = some (.int .i64 R.sk) := fun W h => by rw [hBS] at h; exact (h.blkAt 0 rfl).cell 4
      have K5 : ∀ W, KS w BS W → W.cell? ⟨w.heap.size, 5, none⟩ = some (.int .i64 R.ss) := fun W h => by rw [hBS] at h; exact (h.blkAt 0 rfl).cell 5
      have K6 : ∀ W, KS w BS W → W.cell? ⟨w.heap.size, 6, none⟩ = some (.int .i64 R.db) := fun W h => by rw [hBS] at h; exact (h.blkAt 0 rfl).cell 6
      have HBS := Lib.hid hBS
      clear hBS
      refine wp_region_held_drew (S := KS w BS) (by kernel_rfl) hS (fun hHeld => ?_)
      clear hS
      refine wpAnyH_take (i := 0) (v := ?_) rfl (by kernel_rfl) (by kernel_rfl) (by kernel_rfl) (fun _ _ _ h => h) (Or.inl ⟨by rfl, ?h0⟩) hHeld ?_
      case h0 =>
        intro w' hSw
        (try dsimp only at hSw)
        go_simp
        (try with_reducible rfl)
      (try simp only [Act.put]); (try simp only [List.setIfInBounds_toArray]); (try simp only [List.set_cons_succ]); (try simp only [List.set_cons_zero])
      refine wpAnyH_take (i := 1) (v := ?_) rfl (by kernel_rfl) (by kernel_rfl) (by kernel_rfl) (fun _ _ _ h => h) (Or.inl ⟨by rfl, ?h1⟩) hHeld ?_
      case h1 =>
        intro w' hSw
        (try dsimp only at hSw)
        go_simp
        (try with_reducible rfl)
      (try simp only [Act.put]); (try simp only [List.setIfInBounds_toArray]); (try simp only [List.set_cons_succ]); (try simp only [List.set_cons_zero])
      refine wpAnyH_take (i := 2) (v := ?_) rfl (by kernel_rfl) (by kernel_rfl) (by kernel_rfl) (fun _ _ _ h => h) (Or.inl ⟨by rfl, ?h2⟩) hHeld ?_
      case h2 =>
        intro w' hSw
        (try dsimp only at hSw)
        go_simp
        (try with_reducible rfl)
      (try simp only [Act.put]); (try simp only [List.setIfInBounds_toArray]); (try simp only [List.set_cons_succ]); (try simp only [List.set_cons_zero])
      refine wpAnyH_take (i := 3) (v := ?_) rfl (by kernel_rfl) (by kernel_rfl) (by kernel_rfl) (fun _ _ _ h => h) (Or.inl ⟨by rfl, ?h3⟩) hHeld ?_
      case h3 =>
        intro w' hSw
        (try dsimp only at hSw)
        go_simp
        (try with_reducible rfl)
      (try simp only [Act.put]); (try simp only [List.setIfInBounds_toArray]); (try simp only [List.set_cons_succ]); (try simp only [List.set_cons_zero])
      refine wpAnyH_take (i := 4) (v := ?_) rfl (by kernel_rfl) (by kernel_rfl) (by kernel_rfl) (fun _ _ _ h => h) (Or.inl ⟨by rfl, ?h4⟩) hHeld ?_
      case h4 =>
        intro w' hSw
        (try dsimp only at hSw)
        go_simp
        (try with_reducible rfl)
      (try simp only [Act.put]); (try simp only [List.setIfInBounds_toArray]); (try simp only [List.set_cons_succ]); (try simp only [List.set_cons_zero])
      refine wpAnyH_take (i := 5) (v := ?_) rfl (by kernel_rfl) (by kernel_rfl) (by kernel_rfl) (fun _ _ _ h => h) (Or.inl ⟨by rfl, ?h5⟩) hHeld ?_
      case h5 =>
        intro w' hSw
        (try dsimp only at hSw)
        go_simp
        (try with_reducible rfl)
      (try simp only [Act.put]); (try simp only [List.setIfInBounds_toArray]); (try simp only [List.set_cons_succ]); (try simp only [List.set_cons_zero])
      refine wpAnyH_take (i := 6) (v := ?_) rfl (by kernel_rfl) (by kernel_rfl) (by kernel_rfl) (fun _ _ _ h => h) (Or.inl ⟨by rfl, ?h6⟩) hHeld ?_
      case h6 =>
        intro w' hSw
        (try dsimp only at hSw)
        go_simp
        (try with_reducible rfl)
      (try simp only [Act.put]); (try simp only [List.setIfInBounds_toArray]); (try simp only [List.set_cons_succ]); (try simp only [List.set_cons_zero])
      refine wpAnyH_take (i := 7) (v := ?_) rfl (by kernel_rfl) (by kernel_rfl) (by kernel_rfl) (fun _ _ _ h => h) (Or.inl ⟨by rfl, ?h7⟩) hHeld ?_
      case h7 =>
        intro w' hSw
        (try dsimp only at hSw)
        go_simp
        (try with_reducible rfl)
      (try simp only [Act.put]); (try simp only [List.setIfInBounds_toArray]); (try simp only [List.set_cons_succ]); (try simp only [List.set_cons_zero])
      refine wpAnyH_take (i := 8) (v := ?_) rfl (by kernel_rfl) (by kernel_rfl) (by kernel_rfl) (fun _ _ _ h => h) (Or.inl ⟨by rfl, ?h8⟩) hHeld ?_
      case h8 =>
        intro w' hSw
        (try dsimp only at hSw)
        go_simp
        (try with_reducible rfl)
      (try simp only [Act.put]); (try simp only [List.setIfInBounds_toArray]); (try simp only [List.set_cons_succ]); (try simp only [List.set_cons_zero])
      refine wpAnyH_ready (rs := [9]) (by kernel_rfl) (by simp) ?_
      refine AllReadyH.cons rfl (fun K hK => ?_) (AllReadyH.nil)
      go_simp
      refine hK.out _ _ (hHeld.alloc _) (fun hHeld => ?_)
      clear hK K
      (try simp only [Act.put]); (try simp only [List.setIfInBounds_toArray]); (try simp only [List.set_cons_succ]); (try simp only [List.set_cons_zero])
      refine wpAnyH_ready (rs := [10]) (by kernel_rfl) (by simp) ?_
      refine AllReadyH.cons rfl (fun K hK => ?_) (AllReadyH.nil)
      go_simp
      refine hK.out _ _ hHeld (fun hHeld => ?_)
      clear hK K
      (try simp only [Act.put]); (try simp only [List.setIfInBounds_toArray]); (try simp only [List.set_cons_succ]); (try simp only [List.set_cons_zero])
      refine wpAnyH_done (by kernel_rfl) ?_ _
      have hs7 := hHeld
      rw [HBS.out] at hs7
      have S7 := Lib.hid hs7
      clear hHeld hs7 K0 K1 K2 K3 K4 K5 K6 HBS
      go_wp2_with fail
      have HL0 := Lib.hid (World.ownsRow.drew (World.ownsRow_lit (base := w4.heap.size) (e := 9) (size := 1) w4 #[.string kb, .string (x.extract 0 (i + 1) ++ x.extract i x.size)] 2 (Nat.le_refl _) (by unfold maxLen; omega) rfl))
      obtain ⟨Bl, hBl⟩ : ∃ B, B = w4.heap.size := ⟨_, rfl⟩
      have HBl := Lib.hid (show w.heap.size < Bl by rw [hBl]; exact S4.out.lt 0 rfl)
      have S8 := Lib.hid (show SdL w (rulesC a n c R.soft R.al R.ot R.sk R.ss R.db) R x Bl (0 + 2) (.slice (some ⟨w4.heap.size, 0, none⟩) 2 2) (w4.alloc (.cells #[.string kb, .string (x.extract 0 (i + 1) ++ x.extract i x.size)] 9)).drew from ⟨[kb, x.extract 0 (i + 1) ++ x.extract i x.size], by rw [hBl]; exact HL0.out, HOK0.out, Nat.le_refl _, by rw [hBl]; exact Nat.le_of_lt (by show w4.heap.size < (w4.alloc _).heap.size; simp), S7.out⟩)
      clear S7 HL0 hBl
      go_loopw [12, 13] (fun y12 y13 wr => ∃ (j : Nat), j ≤ n ∧ y13 = .int .i64 (j : Int) ∧ Hid (SdL w (rulesC a n c R.soft R.al R.ot R.sk R.ss R.db) R x Bl (j + 2) y12 wr)) (fun _ y13 _ => n - (intOf y13).toNat)
      case atStart => exact ⟨0, Nat.zero_le _, rfl, S8.out⟩
      case round =>
        clear S8
        obtain ⟨j, hj, rfl, H⟩ := hrel
        by_cases hjn : j < n
        · skip
          obtain ⟨ls, hown, hok, hll, hbl, hks⟩ := H.out
          have HO := Lib.hid hown
          have HOK := Lib.hid hok
          have HS := Lib.hid hks
          obtain ⟨cl, hcl⟩ : ∃ cl, R.cls[j]? = some cl := ⟨_, List.getElem?_eq_getElem (by rw [HN.out]; exact hjn)⟩
          have hclm := List.mem_of_getElem? hcl
          have hne : R.cls ≠ [] := by rintro e; rw [e] at hcl; simp at hcl
          have e1 := HSKN.out.2.1.1 hne
          subst e1
          have HCL := Lib.hid hcl
          have HCM := Lib.hid hclm
          have hcs := HT.out.2.1 cl hclm
          have C38 := Lib.hid (fun W => Has38 cl hcs x[i] W)
          have pj0 : (0 : Int) ≤ (j : Int) := by omega
          have pj1 : (j : Int) < (n : Int) := by omega
          obtain ⟨kb0_0, kb0_1, kb0_2, kb0_3, kb0_4, kb0_5, kb0_6⟩ := (hks.blkAt 0 rfl).c7
          have hn900 : n ≤ 1000 := by have := HT.out.1; have := HN.out; omega
          clear hown hok hks hcl hclm hne H
          cases hso : inS cl x[i] with
          | false =>
            rw [hso] at C38
            clear hso
            go_wp2_with fail
            obtain ⟨BS, hBS⟩ : ∃ BS : List (Nat × Array Value × TypeId), BS = [(w.heap.size, rulesC (some ⟨g, o, none⟩) n c R.soft R.al R.ot R.sk R.ss R.db, 24)] := ⟨_, rfl⟩
            have hS : KS w BS wr.drew := by rw [hBS]; exact HS.out.drew
            have K0 : ∀ W, KS w BS W → W.cell? ⟨w.heap.size, 0, none⟩ = some (.slice (some ⟨g, o, none⟩) n c) := fun W h => by rw [hBS] at h; exact (h.blkAt 0 rfl).cell 0
            have K1 : ∀ W, KS w BS W → W.cell? ⟨w.heap.size, 1, none⟩ = some (.string R.soft) := fun W h => by rw [hBS] at h; exact (h.blkAt 0 rfl).cell 1
            have K2 : ∀ W, KS w BS W → W.cell? ⟨w.heap.size, 2, none⟩ = some (.int .i64 R.al) := fun W h => by rw [hBS] at h; exact (h.blkAt 0 rfl).cell 2
            have K3 : ∀ W, KS w BS W → W.cell? ⟨w.heap.size, 3, none⟩ = some (.int .i64 R.ot) := fun W h => by rw [hBS] at h; exact (h.blkAt 0 rfl).cell 3
            have K4 : ∀ W, KS w BS W → W.cell? ⟨w.heap.size, 4, none⟩ = some (.int .i64 R.sk) := fun W h => by rw [hBS] at h; exact (h.blkAt 0 rfl).cell 4
            have K5 : ∀ W, KS w BS W → W.cell? ⟨w.heap.size, 5, none⟩ = some (.int .i64 R.ss) := fun W h => by rw [hBS] at h; exact (h.blkAt 0 rfl).cell 5
            have K6 : ∀ W, KS w BS W → W.cell? ⟨w.heap.size, 6, none⟩ = some (.int .i64 R.db) := fun W h => by rw [hBS] at h; exact (h.blkAt 0 rfl).cell 6
            have HBS := Lib.hid hBS
            clear hBS
            have L0 : ∀ W, KS w BS W → W.cell? ⟨g, o + j, none⟩ = some (.string cl) := fun W h => (HSKN.out.below h.bel).2.1.2.1 j cl HCL.out
            clear kb0_0 kb0_1 kb0_2 kb0_3 kb0_4 kb0_5 kb0_6
            refine wp_region_held_drew (S := KS w BS) (by kernel_rfl) hS (fun hHeld => ?_)
            clear hS
            refine wpAnyH_take (i := 0) (v := ?_) rfl (by kernel_rfl) (by kernel_rfl) (by kernel_rfl) (fun _ _ _ h => h) (Or.inl ⟨by rfl, ?h0⟩) hHeld ?_
            case h0 =>
              intro w' hSw
              (try dsimp only at hSw)
              go_simp
              (try with_reducible rfl)
            (try simp only [Act.put]); (try simp only [List.setIfInBounds_toArray]); (try simp only [List.set_cons_succ]); (try simp only [List.set_cons_zero])
            refine wpAnyH_take (i := 1) (v := ?_) rfl (by kernel_rfl) (by kernel_rfl) (by kernel_rfl) (fun _ _ _ h => h) (Or.inl ⟨by rfl, ?h1⟩) hHeld ?_
            case h1 =>
              intro w' hSw
              (try dsimp only at hSw)
              go_simp
              (try with_reducible rfl)
            (try simp only [Act.put]); (try simp only [List.setIfInBounds_toArray]); (try simp only [List.set_cons_succ]); (try simp only [List.set_cons_zero])
            refine wpAnyH_take (i := 2) (v := ?_) rfl (by kernel_rfl) (by kernel_rfl) (by kernel_rfl) (fun _ _ _ h => h) (Or.inl ⟨by rfl, ?h2⟩) hHeld ?_
            case h2 =>
              intro w' hSw
              (try dsimp only at hSw)
              go_simp
              (try with_reducible rfl)
            (try simp only [Act.put]); (try simp only [List.setIfInBounds_toArray]); (try simp only [List.set_cons_succ]); (try simp only [List.set_cons_zero])
            refine wpAnyH_take (i := 3) (v := ?_) rfl (by kernel_rfl) (by kernel_rfl) (by kernel_rfl) (fun _ _ _ h => h) (Or.inl ⟨by rfl, ?h3⟩) hHeld ?_
            case h3 =>
              intro w' hSw
              (try dsimp only at hSw)
              go_simp
              (try with_reducible rfl)
            (try simp only [Act.put]); (try simp only [List.setIfInBounds_toArray]); (try simp only [List.set_cons_succ]); (try simp only [List.set_cons_zero])
            refine wpAnyH_take (i := 4) (v := ?_) rfl (by kernel_rfl) (by kernel_rfl) (by kernel_rfl) (fun _ _ _ h => h) (Or.inl ⟨by rfl, ?h4⟩) hHeld ?_
            case h4 =>
              intro w' hSw
              (try dsimp only at hSw)
              go_simp
              (try with_reducible rfl)
            (try simp only [Act.put]); (try simp only [List.setIfInBounds_toArray]); (try simp only [List.set_cons_succ]); (try simp only [List.set_cons_zero])
            refine wpAnyH_take (i := 5) (v := ?_) rfl (by kernel_rfl) (by kernel_rfl) (by kernel_rfl) (fun _ _ _ h => h) (Or.inl ⟨by rfl, ?h5⟩) hHeld ?_
            case h5 =>
              intro w' hSw
              (try dsimp only at hSw)
              go_simp
              (try with_reducible rfl)
            (try simp only [Act.put]); (try simp only [List.setIfInBounds_toArray]); (try simp only [List.set_cons_succ]); (try simp only [List.set_cons_zero])
            refine wpAnyH_take (i := 6) (v := ?_) rfl (by kernel_rfl) (by kernel_rfl) (by kernel_rfl) (fun _ _ _ h => h) (Or.inl ⟨by rfl, ?h6⟩) hHeld ?_
            case h6 =>
              intro w' hSw
              (try dsimp only at hSw)
              go_simp
              (try with_reducible rfl)
            (try simp only [Act.put]); (try simp only [List.setIfInBounds_toArray]); (try simp only [List.set_cons_succ]); (try simp only [List.set_cons_zero])
            refine wpAnyH_take (i := 7) (v := ?_) rfl (by kernel_rfl) (by kernel_rfl) (by kernel_rfl) (fun _ _ _ h => h) (Or.inl ⟨by rfl, ?h7⟩) hHeld ?_
            case h7 =>
              intro w' hSw
              (try dsimp only at hSw)
              go_simp
              (try with_reducible rfl)
            (try simp only [Act.put]); (try simp only [List.setIfInBounds_toArray]); (try simp only [List.set_cons_succ]); (try simp only [List.set_cons_zero])
            refine wpAnyH_ready (rs := [8]) (by kernel_rfl) (by simp) ?_
            refine AllReadyH.cons rfl (fun K hK => ?_) (AllReadyH.nil)
            go_simp
            (refine (C38.out _).mono ?_)
            rintro e w5 ⟨rfl, hw5⟩
            subst hw5
            refine hK.out _ _ hHeld (fun hHeld => ?_)
            clear hK K
            (try simp only [Act.put]); (try simp only [List.setIfInBounds_toArray]); (try simp only [List.set_cons_succ]); (try simp only [List.set_cons_zero])
            refine wpAnyH_done (by kernel_rfl) ?_ _
            clear hHeld K0 K1 K2 K3 K4 K5 K6 L0 HBS
            go_wp2_with fail
            go_roundw
            case rel => exact ⟨j + 1, by omega, by go_num, ⟨ls, HO.out.drew, HOK.out, by omega, hbl, HS.out.drew⟩⟩
            case measure => simp [intOf]; omega
          | true =>
            rw [hso] at C38
            have hin : x[i] ∈ cl.data.toList := by simpa [inS] using hso
            have hcp : 0 < cl.size := by have h := List.length_pos_of_mem hin; simpa using h
            obtain ⟨i2, hi2⟩ : ∃ i2, i2 = m2 % cl.size := ⟨_, rfl⟩
            have hi2c : i2 < cl.size := by rw [hi2]; exact Nat.mod_lt m2 hcp
            have frem : (m2 : Int).tmod (cl.size : Int) = (i2 : Int) := by rw [hi2]; exact (Int.ofNat_tmod m2 cl.size).symm
            have frem2 : (m2 : Int) % (cl.size : Int) = (i2 : Int) := by rw [hi2]; exact (Int.natCast_emod m2 cl.size).symm
            have em2 : IntKind.i64.wrap (m2 : Int) = (m2 : Int) := IntWalk.i64_in _ (by omega)
            have hcz : ¬ (cl.size : Int) = 0 := by omega
            have hcz2 : ¬ cl.size = 0 := by omega
            have c0 : (0 : Int) ≤ (i2 : Int) := by omega
            have c1 : (i2 : Int) < (cl.size : Int) := by omega
            have hym : cl[i2] ∈ cl.data.toList := List.mem_of_getElem? (get_u8 hi2c)
            have HOZ := Lib.hid (v_alike HGD.out HSP.out (by omega) hix HCM.out hin hym)
            have hconv := fun (W : World) => conv_oneK cl[i2] W
            have hconv2 : ∀ W : World, (convert 56 9 (.slice (some ⟨W.heap.size, 0, none⟩) 1 1)).run Tryz.prog (W.alloc (.cells #[.int .u8 ((cl[i2]).toNat : Int)] 5)).drew = .ok (.string (oneK cl[i2])) (W.alloc (.cells #[.int .u8 ((cl[i2]).toNat : Int)] 5)).drew := fun W => conv_oneK cl[i2] W.drew
            have qz1 : ¬ 9223372036854775807 < min i x.size + (oneK cl[i2]).size := by rw [show (oneK cl[i2]).size = 1 from rfl]; omega
            have qz2 : ¬ 9223372036854775807 < min i x.size + (oneK cl[i2]).size + (x.size - (i + 1)) := by rw [show (oneK cl[i2]).size = 1 from rfl]; omega
            clear hso hi2 hin hym hcp
            go_wp2_with fail
            obtain ⟨BS, hBS⟩ : ∃ BS : List (Nat × Array Value × TypeId), BS = [(w.heap.size, rulesC (some ⟨g, o, none⟩) n c R.soft R.al R.ot R.sk R.ss R.db, 24)] := ⟨_, rfl⟩
            have hS : KS w BS wr.drew := by rw [hBS]; exact HS.out.drew
            have K0 : ∀ W, KS w BS W → W.cell? ⟨w.heap.size, 0, none⟩ = some (.slice (some ⟨g, o, none⟩) n c) := fun W h => by rw [hBS] at h; exact (h.blkAt 0 rfl).cell 0
            have K1 : ∀ W, KS w BS W → W.cell? ⟨w.heap.size, 1, none⟩ = some (.string R.soft) := fun W h => by rw [hBS] at h; exact (h.blkAt 0 rfl).cell 1
            have K2 : ∀ W, KS w BS W → W.cell? ⟨w.heap.size, 2, none⟩ = some (.int .i64 R.al) := fun W h => by rw [hBS] at h; exact (h.blkAt 0 rfl).cell 2
            have K3 : ∀ W, KS w BS W → W.cell? ⟨w.heap.size, 3, none⟩ = some (.int .i64 R.ot) := fun W h => by rw [hBS] at h; exact (h.blkAt 0 rfl).cell 3
            have K4 : ∀ W, KS w BS W → W.cell? ⟨w.heap.size, 4, none⟩ = some (.int .i64 R.sk) := fun W h => by rw [hBS] at h; exact (h.blkAt 0 rfl).cell 4
            have K5 : ∀ W, KS w BS W → W.cell? ⟨w.heap.size, 5, none⟩ = some (.int .i64 R.ss) := fun W h => by rw [hBS] at h; exact (h.blkAt 0 rfl).cell 5
            have K6 : ∀ W, KS w BS W → W.cell? ⟨w.heap.size, 6, none⟩ = some (.int .i64 R.db) := fun W h => by rw [hBS] at h; exact (h.blkAt 0 rfl).cell 6
            have HBS := Lib.hid hBS
            clear hBS
            have L0 : ∀ W, KS w BS W → W.cell? ⟨g, o + j, none⟩ = some (.string cl) := fun W h => (HSKN.out.below h.bel).2.1.2.1 j cl HCL.out
            clear kb0_0 kb0_1 kb0_2 kb0_3 kb0_4 kb0_5 kb0_6
            refine wp_region_held_drew (S := KS w BS) (by kernel_rfl) hS (fun hHeld => ?_)
            clear hS
            refine wpAnyH_take (i := 0) (v := ?_) rfl (by kernel_rfl) (by kernel_rfl) (by kernel_rfl) (fun _ _ _ h => h) (Or.inl ⟨by rfl, ?h0⟩) hHeld ?_
            case h0 =>
              intro w' hSw
              (try dsimp only at hSw)
              go_simp
              (try with_reducible rfl)
            (try simp only [Act.put]); (try simp only [List.setIfInBounds_toArray]); (try simp only [List.set_cons_succ]); (try simp only [List.set_cons_zero])
            refine wpAnyH_take (i := 1) (v := ?_) rfl (by kernel_rfl) (by kernel_rfl) (by kernel_rfl) (fun _ _ _ h => h) (Or.inl ⟨by rfl, ?h1⟩) hHeld ?_
            case h1 =>
              intro w' hSw
              (try dsimp only at hSw)
              go_simp
              (try with_reducible rfl)
            (try simp only [Act.put]); (try simp only [List.setIfInBounds_toArray]); (try simp only [List.set_cons_succ]); (try simp only [List.set_cons_zero])
            refine wpAnyH_take (i := 2) (v := ?_) rfl (by kernel_rfl) (by kernel_rfl) (by kernel_rfl) (fun _ _ _ h => h) (Or.inl ⟨by rfl, ?h2⟩) hHeld ?_
            case h2 =>
              intro w' hSw
              (try dsimp only at hSw)
              go_simp
              (try with_reducible rfl)
            (try simp only [Act.put]); (try simp only [List.setIfInBounds_toArray]); (try simp only [List.set_cons_succ]); (try simp only [List.set_cons_zero])
            refine wpAnyH_take (i := 3) (v := ?_) rfl (by kernel_rfl) (by kernel_rfl) (by kernel_rfl) (fun _ _ _ h => h) (Or.inl ⟨by rfl, ?h3⟩) hHeld ?_
            case h3 =>
              intro w' hSw
              (try dsimp only at hSw)
              go_simp
              (try with_reducible rfl)
            (try simp only [Act.put]); (try simp only [List.setIfInBounds_toArray]); (try simp only [List.set_cons_succ]); (try simp only [List.set_cons_zero])
            refine wpAnyH_take (i := 4) (v := ?_) rfl (by kernel_rfl) (by kernel_rfl) (by kernel_rfl) (fun _ _ _ h => h) (Or.inl ⟨by rfl, ?h4⟩) hHeld ?_
            case h4 =>
              intro w' hSw
              (try dsimp only at hSw)
              go_simp
              (try with_reducible rfl)
            (try simp only [Act.put]); (try simp only [List.setIfInBounds_toArray]); (try simp only [List.set_cons_succ]); (try simp only [List.set_cons_zero])
            refine wpAnyH_take (i := 5) (v := ?_) rfl (by kernel_rfl) (by kernel_rfl) (by kernel_rfl) (fun _ _ _ h => h) (Or.inl ⟨by rfl, ?h5⟩) hHeld ?_
            case h5 =>
              intro w' hSw
              (try dsimp only at hSw)
              go_simp
              (try with_reducible rfl)
            (try simp only [Act.put]); (try simp only [List.setIfInBounds_toArray]); (try simp only [List.set_cons_succ]); (try simp only [List.set_cons_zero])
            refine wpAnyH_take (i := 6) (v := ?_) rfl (by kernel_rfl) (by kernel_rfl) (by kernel_rfl) (fun _ _ _ h => h) (Or.inl ⟨by rfl, ?h6⟩) hHeld ?_
            case h6 =>
              intro w' hSw
              (try dsimp only at hSw)
              go_simp
              (try with_reducible rfl)
            (try simp only [Act.put]); (try simp only [List.setIfInBounds_toArray]); (try simp only [List.set_cons_succ]); (try simp only [List.set_cons_zero])
            refine wpAnyH_take (i := 7) (v := ?_) rfl (by kernel_rfl) (by kernel_rfl) (by kernel_rfl) (fun _ _ _ h => h) (Or.inl ⟨by rfl, ?h7⟩) hHeld ?_
            case h7 =>
              intro w' hSw
              (try dsimp only at hSw)
              go_simp
              (try with_reducible rfl)
            (try simp only [Act.put]); (try simp only [List.setIfInBounds_toArray]); (try simp only [List.set_cons_succ]); (try simp only [List.set_cons_zero])
            refine wpAnyH_ready (rs := [8]) (by kernel_rfl) (by simp) ?_
            refine AllReadyH.cons rfl (fun K hK => ?_) (AllReadyH.nil)
            go_simp
            (refine (C38.out _).mono ?_)
            rintro e w5 ⟨rfl, hw5⟩
            subst hw5
            refine hK.out _ _ hHeld (fun hHeld => ?_)
            clear hK K
            (try simp only [Act.put]); (try simp only [List.setIfInBounds_toArray]); (try simp only [List.set_cons_succ]); (try simp only [List.set_cons_zero])
            refine wpAnyH_done (by kernel_rfl) ?_ _
            clear hHeld K0 K1 K2 K3 K4 K5 K6 L0 HBS
            go_wp2_with fail
            obtain ⟨BS, hBS⟩ : ∃ BS : List (Nat × Array Value × TypeId), BS = [(w.heap.size, rulesC (some ⟨g, o, none⟩) n c R.soft R.al R.ot R.sk R.ss R.db, 24)] := ⟨_, rfl⟩
            have hS : KS w BS wr.drew.drew := by rw [hBS]; exact HS.out.drew.drew
            have K0 : ∀ W, KS w BS W → W.cell? ⟨w.heap.size, 0, none⟩ = some (.slice (some ⟨g, o, none⟩) n c) := fun W h => by rw [hBS] at h; exact (h.blkAt 0 rfl).cell 0
            have K1 : ∀ W, KS w BS W → W.cell? ⟨w.heap.size, 1, none⟩ = some (.string R.soft) := fun W h => by rw [hBS] at h; exact (h.blkAt 0 rfl).cell 1
            have K2 : ∀ W, KS w BS W → W.cell? ⟨w.heap.size, 2, none⟩ = some (.int .i64 R.al) := fun W h => by rw [hBS] at h; exact (h.blkAt 0 rfl).cell 2
            have K3 : ∀ W, KS w BS W → W.cell? ⟨w.heap.size, 3, none⟩ = some (.int .i64 R.ot) := fun W h => by rw [hBS] at h; exact (h.blkAt 0 rfl).cell 3
            have K4 : ∀ W, KS w BS W → W.cell? ⟨w.heap.size, 4, none⟩ = some (.int .i64 R.sk) := fun W h => by rw [hBS] at h; exact (h.blkAt 0 rfl).cell 4
            have K5 : ∀ W, KS w BS W → W.cell? ⟨w.heap.size, 5, none⟩ = some (.int .i64 R.ss) := fun W h => by rw [hBS] at h; exact (h.blkAt 0 rfl).cell 5
            have K6 : ∀ W, KS w BS W → W.cell? ⟨w.heap.size, 6, none⟩ = some (.int .i64 R.db) := fun W h => by rw [hBS] at h; exact (h.blkAt 0 rfl).cell 6
            have HBS := Lib.hid hBS
            clear hBS
            have L0 : ∀ W, KS w BS W → W.cell? ⟨g, o + j, none⟩ = some (.string cl) := fun W h => (HSKN.out.below h.bel).2.1.2.1 j cl HCL.out
            refine wp_region_held_drew (S := KS w BS) (by kernel_rfl) hS (fun hHeld => ?_)
            clear hS
            refine wpAnyH_take (i := 0) (v := ?_) rfl (by kernel_rfl) (by kernel_rfl) (by kernel_rfl) (fun _ _ _ h => h) (Or.inl ⟨by rfl, ?h0⟩) hHeld ?_
            case h0 =>
              intro w' hSw
              (try dsimp only at hSw)
              go_simp
              (try with_reducible rfl)
            (try simp only [Act.put]); (try simp only [List.setIfInBounds_toArray]); (try simp only [List.set_cons_succ]); (try simp only [List.set_cons_zero])
            refine wpAnyH_take (i := 1) (v := ?_) rfl (by kernel_rfl) (by kernel_rfl) (by kernel_rfl) (fun _ _ _ h => h) (Or.inl ⟨by rfl, ?h1⟩) hHeld ?_
            case h1 =>
              intro w' hSw
              (try dsimp only at hSw)
              go_simp
              (try with_reducible rfl)
            (try simp only [Act.put]); (try simp only [List.setIfInBounds_toArray]); (try simp only [List.set_cons_succ]); (try simp only [List.set_cons_zero])
            refine wpAnyH_take (i := 2) (v := ?_) rfl (by kernel_rfl) (by kernel_rfl) (by kernel_rfl) (fun _ _ _ h => h) (Or.inl ⟨by rfl, ?h2⟩) hHeld ?_
            case h2 =>
              intro w' hSw
              (try dsimp only at hSw)
              go_simp
              (try with_reducible rfl)
            (try simp only [Act.put]); (try simp only [List.setIfInBounds_toArray]); (try simp only [List.set_cons_succ]); (try simp only [List.set_cons_zero])
            refine wpAnyH_take (i := 3) (v := ?_) rfl (by kernel_rfl) (by kernel_rfl) (by kernel_rfl) (fun _ _ _ h => h) (Or.inl ⟨by rfl, ?h3⟩) hHeld ?_
            case h3 =>
              intro w' hSw
              (try dsimp only at hSw)
              go_simp
              (try with_reducible rfl)
            (try simp only [Act.put]); (try simp only [List.setIfInBounds_toArray]); (try simp only [List.set_cons_succ]); (try simp only [List.set_cons_zero])
            refine wpAnyH_take (i := 4) (v := ?_) rfl (by kernel_rfl) (by kernel_rfl) (by kernel_rfl) (fun _ _ _ h => h) (Or.inl ⟨by rfl, ?h4⟩) hHeld ?_
            case h4 =>
              intro w' hSw
              (try dsimp only at hSw)
              go_simp
              (try with_reducible rfl)
            (try simp only [Act.put]); (try simp only [List.setIfInBounds_toArray]); (try simp only [List.set_cons_succ]); (try simp only [List.set_cons_zero])
            refine wpAnyH_take (i := 5) (v := ?_) rfl (by kernel_rfl) (by kernel_rfl) (by kernel_rfl) (fun _ _ _ h => h) (Or.inl ⟨by rfl, ?h5⟩) hHeld ?_
            case h5 =>
              intro w' hSw
              (try dsimp only at hSw)
              go_simp
              (try with_reducible rfl)
            (try simp only [Act.put]); (try simp only [List.setIfInBounds_toArray]); (try simp only [List.set_cons_succ]); (try simp only [List.set_cons_zero])
            refine wpAnyH_take (i := 6) (v := ?_) rfl (by kernel_rfl) (by kernel_rfl) (by kernel_rfl) (fun _ _ _ h => h) (Or.inl ⟨by rfl, ?h6⟩) hHeld ?_
            case h6 =>
              intro w' hSw
              (try dsimp only at hSw)
              go_simp
              (try with_reducible rfl)
            (try simp only [Act.put]); (try simp only [List.setIfInBounds_toArray]); (try simp only [List.set_cons_succ]); (try simp only [List.set_cons_zero])
            refine wpAnyH_take (i := 7) (v := ?_) rfl (by kernel_rfl) (by kernel_rfl) (by kernel_rfl) (fun _ _ _ h => h) (Or.inl ⟨by rfl, ?h7⟩) hHeld ?_
            case h7 =>
              intro w' hSw
              (try dsimp only at hSw)
              go_simp
              (try with_reducible rfl)
            (try simp only [Act.put]); (try simp only [List.setIfInBounds_toArray]); (try simp only [List.set_cons_succ]); (try simp only [List.set_cons_zero])
            refine wpAnyH_take (i := 8) (v := ?_) rfl (by kernel_rfl) (by kernel_rfl) (by kernel_rfl) (fun _ _ _ h => h) (Or.inl ⟨by rfl, ?h8⟩) hHeld ?_
            case h8 =>
              intro w' hSw
              (try dsimp only at hSw)
              go_simp
              (try with_reducible rfl)
            (try simp only [Act.put]); (try simp only [List.setIfInBounds_toArray]); (try simp only [List.set_cons_succ]); (try simp only [List.set_cons_zero])
            refine wpAnyH_take (i := 9) (v := ?_) rfl (by kernel_rfl) (by kernel_rfl) (by kernel_rfl) (fun _ _ _ h => h) (Or.inl ⟨by rfl, ?h9⟩) hHeld ?_
            case h9 =>
              intro w' hSw
              (try dsimp only at hSw)
              go_simp
              (try with_reducible rfl)
            (try simp only [Act.put]); (try simp only [List.setIfInBounds_toArray]); (try simp only [List.set_cons_succ]); (try simp only [List.set_cons_zero])
            refine wpAnyH_take (i := 10) (v := ?_) rfl (by kernel_rfl) (by kernel_rfl) (by kernel_rfl) (fun _ _ _ h => h) (Or.inl ⟨by rfl, ?h10⟩) hHeld ?_
            case h10 =>
              intro w' hSw
              (try dsimp only at hSw)
              go_simp
              (try with_reducible rfl)
            (try simp only [Act.put]); (try simp only [List.setIfInBounds_toArray]); (try simp only [List.set_cons_succ]); (try simp only [List.set_cons_zero])
            refine wpAnyH_take (i := 11) (v := ?_) rfl (by kernel_rfl) (by kernel_rfl) (by kernel_rfl) (fun _ _ _ h => h) (Or.inl ⟨by rfl, ?h11⟩) hHeld ?_
            case h11 =>
              intro w' hSw
              (try dsimp only at hSw)
              go_simp
              (try with_reducible rfl)
            (try simp only [Act.put]); (try simp only [List.setIfInBounds_toArray]); (try simp only [List.set_cons_succ]); (try simp only [List.set_cons_zero])
            refine wpAnyH_take (i := 12) (v := ?_) rfl (by kernel_rfl) (by kernel_rfl) (by kernel_rfl) (fun _ _ _ h => h) (Or.inl ⟨by rfl, ?h12⟩) hHeld ?_
            case h12 =>
              intro w' hSw
              (try dsimp only at hSw)
              go_simp
              (try with_reducible rfl)
            (try simp only [Act.put]); (try simp only [List.setIfInBounds_toArray]); (try simp only [List.set_cons_succ]); (try simp only [List.set_cons_zero])
            refine wpAnyH_take (i := 13) (v := ?_) rfl (by kernel_rfl) (by kernel_rfl) (by kernel_rfl) (fun _ _ _ h => h) (Or.inl ⟨by rfl, ?h13⟩) hHeld ?_
            case h13 =>
              intro w' hSw
              (try dsimp only at hSw)
              go_simp
              (try with_reducible rfl)
            (try simp only [Act.put]); (try simp only [List.setIfInBounds_toArray]); (try simp only [List.set_cons_succ]); (try simp only [List.set_cons_zero])
            refine wpAnyH_take (i := 14) (v := ?_) rfl (by kernel_rfl) (by kernel_rfl) (by kernel_rfl) (fun _ _ _ h => h) (Or.inl ⟨by rfl, ?h14⟩) hHeld ?_
            case h14 =>
              intro w' hSw
              (try dsimp only at hSw)
              go_simp
              (try with_reducible rfl)
            (try simp only [Act.put]); (try simp only [List.setIfInBounds_toArray]); (try simp only [List.set_cons_succ]); (try simp only [List.set_cons_zero])
            refine wpAnyH_ready (rs := [15]) (by kernel_rfl) (by simp) ?_
            refine AllReadyH.cons rfl (fun K hK => ?_) (AllReadyH.nil)
            go_simp
            refine hK.out _ _ hHeld (fun hHeld => ?_)
            clear hK K
            (try simp only [Act.put]); (try simp only [List.setIfInBounds_toArray]); (try simp only [List.set_cons_succ]); (try simp only [List.set_cons_zero])
            refine wpAnyH_done (by kernel_rfl) ?_ _
            clear hHeld K0 K1 K2 K3 K4 K5 K6 L0 HBS
            have HO9 := Lib.hid HO.out.drew.drew
            have S9 := Lib.hid HS.out.drew.drew
            have hbl9 : Bl ≤ wr.drew.drew.heap.size := hbl
            clear HO HS hbl
            generalize wr.drew.drew = w9 at *
            obtain ⟨i0, hi0, hz0, hz1, hz2⟩ := info_parts tInfo9
            have HI := Lib.hid (And.intro hi0 (And.intro hz0 (And.intro hz1 hz2)))
            clear hi0 hz0 hz1 hz2
            go_wp2_with fail
            obtain ⟨BS, hBS⟩ : ∃ BS : List (Nat × Array Value × TypeId), BS = [(w.heap.size, rulesC (some ⟨g, o, none⟩) n c R.soft R.al R.ot R.sk R.ss R.db, 24)] := ⟨_, rfl⟩
            have hS : KS w BS w9.drew := by rw [hBS]; exact S9.out.drew
            have K0 : ∀ W, KS w BS W → W.cell? ⟨w.heap.size, 0, none⟩ = some (.slice (some ⟨g, o, none⟩) n c) := fun W h => by rw [hBS] at h; exact (h.blkAt 0 rfl).cell 0
            have K1 : ∀ W, KS w BS W → W.cell? ⟨w.heap.size, 1, none⟩ = some (.string R.soft) := fun W h => by rw [hBS] at h; exact (h.blkAt 0 rfl).cell 1
            have K2 : ∀ W, KS w BS W → W.cell? ⟨w.heap.size, 2, none⟩ = some (.int .i64 R.al) := fun W h => by rw [hBS] at h; exact (h.blkAt 0 rfl).cell 2
            have K3 : ∀ W, KS w BS W → W.cell? ⟨w.heap.size, 3, none⟩ = some (.int .i64 R.ot) := fun W h => by rw [hBS] at h; exact (h.blkAt 0 rfl).cell 3
            have K4 : ∀ W, KS w BS W → W.cell? ⟨w.heap.size, 4, none⟩ = some (.int .i64 R.sk) := fun W h => by rw [hBS] at h; exact (h.blkAt 0 rfl).cell 4
            have K5 : ∀ W, KS w BS W → W.cell? ⟨w.heap.size, 5, none⟩ = some (.int .i64 R.ss) := fun W h => by rw [hBS] at h; exact (h.blkAt 0 rfl).cell 5
            have K6 : ∀ W, KS w BS W → W.cell? ⟨w.heap.size, 6, none⟩ = some (.int .i64 R.db) := fun W h => by rw [hBS] at h; exact (h.blkAt 0 rfl).cell 6
            have HBS := Lib.hid hBS
            clear hBS
            have L0 : ∀ W, KS w BS W → W.cell? ⟨g, o + j, none⟩ = some (.string cl) := fun W h => (HSKN.out.below h.bel).2.1.2.1 j cl HCL.out
            refine wp_region_held_drew (S := KS w BS) (by kernel_rfl) hS (fun hHeld => ?_)
            clear hS
            refine wpAnyH_take (i := 0) (v := ?_) rfl (by kernel_rfl) (by kernel_rfl) (by kernel_rfl) (fun _ _ _ h => h) (Or.inl ⟨by rfl, ?h0⟩) hHeld ?_
            case h0 =>
              intro w' hSw
              (try dsimp only at hSw)
              go_simp
              (try with_reducible rfl)
            (try simp only [Act.put]); (try simp only [List.setIfInBounds_toArray]); (try simp only [List.set_cons_succ]); (try simp only [List.set_cons_zero])
            refine wpAnyH_take (i := 1) (v := ?_) rfl (by kernel_rfl) (by kernel_rfl) (by kernel_rfl) (fun _ _ _ h => h) (Or.inl ⟨by rfl, ?h1⟩) hHeld ?_
            case h1 =>
              intro w' hSw
              (try dsimp only at hSw)
              go_simp
              (try with_reducible rfl)
            (try simp only [Act.put]); (try simp only [List.setIfInBounds_toArray]); (try simp only [List.set_cons_succ]); (try simp only [List.set_cons_zero])
            refine wpAnyH_take (i := 2) (v := ?_) rfl (by kernel_rfl) (by kernel_rfl) (by kernel_rfl) (fun _ _ _ h => h) (Or.inl ⟨by rfl, ?h2⟩) hHeld ?_
            case h2 =>
              intro w' hSw
              (try dsimp only at hSw)
              go_simp
              (try with_reducible rfl)
            (try simp only [Act.put]); (try simp only [List.setIfInBounds_toArray]); (try simp only [List.set_cons_succ]); (try simp only [List.set_cons_zero])
            refine wpAnyH_take (i := 3) (v := ?_) rfl (by kernel_rfl) (by kernel_rfl) (by kernel_rfl) (fun _ _ _ h => h) (Or.inl ⟨by rfl, ?h3⟩) hHeld ?_
            case h3 =>
              intro w' hSw
              (try dsimp only at hSw)
              go_simp
              (try with_reducible rfl)
            (try simp only [Act.put]); (try simp only [List.setIfInBounds_toArray]); (try simp only [List.set_cons_succ]); (try simp only [List.set_cons_zero])
            refine wpAnyH_take (i := 4) (v := ?_) rfl (by kernel_rfl) (by kernel_rfl) (by kernel_rfl) (fun _ _ _ h => h) (Or.inl ⟨by rfl, ?h4⟩) hHeld ?_
            case h4 =>
              intro w' hSw
              (try dsimp only at hSw)
              go_simp
              (try with_reducible rfl)
            (try simp only [Act.put]); (try simp only [List.setIfInBounds_toArray]); (try simp only [List.set_cons_succ]); (try simp only [List.set_cons_zero])
            refine wpAnyH_take (i := 8) (v := ?_) rfl (by kernel_rfl) (by kernel_rfl) (by kernel_rfl) (fun _ _ _ h => h) (Or.inl ⟨by rfl, ?h8⟩) hHeld ?_
            case h8 =>
              intro w' hSw
              (try dsimp only at hSw)
              go_simp
              (try with_reducible rfl)
            (try simp only [Act.put]); (try simp only [List.setIfInBounds_toArray]); (try simp only [List.set_cons_succ]); (try simp only [List.set_cons_zero])
            refine wpAnyH_take (i := 9) (v := ?_) rfl (by kernel_rfl) (by kernel_rfl) (by kernel_rfl) (fun _ _ _ h => h) (Or.inl ⟨by rfl, ?h9⟩) hHeld ?_
            case h9 =>
              intro w' hSw
              (try dsimp only at hSw)
              go_simp
              (try with_reducible rfl)
            (try simp only [Act.put]); (try simp only [List.setIfInBounds_toArray]); (try simp only [List.set_cons_succ]); (try simp only [List.set_cons_zero])
            refine wpAnyH_take (i := 10) (v := ?_) rfl (by kernel_rfl) (by kernel_rfl) (by kernel_rfl) (fun _ _ _ h => h) (Or.inl ⟨by rfl, ?h10⟩) hHeld ?_
            case h10 =>
              intro w' hSw
              (try dsimp only at hSw)
              go_simp
              (try with_reducible rfl)
            (try simp only [Act.put]); (try simp only [List.setIfInBounds_toArray]); (try simp only [List.set_cons_succ]); (try simp only [List.set_cons_zero])
            refine wpAnyH_take (i := 11) (v := ?_) rfl (by kernel_rfl) (by kernel_rfl) (by kernel_rfl) (fun _ _ _ h => h) (Or.inl ⟨by rfl, ?h11⟩) hHeld ?_
            case h11 =>
              intro w' hSw
              (try dsimp only at hSw)
              go_simp
              (try with_reducible rfl)
            (try simp only [Act.put]); (try simp only [List.setIfInBounds_toArray]); (try simp only [List.set_cons_succ]); (try simp only [List.set_cons_zero])
            refine wpAnyH_ready (rs := [5]) (by kernel_rfl) (by simp) ?_
            refine AllReadyH.cons rfl (fun K hK => ?_) (AllReadyH.nil)
            go_simp
            refine hK.out _ _ (hHeld.alloc _) (fun hHeld => ?_)
            clear hK K
            (try simp only [Act.put]); (try simp only [List.setIfInBounds_toArray]); (try simp only [List.set_cons_succ]); (try simp only [List.set_cons_zero])
            refine wpAnyH_ready (rs := [6]) (by kernel_rfl) (by simp) ?_
            refine AllReadyH.cons rfl (fun K hK => ?_) (AllReadyH.nil)
            go_simp
            refine hK.out _ _ hHeld (fun hHeld => ?_)
            clear hK K
            (try simp only [Act.put]); (try simp only [List.setIfInBounds_toArray]); (try simp only [List.set_cons_succ]); (try simp only [List.set_cons_zero])
            refine wpAnyH_take (i := 7) (v := ?_) rfl (by kernel_rfl) (by kernel_rfl) (by kernel_rfl) (fun _ _ _ h => h) (Or.inl ⟨by rfl, ?h7⟩) hHeld ?_
            case h7 =>
              intro w' hSw
              (try dsimp only at hSw)
              go_simp
              (try with_reducible rfl)
            (try simp only [Act.put]); (try simp only [List.setIfInBounds_toArray]); (try simp only [List.set_cons_succ]); (try simp only [List.set_cons_zero])
            refine wpAnyH_take (i := 12) (v := ?_) rfl (by kernel_rfl) (by kernel_rfl) (by kernel_rfl) (fun _ _ _ h => h) (Or.inl ⟨by rfl, ?h12⟩) hHeld ?_
            case h12 =>
              intro w' hSw
              (try dsimp only at hSw)
              go_simp
              (try with_reducible rfl)
            (try simp only [Act.put]); (try simp only [List.setIfInBounds_toArray]); (try simp only [List.set_cons_succ]); (try simp only [List.set_cons_zero])
            refine wpAnyH_ready (rs := [13]) (by kernel_rfl) (by simp) ?_
            refine AllReadyH.cons rfl (fun K hK => ?_) (AllReadyH.nil)
            go_simp
            have HNB := Lib.hid (two_new w9 #[.int .u8 ((cl[i2]).toNat : Int)] #[.string (x.extract 0 i ++ oneK cl[i2] ++ x.extract (i + 1) x.size)] 5 9).2.1.drew
            have HO11 := Lib.hid (((HO9.out.alloc (.cells #[.int .u8 ((cl[i2]).toNat : Int)] 5)).alloc (.cells #[.string (x.extract 0 i ++ oneK cl[i2] ++ x.extract (i + 1) x.size)] 9)).drew)
            refine hK.out _ _ (hHeld.alloc _) (fun hHeld => ?_)
            clear hK K
            (try simp only [Act.put]); (try simp only [List.setIfInBounds_toArray]); (try simp only [List.set_cons_succ]); (try simp only [List.set_cons_zero])
            refine wpAnyH_ready (rs := [14]) (by kernel_rfl) (by simp) ?_
            refine AllReadyH.cons rfl (fun K hK => ?_) (AllReadyH.nil)
            refine step_append_own rfl _ _ 22 rfl Bl 9 i0 _ 1 16 Tryz.underlying22 HI.out.1 HI.out.2.1 HI.out.2.2.1 HI.out.2.2.2 rfl (by decide) _ ls.length _ rfl HO11.out ⟨w9.heap.size + 1, 0, none⟩ 1 1 [.string (x.extract 0 i ++ oneK cl[i2] ++ x.extract (i + 1) x.size)] rfl rfl (news_one (HNB.out.cell 0)) (by intro u hu; simp at hu; subst hu; rfl) (by unfold maxLen; omega) (by omega) (by have := hbl9; show Bl ≤ ((w9.alloc _).alloc _).heap.size; simp; omega) ?_
            intro v' w7 hown hgr _
            have HO7 := Lib.hid hown
            have HB7 := Lib.hid (show Bl ≤ w7.heap.size from Nat.le_trans (by have := hbl9; show Bl ≤ ((w9.alloc _).alloc _).heap.size; simp; omega) hgr.size)
            have hS3 : KS w BS w7 := by rw [HBS.out]; have h := hHeld; rw [HBS.out] at h; exact KS1_rowg h hgr HBl.out (fun r e => (HO9.out.lt r e).1)
            clear hown hgr
            refine hK.out _ _ hS3 (fun hHeld => ?_)
            clear hK K hS3
            (try simp only [Act.put]); (try simp only [List.setIfInBounds_toArray]); (try simp only [List.set_cons_succ]); (try simp only [List.set_cons_zero])
            refine wpAnyH_ready (rs := [15]) (by kernel_rfl) (by simp) ?_
            refine AllReadyH.cons rfl (fun K hK => ?_) (AllReadyH.nil)
            go_simp
            refine hK.out _ _ hHeld (fun hHeld => ?_)
            clear hK K
            (try simp only [Act.put]); (try simp only [List.setIfInBounds_toArray]); (try simp only [List.set_cons_succ]); (try simp only [List.set_cons_zero])
            refine wpAnyH_done (by kernel_rfl) ?_ _
            have hs7 := hHeld
            rw [HBS.out] at hs7
            have S7 := Lib.hid hs7
            clear hHeld hs7
            clear K0 K1 K2 K3 K4 K5 K6 L0 HBS
            go_wp2_with fail
            go_roundw
            case rel =>
              refine ⟨j + 1, by omega, by go_num, ⟨ls ++ [x.extract 0 i ++ oneK cl[i2] ++ x.extract (i + 1) x.size], by rw [List.length_append, show strsV (ls ++ [x.extract 0 i ++ oneK cl[i2] ++ x.extract (i + 1) x.size]) = strsV ls ++ [.string (x.extract 0 i ++ oneK cl[i2] ++ x.extract (i + 1) x.size)] by simp [strsV]]; exact HO7.out, fun z hz => by
              rcases List.mem_append.1 hz with h | h
              · exact HOK.out z h
              · simp at h; rw [h]; exact HOZ.out, by rw [List.length_append]; simp; omega, HB7.out, S7.out⟩⟩
            case measure => simp [intOf]; omega
        · skip
          have pjn : ¬ (j : Int) < (n : Int) := by omega
          obtain ⟨ls, hown, hok, hll, hbl, hks⟩ := H.out
          obtain ⟨kb0_0, kb0_1, kb0_2, kb0_3, kb0_4, kb0_5, kb0_6⟩ := (hks.blkAt 0 rfl).c7
          have HO := Lib.hid hown
          have HOK := Lib.hid hok
          have HS := Lib.hid hks
          have hsf := HT.out.2.2
          have hn1000 : n ≤ 1000 := by have := HT.out.1; have := HN.out; omega
          clear hown hok hks H
          by_cases hs0 : 0 < R.soft.size
          · have ps : (0 : Int) < (R.soft.size : Int) := by omega
            obtain ⟨i2, hi2⟩ : ∃ i2, i2 = m2 % R.soft.size := ⟨_, rfl⟩
            have hi2c : i2 < R.soft.size := by rw [hi2]; exact Nat.mod_lt m2 hs0
            have frem : (m2 : Int).tmod (R.soft.size : Int) = (i2 : Int) := by rw [hi2]; exact (Int.ofNat_tmod m2 R.soft.size).symm
            have frem2 : (m2 : Int) % (R.soft.size : Int) = (i2 : Int) := by rw [hi2]; exact (Int.natCast_emod m2 R.soft.size).symm
            have em2 : IntKind.i64.wrap (m2 : Int) = (m2 : Int) := IntWalk.i64_in _ (by omega)
            have hcz : ¬ (R.soft.size : Int) = 0 := by omega
            have hcz2 : ¬ R.soft.size = 0 := by omega
            have c0 : (0 : Int) ≤ (i2 : Int) := by omega
            have c1 : (i2 : Int) < (R.soft.size : Int) := by omega
            have hym : R.soft[i2] ∈ R.soft.data.toList := List.mem_of_getElem? (get_u8 hi2c)
            have HOZ := Lib.hid (v_soft HGD.out HSP.out (by omega) hix hym)
            have hconv := fun (W : World) => conv_oneK R.soft[i2] W
            have hconv2 : ∀ W : World, (convert 56 9 (.slice (some ⟨W.heap.size, 0, none⟩) 1 1)).run Tryz.prog (W.alloc (.cells #[.int .u8 ((R.soft[i2]).toNat : Int)] 5)).drew = .ok (.string (oneK R.soft[i2])) (W.alloc (.cells #[.int .u8 ((R.soft[i2]).toNat : Int)] 5)).drew := fun W => conv_oneK R.soft[i2] W.drew
            have qz1 : ¬ 9223372036854775807 < min (i + 1) x.size + (oneK R.soft[i2]).size := by rw [show (oneK R.soft[i2]).size = 1 from rfl]; omega
            have qz2 : ¬ 9223372036854775807 < min (i + 1) x.size + (oneK R.soft[i2]).size + (x.size - (i + 1)) := by rw [show (oneK R.soft[i2]).size = 1 from rfl]; omega
            clear hi2 hym
            have HO9 := HO
            have hbl9 := hbl
            obtain ⟨i0, hi0, hz0, hz1, hz2⟩ := info_parts tInfo9
            have HI := Lib.hid (And.intro hi0 (And.intro hz0 (And.intro hz1 hz2)))
            clear hi0 hz0 hz1 hz2
            go_wp2_with fail
            obtain ⟨BS, hBS⟩ : ∃ BS : List (Nat × Array Value × TypeId), BS = [(w.heap.size, rulesC a n c R.soft R.al R.ot R.sk R.ss R.db, 24)] := ⟨_, rfl⟩
            have hS : KS w BS wr.drew := by rw [hBS]; exact HS.out.drew
            have K0 : ∀ W, KS w BS W → W.cell? ⟨w.heap.size, 0, none⟩ = some (.slice a n c) := fun W h => by rw [hBS] at h; exact (h.blkAt 0 rfl).cell 0
            have K1 : ∀ W, KS w BS W → W.cell? ⟨w.heap.size, 1, none⟩ = some (.string R.soft) := fun W h => by rw [hBS] at h; exact (h.blkAt 0 rfl).cell 1
            have K2 : ∀ W, KS w BS W → W.cell? ⟨w.heap.size, 2, none⟩ = some (.int .i64 R.al) := fun W h => by rw [hBS] at h; exact (h.blkAt 0 rfl).cell 2
            have K3 : ∀ W, KS w BS W → W.cell? ⟨w.heap.size, 3, none⟩ = some (.int .i64 R.ot) := fun W h => by rw [hBS] at h; exact (h.blkAt 0 rfl).cell 3
            have K4 : ∀ W, KS w BS W → W.cell? ⟨w.heap.size, 4, none⟩ = some (.int .i64 R.sk) := fun W h => by rw [hBS] at h; exact (h.blkAt 0 rfl).cell 4
            have K5 : ∀ W, KS w BS W → W.cell? ⟨w.heap.size, 5, none⟩ = some (.int .i64 R.ss) := fun W h => by rw [hBS] at h; exact (h.blkAt 0 rfl).cell 5
            have K6 : ∀ W, KS w BS W → W.cell? ⟨w.heap.size, 6, none⟩ = some (.int .i64 R.db) := fun W h => by rw [hBS] at h; exact (h.blkAt 0 rfl).cell 6
            have HBS := Lib.hid hBS
            clear hBS
            clear kb0_0 kb0_1 kb0_2 kb0_3 kb0_4 kb0_5 kb0_6
            refine wp_region_held_drew (S := KS w BS) (by kernel_rfl) hS (fun hHeld => ?_)
            clear hS
            refine wpAnyH_take (i := 0) (v := ?_) rfl (by kernel_rfl) (by kernel_rfl) (by kernel_rfl) (fun _ _ _ h => h) (Or.inl ⟨by rfl, ?h0⟩) hHeld ?_
            case h0 =>
              intro w' hSw
              (try dsimp only at hSw)
              go_simp
              (try with_reducible rfl)
            (try simp only [Act.put]); (try simp only [List.setIfInBounds_toArray]); (try simp only [List.set_cons_succ]); (try simp only [List.set_cons_zero])
            refine wpAnyH_take (i := 1) (v := ?_) rfl (by kernel_rfl) (by kernel_rfl) (by kernel_rfl) (fun _ _ _ h => h) (Or.inl ⟨by rfl, ?h1⟩) hHeld ?_
            case h1 =>
              intro w' hSw
              (try dsimp only at hSw)
              go_simp
              (try with_reducible rfl)
            (try simp only [Act.put]); (try simp only [List.setIfInBounds_toArray]); (try simp only [List.set_cons_succ]); (try simp only [List.set_cons_zero])
            refine wpAnyH_take (i := 2) (v := ?_) rfl (by kernel_rfl) (by kernel_rfl) (by kernel_rfl) (fun _ _ _ h => h) (Or.inl ⟨by rfl, ?h2⟩) hHeld ?_
            case h2 =>
              intro w' hSw
              (try dsimp only at hSw)
              go_simp
              (try with_reducible rfl)
            (try simp only [Act.put]); (try simp only [List.setIfInBounds_toArray]); (try simp only [List.set_cons_succ]); (try simp only [List.set_cons_zero])
            refine wpAnyH_take (i := 3) (v := ?_) rfl (by kernel_rfl) (by kernel_rfl) (by kernel_rfl) (fun _ _ _ h => h) (Or.inl ⟨by rfl, ?h3⟩) hHeld ?_
            case h3 =>
              intro w' hSw
              (try dsimp only at hSw)
              go_simp
              (try with_reducible rfl)
            (try simp only [Act.put]); (try simp only [List.setIfInBounds_toArray]); (try simp only [List.set_cons_succ]); (try simp only [List.set_cons_zero])
            refine wpAnyH_take (i := 4) (v := ?_) rfl (by kernel_rfl) (by kernel_rfl) (by kernel_rfl) (fun _ _ _ h => h) (Or.inl ⟨by rfl, ?h4⟩) hHeld ?_
            case h4 =>
              intro w' hSw
              (try dsimp only at hSw)
              go_simp
              (try with_reducible rfl)
            (try simp only [Act.put]); (try simp only [List.setIfInBounds_toArray]); (try simp only [List.set_cons_succ]); (try simp only [List.set_cons_zero])
            refine wpAnyH_take (i := 5) (v := ?_) rfl (by kernel_rfl) (by kernel_rfl) (by kernel_rfl) (fun _ _ _ h => h) (Or.inl ⟨by rfl, ?h5⟩) hHeld ?_
            case h5 =>
              intro w' hSw
              (try dsimp only at hSw)
              go_simp
              (try with_reducible rfl)
            (try simp only [Act.put]); (try simp only [List.setIfInBounds_toArray]); (try simp only [List.set_cons_succ]); (try simp only [List.set_cons_zero])
            refine wpAnyH_take (i := 6) (v := ?_) rfl (by kernel_rfl) (by kernel_rfl) (by kernel_rfl) (fun _ _ _ h => h) (Or.inl ⟨by rfl, ?h6⟩) hHeld ?_
            case h6 =>
              intro w' hSw
              (try dsimp only at hSw)
              go_simp
              (try with_reducible rfl)
            (try simp only [Act.put]); (try simp only [List.setIfInBounds_toArray]); (try simp only [List.set_cons_succ]); (try simp only [List.set_cons_zero])
            refine wpAnyH_take (i := 7) (v := ?_) rfl (by kernel_rfl) (by kernel_rfl) (by kernel_rfl) (fun _ _ _ h => h) (Or.inl ⟨by rfl, ?h7⟩) hHeld ?_
            case h7 =>
              intro w' hSw
              (try dsimp only at hSw)
              go_simp
              (try with_reducible rfl)
            (try simp only [Act.put]); (try simp only [List.setIfInBounds_toArray]); (try simp only [List.set_cons_succ]); (try simp only [List.set_cons_zero])
            refine wpAnyH_take (i := 8) (v := ?_) rfl (by kernel_rfl) (by kernel_rfl) (by kernel_rfl) (fun _ _ _ h => h) (Or.inl ⟨by rfl, ?h8⟩) hHeld ?_
            case h8 =>
              intro w' hSw
              (try dsimp only at hSw)
              go_simp
              (try with_reducible rfl)
            (try simp only [Act.put]); (try simp only [List.setIfInBounds_toArray]); (try simp only [List.set_cons_succ]); (try simp only [List.set_cons_zero])
            refine wpAnyH_take (i := 9) (v := ?_) rfl (by kernel_rfl) (by kernel_rfl) (by kernel_rfl) (fun _ _ _ h => h) (Or.inl ⟨by rfl, ?h9⟩) hHeld ?_
            case h9 =>
              intro w' hSw
              (try dsimp only at hSw)
              go_simp
              (try with_reducible rfl)
            (try simp only [Act.put]); (try simp only [List.setIfInBounds_toArray]); (try simp only [List.set_cons_succ]); (try simp only [List.set_cons_zero])
            refine wpAnyH_take (i := 10) (v := ?_) rfl (by kernel_rfl) (by kernel_rfl) (by kernel_rfl) (fun _ _ _ h => h) (Or.inl ⟨by rfl, ?h10⟩) hHeld ?_
            case h10 =>
              intro w' hSw
              (try dsimp only at hSw)
              go_simp
              (try with_reducible rfl)
            (try simp only [Act.put]); (try simp only [List.setIfInBounds_toArray]); (try simp only [List.set_cons_succ]); (try simp only [List.set_cons_zero])
            refine wpAnyH_take (i := 11) (v := ?_) rfl (by kernel_rfl) (by kernel_rfl) (by kernel_rfl) (fun _ _ _ h => h) (Or.inl ⟨by rfl, ?h11⟩) hHeld ?_
            case h11 =>
              intro w' hSw
              (try dsimp only at hSw)
              go_simp
              (try with_reducible rfl)
            (try simp only [Act.put]); (try simp only [List.setIfInBounds_toArray]); (try simp only [List.set_cons_succ]); (try simp only [List.set_cons_zero])
            refine wpAnyH_take (i := 15) (v := ?_) rfl (by kernel_rfl) (by kernel_rfl) (by kernel_rfl) (fun _ _ _ h => h) (Or.inl ⟨by rfl, ?h15⟩) hHeld ?_
            case h15 =>
              intro w' hSw
              (try dsimp only at hSw)
              go_simp
              (try with_reducible rfl)
            (try simp only [Act.put]); (try simp only [List.setIfInBounds_toArray]); (try simp only [List.set_cons_succ]); (try simp only [List.set_cons_zero])
            refine wpAnyH_take (i := 16) (v := ?_) rfl (by kernel_rfl) (by kernel_rfl) (by kernel_rfl) (fun _ _ _ h => h) (Or.inl ⟨by rfl, ?h16⟩) hHeld ?_
            case h16 =>
              intro w' hSw
              (try dsimp only at hSw)
              go_simp
              (try with_reducible rfl)
            (try simp only [Act.put]); (try simp only [List.setIfInBounds_toArray]); (try simp only [List.set_cons_succ]); (try simp only [List.set_cons_zero])
            refine wpAnyH_take (i := 17) (v := ?_) rfl (by kernel_rfl) (by kernel_rfl) (by kernel_rfl) (fun _ _ _ h => h) (Or.inl ⟨by rfl, ?h17⟩) hHeld ?_
            case h17 =>
              intro w' hSw
              (try dsimp only at hSw)
              go_simp
              (try with_reducible rfl)
            (try simp only [Act.put]); (try simp only [List.setIfInBounds_toArray]); (try simp only [List.set_cons_succ]); (try simp only [List.set_cons_zero])
            refine wpAnyH_take (i := 18) (v := ?_) rfl (by kernel_rfl) (by kernel_rfl) (by kernel_rfl) (fun _ _ _ h => h) (Or.inl ⟨by rfl, ?h18⟩) hHeld ?_
            case h18 =>
              intro w' hSw
              (try dsimp only at hSw)
              go_simp
              (try with_reducible rfl)
            (try simp only [Act.put]); (try simp only [List.setIfInBounds_toArray]); (try simp only [List.set_cons_succ]); (try simp only [List.set_cons_zero])
            refine wpAnyH_ready (rs := [12]) (by kernel_rfl) (by simp) ?_
            refine AllReadyH.cons rfl (fun K hK => ?_) (AllReadyH.nil)
            go_simp
            refine hK.out _ _ (hHeld.alloc _) (fun hHeld => ?_)
            clear hK K
            (try simp only [Act.put]); (try simp only [List.setIfInBounds_toArray]); (try simp only [List.set_cons_succ]); (try simp only [List.set_cons_zero])
            refine wpAnyH_ready (rs := [13]) (by kernel_rfl) (by simp) ?_
            refine AllReadyH.cons rfl (fun K hK => ?_) (AllReadyH.nil)
            go_simp
            refine hK.out _ _ hHeld (fun hHeld => ?_)
            clear hK K
            (try simp only [Act.put]); (try simp only [List.setIfInBounds_toArray]); (try simp only [List.set_cons_succ]); (try simp only [List.set_cons_zero])
            refine wpAnyH_take (i := 14) (v := ?_) rfl (by kernel_rfl) (by kernel_rfl) (by kernel_rfl) (fun _ _ _ h => h) (Or.inl ⟨by rfl, ?h14⟩) hHeld ?_
            case h14 =>
              intro w' hSw
              (try dsimp only at hSw)
              go_simp
              (try with_reducible rfl)
            (try simp only [Act.put]); (try simp only [List.setIfInBounds_toArray]); (try simp only [List.set_cons_succ]); (try simp only [List.set_cons_zero])
            refine wpAnyH_take (i := 19) (v := ?_) rfl (by kernel_rfl) (by kernel_rfl) (by kernel_rfl) (fun _ _ _ h => h) (Or.inl ⟨by rfl, ?h19⟩) hHeld ?_
            case h19 =>
              intro w' hSw
              (try dsimp only at hSw)
              go_simp
              (try with_reducible rfl)
            (try simp only [Act.put]); (try simp only [List.setIfInBounds_toArray]); (try simp only [List.set_cons_succ]); (try simp only [List.set_cons_zero])
            refine wpAnyH_ready (rs := [20]) (by kernel_rfl) (by simp) ?_
            refine AllReadyH.cons rfl (fun K hK => ?_) (AllReadyH.nil)
            go_simp
            have HNB := Lib.hid (two_new wr #[.int .u8 ((R.soft[i2]).toNat : Int)] #[.string (x.extract 0 (i + 1) ++ oneK R.soft[i2] ++ x.extract (i + 1) x.size)] 5 9).2.1.drew
            have HO11 := Lib.hid (((HO9.out.alloc (.cells #[.int .u8 ((R.soft[i2]).toNat : Int)] 5)).alloc (.cells #[.string (x.extract 0 (i + 1) ++ oneK R.soft[i2] ++ x.extract (i + 1) x.size)] 9)).drew)
            refine hK.out _ _ (hHeld.alloc _) (fun hHeld => ?_)
            clear hK K
            (try simp only [Act.put]); (try simp only [List.setIfInBounds_toArray]); (try simp only [List.set_cons_succ]); (try simp only [List.set_cons_zero])
            refine wpAnyH_ready (rs := [21]) (by kernel_rfl) (by simp) ?_
            refine AllReadyH.cons rfl (fun K hK => ?_) (AllReadyH.nil)
            refine step_append_own rfl _ _ 22 rfl Bl 9 i0 _ 1 16 Tryz.underlying22 HI.out.1 HI.out.2.1 HI.out.2.2.1 HI.out.2.2.2 rfl (by decide) _ ls.length _ rfl HO11.out ⟨wr.heap.size + 1, 0, none⟩ 1 1 [.string (x.extract 0 (i + 1) ++ oneK R.soft[i2] ++ x.extract (i + 1) x.size)] rfl rfl (news_one (HNB.out.cell 0)) (by intro u hu; simp at hu; subst hu; rfl) (by unfold maxLen; omega) (by omega) (by have := hbl9; show Bl ≤ ((wr.alloc _).alloc _).heap.size; simp; omega) ?_
            intro v' w7 hown hgr _
            have HO7 := Lib.hid hown
            have HB7 := Lib.hid (show Bl ≤ w7.heap.size from Nat.le_trans (by have := hbl9; show Bl ≤ ((wr.alloc _).alloc _).heap.size; simp; omega) hgr.size)
            have hS3 : KS w BS w7 := by rw [HBS.out]; have h := hHeld; rw [HBS.out] at h; exact KS1_rowg h hgr HBl.out (fun r e => (HO9.out.lt r e).1)
            clear hown hgr
            refine hK.out _ _ hS3 (fun hHeld => ?_)
            clear hK K hS3
            (try simp only [Act.put]); (try simp only [List.setIfInBounds_toArray]); (try simp only [List.set_cons_succ]); (try simp only [List.set_cons_zero])
            refine wpAnyH_ready (rs := [22]) (by kernel_rfl) (by simp) ?_
            refine AllReadyH.cons rfl (fun K hK => ?_) (AllReadyH.nil)
            go_simp
            refine hK.out _ _ hHeld (fun hHeld => ?_)
            clear hK K
            (try simp only [Act.put]); (try simp only [List.setIfInBounds_toArray]); (try simp only [List.set_cons_succ]); (try simp only [List.set_cons_zero])
            refine wpAnyH_done (by kernel_rfl) ?_ _
            have hs7 := hHeld
            rw [HBS.out] at hs7
            have S7 := Lib.hid hs7
            clear hHeld hs7
            clear K0 K1 K2 K3 K4 K5 K6 HBS
            obtain ⟨va, vg, vc, rfl, hsl, hvc⟩ := skn_of_row (n := (ls ++ [x.extract 0 (i + 1) ++ oneK R.soft[i2] ++ x.extract (i + 1) x.size]).length) (l := ls ++ [x.extract 0 (i + 1) ++ oneK R.soft[i2] ++ x.extract (i + 1) x.size]) (by rw [List.length_append, show strsV (ls ++ [x.extract 0 (i + 1) ++ oneK R.soft[i2] ++ x.extract (i + 1) x.size]) = strsV ls ++ [.string (x.extract 0 (i + 1) ++ oneK R.soft[i2] ++ x.extract (i + 1) x.size)] by simp [strsV]]; exact HO7.out)
            have HKL := Lib.hid (show KL w [(w.heap.size, rulesC a n c R.soft R.al R.ot R.sk R.ss R.db, 24)] va vg vc (ls ++ [x.extract 0 (i + 1) ++ oneK R.soft[i2] ++ x.extract (i + 1) x.size]).length (ls ++ [x.extract 0 (i + 1) ++ oneK R.soft[i2] ++ x.extract (i + 1) x.size]) _ from ⟨S7.out, hsl⟩)
            have HOK2 := Lib.hid (show ∀ z, z ∈ ls ++ [x.extract 0 (i + 1) ++ oneK R.soft[i2] ++ x.extract (i + 1) x.size] → OKv R x z from fun z hz => by
              rcases List.mem_append.1 hz with h | h
              · exact HOK.out z h
              · simp at h; rw [h]; exact HOZ.out)
            have hlk : (ls ++ [x.extract 0 (i + 1) ++ oneK R.soft[i2] ++ x.extract (i + 1) x.size]).length ≤ 1100 := by rw [List.length_append]; simp; omega
            generalize ls ++ [x.extract 0 (i + 1) ++ oneK R.soft[i2] ++ x.extract (i + 1) x.size] = l2 at *
            clear hsl
            go_wp2_with fail
            go_loopw [16] (fun y16 wr => ∃ p : Nat, p ≤ l2.length ∧ y16 = .int .i64 (p : Int) ∧ Hid (KL w [(w.heap.size, rulesC a n c R.soft R.al R.ot R.sk R.ss R.db, 24)] va vg vc l2.length l2 wr)) (fun y16 _ => l2.length - (intOf y16).toNat)
            case atStart => exact ⟨0, Nat.zero_le _, rfl, HKL.out⟩
            case round =>
              clear HKL
              obtain ⟨p, hp, rfl, H⟩ := hrel
              by_cases hpl : p < l2.length
              · obtain ⟨z, hz⟩ : ∃ z, l2[p]? = some z := ⟨_, List.getElem?_eq_getElem hpl⟩
                have hzm := List.mem_of_getElem? hz
                obtain ⟨hz1, hz2, hz3⟩ := HOK2.out z hzm
                have hne : l2 ≠ [] := by rintro rfl; simp at hpl
                have ev := H.out.2.2.1.1 hne
                subst ev
                have HZ := Lib.hid hz
                have HVZ := Lib.hid (show chkN R [z] = 0 from chkN_intro HGD.out (fun u hu => by simp at hu; subst hu; exact ⟨hz2, hz1⟩))
                have HZK := Lib.hid (show (⟨(keyR R z.data.toList).toArray⟩ : ByteArray) = kb from by rw [← HKB.out, hz3]; rfl)
                have hz1000 : z.size ≤ 1000 := by omega
                have pp0 : (0 : Int) ≤ (p : Int) := by omega
                have pp1 : (p : Int) < (l2.length : Int) := by omega
                clear hz hzm hz1 hz2 hz3 hne
                go_wp2_with fail
                obtain ⟨BS, hBS⟩ : ∃ BS : List (Nat × Array Value × TypeId), BS = [(w.heap.size, rulesC a n c R.soft R.al R.ot R.sk R.ss R.db, 24)] := ⟨_, rfl⟩
                have hS : KL w BS (some ⟨vg, 0, none⟩) vg vc l2.length l2 wr.drew := by rw [hBS]; exact H.out.drew
                have K0 : ∀ W, KL w BS (some ⟨vg, 0, none⟩) vg vc l2.length l2 W → W.cell? ⟨w.heap.size, 0, none⟩ = some (.slice a n c) := fun W h => by rw [hBS] at h; exact (h.1.blkAt 0 rfl).cell 0
                have K1 : ∀ W, KL w BS (some ⟨vg, 0, none⟩) vg vc l2.length l2 W → W.cell? ⟨w.heap.size, 1, none⟩ = some (.string R.soft) := fun W h => by rw [hBS] at h; exact (h.1.blkAt 0 rfl).cell 1
                have K2 : ∀ W, KL w BS (some ⟨vg, 0, none⟩) vg vc l2.length l2 W → W.cell? ⟨w.heap.size, 2, none⟩ = some (.int .i64 R.al) := fun W h => by rw [hBS] at h; exact (h.1.blkAt 0 rfl).cell 2
                have K3 : ∀ W, KL w BS (some ⟨vg, 0, none⟩) vg vc l2.length l2 W → W.cell? ⟨w.heap.size, 3, none⟩ = some (.int .i64 R.ot) := fun W h => by rw [hBS] at h; exact (h.1.blkAt 0 rfl).cell 3
                have K4 : ∀ W, KL w BS (some ⟨vg, 0, none⟩) vg vc l2.length l2 W → W.cell? ⟨w.heap.size, 4, none⟩ = some (.int .i64 R.sk) := fun W h => by rw [hBS] at h; exact (h.1.blkAt 0 rfl).cell 4
                have K5 : ∀ W, KL w BS (some ⟨vg, 0, none⟩) vg vc l2.length l2 W → W.cell? ⟨w.heap.size, 5, none⟩ = some (.int .i64 R.ss) := fun W h => by rw [hBS] at h; exact (h.1.blkAt 0 rfl).cell 5
                have K6 : ∀ W, KL w BS (some ⟨vg, 0, none⟩) vg vc l2.length l2 W → W.cell? ⟨w.heap.size, 6, none⟩ = some (.int .i64 R.db) := fun W h => by rw [hBS] at h; exact (h.1.blkAt 0 rfl).cell 6
                have HBS := Lib.hid hBS
                clear hBS
                have L0 : ∀ W, KL w BS (some ⟨vg, 0, none⟩) vg vc l2.length l2 W → W.cell? ⟨vg, p, none⟩ = some (.string z) := fun W h => by have e := h.2.2.1.2.1 p z HZ.out; rwa [Nat.zero_add] at e
                refine wp_region_held_drew (S := KL w BS (some ⟨vg, 0, none⟩) vg vc l2.length l2) (by kernel_rfl) hS (fun hHeld => ?_)
                clear hS
                refine wpAnyH_take (i := 0) (v := ?_) rfl (by kernel_rfl) (by kernel_rfl) (by kernel_rfl) (fun _ _ _ h => h) (Or.inl ⟨by rfl, ?h0⟩) hHeld ?_
                case h0 =>
                  intro w' hSw
                  (try dsimp only at hSw)
                  go_simp
                  (try with_reducible rfl)
                (try simp only [Act.put]); (try simp only [List.setIfInBounds_toArray]); (try simp only [List.set_cons_succ]); (try simp only [List.set_cons_zero])
                refine wpAnyH_take (i := 2) (v := ?_) rfl (by kernel_rfl) (by kernel_rfl) (by kernel_rfl) (fun _ _ _ h => h) (Or.inl ⟨by rfl, ?h2⟩) hHeld ?_
                case h2 =>
                  intro w' hSw
                  (try dsimp only at hSw)
                  go_simp
                  (try with_reducible rfl)
                (try simp only [Act.put]); (try simp only [List.setIfInBounds_toArray]); (try simp only [List.set_cons_succ]); (try simp only [List.set_cons_zero])
                refine wpAnyH_take (i := 3) (v := ?_) rfl (by kernel_rfl) (by kernel_rfl) (by kernel_rfl) (fun _ _ _ h => h) (Or.inl ⟨by rfl, ?h3⟩) hHeld ?_
                case h3 =>
                  intro w' hSw
                  (try dsimp only at hSw)
                  go_simp
                  (try with_reducible rfl)
                (try simp only [Act.put]); (try simp only [List.setIfInBounds_toArray]); (try simp only [List.set_cons_succ]); (try simp only [List.set_cons_zero])
                refine wpAnyH_take (i := 4) (v := ?_) rfl (by kernel_rfl) (by kernel_rfl) (by kernel_rfl) (fun _ _ _ h => h) (Or.inl ⟨by rfl, ?h4⟩) hHeld ?_
                case h4 =>
                  intro w' hSw
                  (try dsimp only at hSw)
                  go_simp
                  (try with_reducible rfl)
                (try simp only [Act.put]); (try simp only [List.setIfInBounds_toArray]); (try simp only [List.set_cons_succ]); (try simp only [List.set_cons_zero])
                refine wpAnyH_take (i := 5) (v := ?_) rfl (by kernel_rfl) (by kernel_rfl) (by kernel_rfl) (fun _ _ _ h => h) (Or.inl ⟨by rfl, ?h5⟩) hHeld ?_
                case h5 =>
                  intro w' hSw
                  (try dsimp only at hSw)
                  go_simp
                  (try with_reducible rfl)
                (try simp only [Act.put]); (try simp only [List.setIfInBounds_toArray]); (try simp only [List.set_cons_succ]); (try simp only [List.set_cons_zero])
                refine wpAnyH_ready (rs := [1]) (by kernel_rfl) (by simp) ?_
                refine AllReadyH.cons rfl (fun K hK => ?_) (AllReadyH.nil)
                go_simp
                (refine (C20.out _ hHeld.bel).mono ?_)
                rintro e w30 ⟨a30, g30, c30, rfl, hsk, hle30, hb⟩
                have HK30 := Lib.hid hsk
                have hS2 := hHeld.below hb
                clear hsk hb
                refine hK.out _ _ hS2 (fun hHeld => ?_)
                clear hK K hS2
                (try simp only [Act.put]); (try simp only [List.setIfInBounds_toArray]); (try simp only [List.set_cons_succ]); (try simp only [List.set_cons_zero])
                refine wpAnyH_ready (rs := [6]) (by kernel_rfl) (by simp) ?_
                refine AllReadyH.cons rfl (fun K hK => ?_) (AllReadyH.nil)
                go_simp
                (refine (Key_good a30 g30 0 c30 n R _ HN.out HK30.out hle30 HT.out z hz1000 HVZ.out).mono ?_)
                rintro e w31 ⟨rfl, hb⟩
                rw [HZK.out]
                have hS2 := hHeld.below hb
                clear hb
                refine hK.out _ _ hS2 (fun hHeld => ?_)
                clear hK K hS2
                (try simp only [Act.put]); (try simp only [List.setIfInBounds_toArray]); (try simp only [List.set_cons_succ]); (try simp only [List.set_cons_zero])
                refine wpAnyH_take (i := 7) (v := ?_) rfl (by kernel_rfl) (by kernel_rfl) (by kernel_rfl) (fun _ _ _ h => h) (Or.inl ⟨by rfl, ?h7⟩) hHeld ?_
                case h7 =>
                  intro w' hSw
                  (try dsimp only at hSw)
                  go_simp
                  (try with_reducible rfl)
                (try simp only [Act.put]); (try simp only [List.setIfInBounds_toArray]); (try simp only [List.set_cons_succ]); (try simp only [List.set_cons_zero])
                refine wpAnyH_take (i := 8) (v := ?_) rfl (by kernel_rfl) (by kernel_rfl) (by kernel_rfl) (fun _ _ _ h => h) (Or.inl ⟨by rfl, ?h8⟩) hHeld ?_
                case h8 =>
                  intro w' hSw
                  (try dsimp only at hSw)
                  go_simp
                  (try with_reducible rfl)
                (try simp only [Act.put]); (try simp only [List.setIfInBounds_toArray]); (try simp only [List.set_cons_succ]); (try simp only [List.set_cons_zero])
                refine wpAnyH_take (i := 9) (v := ?_) rfl (by kernel_rfl) (by kernel_rfl) (by kernel_rfl) (fun _ _ _ h => h) (Or.inl ⟨by rfl, ?h9⟩) hHeld ?_
                case h9 =>
                  intro w' hSw
                  (try dsimp only at hSw)
                  go_simp
                  (try with_reducible rfl)
                (try simp only [Act.put]); (try simp only [List.setIfInBounds_toArray]); (try simp only [List.set_cons_succ]); (try simp only [List.set_cons_zero])
                refine wpAnyH_ready (rs := [10]) (by kernel_rfl) (by simp) ?_
                refine AllReadyH.cons rfl (fun K hK => ?_) (AllReadyH.nil)
                go_simp
                refine hK.out _ _ hHeld (fun hHeld => ?_)
                clear hK K
                (try simp only [Act.put]); (try simp only [List.setIfInBounds_toArray]); (try simp only [List.set_cons_succ]); (try simp only [List.set_cons_zero])
                refine wpAnyH_ready (rs := [11]) (by kernel_rfl) (by simp) ?_
                refine AllReadyH.cons rfl (fun K hK => ?_) (AllReadyH.nil)
                go_simp
                refine hK.out _ _ hHeld (fun hHeld => ?_)
                clear hK K
                (try simp only [Act.put]); (try simp only [List.setIfInBounds_toArray]); (try simp only [List.set_cons_succ]); (try simp only [List.set_cons_zero])
                refine wpAnyH_done (by kernel_rfl) ?_ _
                have hs9 := hHeld
                rw [HBS.out] at hs9
                have S9 := Lib.hid hs9
                clear hHeld hs9 K0 K1 K2 K3 K4 K5 K6 L0 HBS
                go_wp2_with fail
                go_roundw
                case rel => exact ⟨p + 1, by omega, by go_num, S9.out⟩
                case measure => simp [intOf]; omega
              · have ppn : ¬ (p : Int) < (l2.length : Int) := by omega
                go_wp2_with (go_at_call 18; (refine (awake_any _).mono ?_); rintro e wA ⟨rfl, hbA⟩; have SA := Lib.hid (H.out.1.bel.trans (hbA.mono H.out.1.bel.size)); clear hbA)
                go_ret
                exact ⟨rfl, SA.out⟩
          · have ps : ¬ (0 : Int) < (R.soft.size : Int) := by omega
            obtain ⟨va, vg, vc, rfl, hsl, hvc⟩ := skn_of_row (n := (ls).length) (l := ls) (HO.out)
            have HKL := Lib.hid (show KL w [(w.heap.size, rulesC a n c R.soft R.al R.ot R.sk R.ss R.db, 24)] va vg vc (ls).length (ls) _ from ⟨HS.out, hsl⟩)
            have HOK2 := Lib.hid (show ∀ z, z ∈ ls → OKv R x z from HOK.out)
            have hlk : (ls).length ≤ 1100 := by omega
            obtain ⟨l2, rfl⟩ : ∃ l2, l2 = ls := ⟨_, rfl⟩
            clear hsl
            go_wp2_with fail
            go_loopw [16] (fun y16 wr => ∃ p : Nat, p ≤ l2.length ∧ y16 = .int .i64 (p : Int) ∧ Hid (KL w [(w.heap.size, rulesC a n c R.soft R.al R.ot R.sk R.ss R.db, 24)] va vg vc l2.length l2 wr)) (fun y16 _ => l2.length - (intOf y16).toNat)
            case atStart => exact ⟨0, Nat.zero_le _, rfl, HKL.out⟩
            case round =>
              clear HKL
              obtain ⟨p, hp, rfl, H⟩ := hrel
              by_cases hpl : p < l2.length
              · obtain ⟨z, hz⟩ : ∃ z, l2[p]? = some z := ⟨_, List.getElem?_eq_getElem hpl⟩
                have hzm := List.mem_of_getElem? hz
                obtain ⟨hz1, hz2, hz3⟩ := HOK2.out z hzm
                have hne : l2 ≠ [] := by rintro rfl; simp at hpl
                have ev := H.out.2.2.1.1 hne
                subst ev
                have HZ := Lib.hid hz
                have HVZ := Lib.hid (show chkN R [z] = 0 from chkN_intro HGD.out (fun u hu => by simp at hu; subst hu; exact ⟨hz2, hz1⟩))
                have HZK := Lib.hid (show (⟨(keyR R z.data.toList).toArray⟩ : ByteArray) = kb from by rw [← HKB.out, hz3]; rfl)
                have hz1000 : z.size ≤ 1000 := by omega
                have pp0 : (0 : Int) ≤ (p : Int) := by omega
                have pp1 : (p : Int) < (l2.length : Int) := by omega
                clear hz hzm hz1 hz2 hz3 hne
                go_wp2_with fail
                obtain ⟨BS, hBS⟩ : ∃ BS : List (Nat × Array Value × TypeId), BS = [(w.heap.size, rulesC a n c R.soft R.al R.ot R.sk R.ss R.db, 24)] := ⟨_, rfl⟩
                have hS : KL w BS (some ⟨vg, 0, none⟩) vg vc l2.length l2 wr.drew := by rw [hBS]; exact H.out.drew
                have K0 : ∀ W, KL w BS (some ⟨vg, 0, none⟩) vg vc l2.length l2 W → W.cell? ⟨w.heap.size, 0, none⟩ = some (.slice a n c) := fun W h => by rw [hBS] at h; exact (h.1.blkAt 0 rfl).cell 0
                have K1 : ∀ W, KL w BS (some ⟨vg, 0, none⟩) vg vc l2.length l2 W → W.cell? ⟨w.heap.size, 1, none⟩ = some (.string R.soft) := fun W h => by rw [hBS] at h; exact (h.1.blkAt 0 rfl).cell 1
                have K2 : ∀ W, KL w BS (some ⟨vg, 0, none⟩) vg vc l2.length l2 W → W.cell? ⟨w.heap.size, 2, none⟩ = some (.int .i64 R.al) := fun W h => by rw [hBS] at h; exact (h.1.blkAt 0 rfl).cell 2
                have K3 : ∀ W, KL w BS (some ⟨vg, 0, none⟩) vg vc l2.length l2 W → W.cell? ⟨w.heap.size, 3, none⟩ = some (.int .i64 R.ot) := fun W h => by rw [hBS] at h; exact (h.1.blkAt 0 rfl).cell 3
                have K4 : ∀ W, KL w BS (some ⟨vg, 0, none⟩) vg vc l2.length l2 W → W.cell? ⟨w.heap.size, 4, none⟩ = some (.int .i64 R.sk) := fun W h => by rw [hBS] at h; exact (h.1.blkAt 0 rfl).cell 4
                have K5 : ∀ W, KL w BS (some ⟨vg, 0, none⟩) vg vc l2.length l2 W → W.cell? ⟨w.heap.size, 5, none⟩ = some (.int .i64 R.ss) := fun W h => by rw [hBS] at h; exact (h.1.blkAt 0 rfl).cell 5
                have K6 : ∀ W, KL w BS (some ⟨vg, 0, none⟩) vg vc l2.length l2 W → W.cell? ⟨w.heap.size, 6, none⟩ = some (.int .i64 R.db) := fun W h => by rw [hBS] at h; exact (h.1.blkAt 0 rfl).cell 6
                have HBS := Lib.hid hBS
                clear hBS
                have L0 : ∀ W, KL w BS (some ⟨vg, 0, none⟩) vg vc l2.length l2 W → W.cell? ⟨vg, p, none⟩ = some (.string z) := fun W h => by have e := h.2.2.1.2.1 p z HZ.out; rwa [Nat.zero_add] at e
                refine wp_region_held_drew (S := KL w BS (some ⟨vg, 0, none⟩) vg vc l2.length l2) (by kernel_rfl) hS (fun hHeld => ?_)
                clear hS
                refine wpAnyH_take (i := 0) (v := ?_) rfl (by kernel_rfl) (by kernel_rfl) (by kernel_rfl) (fun _ _ _ h => h) (Or.inl ⟨by rfl, ?h0⟩) hHeld ?_
                case h0 =>
                  intro w' hSw
                  (try dsimp only at hSw)
                  go_simp
                  (try with_reducible rfl)
                (try simp only [Act.put]); (try simp only [List.setIfInBounds_toArray]); (try simp only [List.set_cons_succ]); (try simp only [List.set_cons_zero])
                refine wpAnyH_take (i := 2) (v := ?_) rfl (by kernel_rfl) (by kernel_rfl) (by kernel_rfl) (fun _ _ _ h => h) (Or.inl ⟨by rfl, ?h2⟩) hHeld ?_
                case h2 =>
                  intro w' hSw
                  (try dsimp only at hSw)
                  go_simp
                  (try with_reducible rfl)
                (try simp only [Act.put]); (try simp only [List.setIfInBounds_toArray]); (try simp only [List.set_cons_succ]); (try simp only [List.set_cons_zero])
                refine wpAnyH_take (i := 3) (v := ?_) rfl (by kernel_rfl) (by kernel_rfl) (by kernel_rfl) (fun _ _ _ h => h) (Or.inl ⟨by rfl, ?h3⟩) hHeld ?_
                case h3 =>
                  intro w' hSw
                  (try dsimp only at hSw)
                  go_simp
                  (try with_reducible rfl)
                (try simp only [Act.put]); (try simp only [List.setIfInBounds_toArray]); (try simp only [List.set_cons_succ]); (try simp only [List.set_cons_zero])
                refine wpAnyH_take (i := 4) (v := ?_) rfl (by kernel_rfl) (by kernel_rfl) (by kernel_rfl) (fun _ _ _ h => h) (Or.inl ⟨by rfl, ?h4⟩) hHeld ?_
                case h4 =>
                  intro w' hSw
                  (try dsimp only at hSw)
                  go_simp
                  (try with_reducible rfl)
                (try simp only [Act.put]); (try simp only [List.setIfInBounds_toArray]); (try simp only [List.set_cons_succ]); (try simp only [List.set_cons_zero])
                refine wpAnyH_take (i := 5) (v := ?_) rfl (by kernel_rfl) (by kernel_rfl) (by kernel_rfl) (fun _ _ _ h => h) (Or.inl ⟨by rfl, ?h5⟩) hHeld ?_
                case h5 =>
                  intro w' hSw
                  (try dsimp only at hSw)
                  go_simp
                  (try with_reducible rfl)
                (try simp only [Act.put]); (try simp only [List.setIfInBounds_toArray]); (try simp only [List.set_cons_succ]); (try simp only [List.set_cons_zero])
                refine wpAnyH_ready (rs := [1]) (by kernel_rfl) (by simp) ?_
                refine AllReadyH.cons rfl (fun K hK => ?_) (AllReadyH.nil)
                go_simp
                (refine (C20.out _ hHeld.bel).mono ?_)
                rintro e w30 ⟨a30, g30, c30, rfl, hsk, hle30, hb⟩
                have HK30 := Lib.hid hsk
                have hS2 := hHeld.below hb
                clear hsk hb
                refine hK.out _ _ hS2 (fun hHeld => ?_)
                clear hK K hS2
                (try simp only [Act.put]); (try simp only [List.setIfInBounds_toArray]); (try simp only [List.set_cons_succ]); (try simp only [List.set_cons_zero])
                refine wpAnyH_ready (rs := [6]) (by kernel_rfl) (by simp) ?_
                refine AllReadyH.cons rfl (fun K hK => ?_) (AllReadyH.nil)
                go_simp
                (refine (Key_good a30 g30 0 c30 n R _ HN.out HK30.out hle30 HT.out z hz1000 HVZ.out).mono ?_)
                rintro e w31 ⟨rfl, hb⟩
                rw [HZK.out]
                have hS2 := hHeld.below hb
                clear hb
                refine hK.out _ _ hS2 (fun hHeld => ?_)
                clear hK K hS2
                (try simp only [Act.put]); (try simp only [List.setIfInBounds_toArray]); (try simp only [List.set_cons_succ]); (try simp only [List.set_cons_zero])
                refine wpAnyH_take (i := 7) (v := ?_) rfl (by kernel_rfl) (by kernel_rfl) (by kernel_rfl) (fun _ _ _ h => h) (Or.inl ⟨by rfl, ?h7⟩) hHeld ?_
                case h7 =>
                  intro w' hSw
                  (try dsimp only at hSw)
                  go_simp
                  (try with_reducible rfl)
                (try simp only [Act.put]); (try simp only [List.setIfInBounds_toArray]); (try simp only [List.set_cons_succ]); (try simp only [List.set_cons_zero])
                refine wpAnyH_take (i := 8) (v := ?_) rfl (by kernel_rfl) (by kernel_rfl) (by kernel_rfl) (fun _ _ _ h => h) (Or.inl ⟨by rfl, ?h8⟩) hHeld ?_
                case h8 =>
                  intro w' hSw
                  (try dsimp only at hSw)
                  go_simp
                  (try with_reducible rfl)
                (try simp only [Act.put]); (try simp only [List.setIfInBounds_toArray]); (try simp only [List.set_cons_succ]); (try simp only [List.set_cons_zero])
                refine wpAnyH_take (i := 9) (v := ?_) rfl (by kernel_rfl) (by kernel_rfl) (by kernel_rfl) (fun _ _ _ h => h) (Or.inl ⟨by rfl, ?h9⟩) hHeld ?_
                case h9 =>
                  intro w' hSw
                  (try dsimp only at hSw)
                  go_simp
                  (try with_reducible rfl)
                (try simp only [Act.put]); (try simp only [List.setIfInBounds_toArray]); (try simp only [List.set_cons_succ]); (try simp only [List.set_cons_zero])
                refine wpAnyH_ready (rs := [10]) (by kernel_rfl) (by simp) ?_
                refine AllReadyH.cons rfl (fun K hK => ?_) (AllReadyH.nil)
                go_simp
                refine hK.out _ _ hHeld (fun hHeld => ?_)
                clear hK K
                (try simp only [Act.put]); (try simp only [List.setIfInBounds_toArray]); (try simp only [List.set_cons_succ]); (try simp only [List.set_cons_zero])
                refine wpAnyH_ready (rs := [11]) (by kernel_rfl) (by simp) ?_
                refine AllReadyH.cons rfl (fun K hK => ?_) (AllReadyH.nil)
                go_simp
                refine hK.out _ _ hHeld (fun hHeld => ?_)
                clear hK K
                (try simp only [Act.put]); (try simp only [List.setIfInBounds_toArray]); (try simp only [List.set_cons_succ]); (try simp only [List.set_cons_zero])
                refine wpAnyH_done (by kernel_rfl) ?_ _
                have hs9 := hHeld
                rw [HBS.out] at hs9
                have S9 := Lib.hid hs9
                clear hHeld hs9 K0 K1 K2 K3 K4 K5 K6 L0 HBS
                go_wp2_with fail
                go_roundw
                case rel => exact ⟨p + 1, by omega, by go_num, S9.out⟩
                case measure => simp [intOf]; omega
              · have ppn : ¬ (p : Int) < (l2.length : Int) := by omega
                go_wp2_with (go_at_call 18; (refine (awake_any _).mono ?_); rintro e wA ⟨rfl, hbA⟩; have SA := Lib.hid (H.out.1.bel.trans (hbA.mono H.out.1.bel.size)); clear hbA)
                go_ret
                exact ⟨rfl, SA.out⟩
end Go.Proofs.YtkdflgaahhnigaaGreat

namespace Go.Proofs.YtkdflgaahhnigaaGreat.nameSounds
open Go.ChangeShapes Go.WideShapes Go.ChangeAt Go.RowKit Go.Joins Go.Deep
open Go.ChangeMaps (open_string)

theorem own : ownKnob Tryz.prog.godebug = none := by kernel_rfl
theorem laidOut : laidOutB Tryz.prog = true := by kernel_rfl

set_option maxRecDepth 100000 in
theorem lifted (os : Os) (started : os.Started) (H : Type) (enc : TypeId × Value → H) :
    ReturnsInHanded {} Tryz.checked os 10 .any (Rows.nameSoundsSpec.pre6 enc Tryz.prog Tryz.f10 Rows.nameSoundsRow.domain false) (Rows.nameSoundsSpec.post enc Tryz.prog Tryz.f10 false true false false) := by
  refine returnsInHanded_of_change (C := Tryz.checked) own started (by kernel_rfl) Tryz.func10
    (ChangeSpec.witness6 (enc := enc) (C := Tryz.checked) false ⟨#[], #[.agg #[.slice none 0 0, .string ⟨#[]⟩, .int .i64 0, .int .i64 0, .int .i64 0, .int .i64 0, .int .i64 0], .string ⟨#[]⟩, .int .u8 0, .int .u8 0], []⟩ 8 (by kernel_rfl) (by kernel_rfl) (by kernel_rfl) (by kernel_rfl)) ?_
  intro W base args ds gs before hval0 hW hcnd _
  have hval : ∀ (j : Nat) t v, Tryz.f10.params[j]? = some t → args[j]? = some v → Value.okWide Tryz.prog W .any base t v := hval0
  have hW' := hW
  obtain ⟨p, q, hA0, hV, rfl, hfz, hnd⟩ := hW
  have hA : DataW.TrodAll enc Tryz.prog W 0 (fun _ => true) true Tryz.f10.params.toList args.toList ds p := hA0
  rw [Tryz.params10] at hA hval
  obtain ⟨v0, vs0, d0, ds0, p0, q0, hargs, rfl, rfl, h0, r0⟩ := trodAll_cons hA
  obtain ⟨v1, vs1, d1, ds1, p1, q1, rfl, rfl, rfl, h1, r1⟩ := trodAll_cons r0
  obtain ⟨v2, vs2, d2, ds2, p2, q2, rfl, rfl, rfl, h2, r2⟩ := trodAll_cons r1
  obtain ⟨v3, vs3, d3, ds3, p3, q3, rfl, rfl, rfl, h3, r3⟩ := trodAll_cons r2
  obtain ⟨rfl, rfl, rfl⟩ := trodAll_nil r3
  obtain rfl : args = #[v0, v1, v2, v3] := by cases args; simp_all
  obtain ⟨rfl, rfl⟩ := trodVars_none hV
  have k0 := h0
  have lt0 : ∀ x ∈ p0, x.block < W.heap.size := by obtain ⟨m, hm⟩ := k0; exact DataW.trod_lt m _ _ _ hm
  obtain ⟨a0, n0, c0, g0, o0, R0, rfl, sk0, hc0⟩ := open_rules (hval 0 24 v0 rfl rfl) h0
  have k1 := h1
  have lt1 : ∀ x ∈ p1, x.block < W.heap.size := by obtain ⟨m, hm⟩ := k1; exact DataW.trod_lt m _ _ _ hm
  obtain ⟨s1, rfl, rfl, rfl, w1⟩ := open_string Tryz.underlying9 (hval 1 9 v1 rfl rfl) h1
  have k2 := h2
  have lt2 : ∀ x ∈ p2, x.block < W.heap.size := by obtain ⟨m, hm⟩ := k2; exact DataW.trod_lt m _ _ _ hm
  obtain ⟨a2, rfl, rfl, rfl, w2⟩ := open_int Tryz.underlying5 (hval 2 5 v2 rfl rfl) h2
  have k3 := h3
  have lt3 : ∀ x ∈ p3, x.block < W.heap.size := by obtain ⟨m, hm⟩ := k3; exact DataW.trod_lt m _ _ _ hm
  obtain ⟨a3, rfl, rfl, rfl, w3⟩ := open_int Tryz.underlying5 (hval 3 5 v3 rfl rfl) h3
  clear hA0 hval0
  refine (NameSounds_walk a0 g0 o0 c0 n0 R0 W sk0 hc0 s1 a2 a3 w2 w3).mono fun e W' ⟨he, bel⟩ => ?_
  subst he
  exact ⟨_, rfl, _, _, _, [], _, [], hW', trodAll_mk1 (shut_bool Tryz.underlying4 _), (trodAll_cons_mk (Below.trod laidOut (by kernel_rfl) (of_decide_eq_true (by kernel_rfl)) k0 bel lt0) (trodAll_cons_mk (Below.trod laidOut (by kernel_rfl) (of_decide_eq_true (by kernel_rfl)) k1 bel lt1) (trodAll_cons_mk (Below.trod laidOut (by kernel_rfl) (of_decide_eq_true (by kernel_rfl)) k2 bel lt2) (trodAll_cons_mk (Below.trod laidOut (by kernel_rfl) (of_decide_eq_true (by kernel_rfl)) k3 bel lt3) trodAll_mk0)))), rfl, bel.frame _, fun h => by cases h⟩

theorem over : Rows.nameSoundsRow.holds Tryz.pinned (OpenSpec.ofChange Rows.nameSoundsSpec) :=
  OpenClaim.holds_of_wide 10 Tryz.f10 rfl rfl rfl rfl rfl rfl rfl ⟨rfl, rfl, rfl, rfl, rfl⟩ rfl rfl rfl rfl rfl (by kernel_rfl) Tryz.func10 (by kernel_rfl)
    (of_decide_eq_true (by kernel_rfl)) (by unfold Func.isWrapper; first | (rw [if_pos (by decide +kernel)]; kernel_rfl) | (rw [if_neg (by decide +kernel)]; exact ⟨rfl, rfl⟩))
    (fun os started H enc _ => lifted os started H enc)
end Go.Proofs.YtkdflgaahhnigaaGreat.nameSounds
namespace Go.Proofs.YtkdflgaahhnigaaGreat
/-- THE STATEMENT -/
theorem nameSounds_holds : Rows.NameSoundsSaid := nameSounds.over
#print axioms nameSounds_holds
end Go.Proofs.YtkdflgaahhnigaaGreat
