/- NameNears: the walk. NameNears: for every input the statement returns true, and each argument reads behind the call as it read before. No condition. -/
import Derived.Test.YtkdflgaahhnigaaGreatC19
import Derived.Test.YtkdflgaahhnigaaGreatC12
import Derived.ProofKit
import Derived.OpenShut
import Derived.ShutString
import Derived.ChangeOld
import Derived.Below
import Derived.Lib.SmallJoins
import Derived.Deep.Slices
set_option linter.unusedVariables false
set_option linter.unusedSimpArgs false
namespace Go.Proofs.YtkdflgaahhnigaaGreat
open Go.RowKit Go.Shelf

theorem nodup_lt : ∀ (n : Nat) (l : List Nat), l.Nodup → (∀ x, x ∈ l → x < n) → l.length ≤ n
  | 0, l, _, h => by
    cases l with
    | nil => simp
    | cons x t => have := h x (by simp); omega
  | n+1, l, hd, h => by
    have h2 := nodup_lt n (l.erase n) (hd.erase n) (fun x hx => by
      have h3 := h x (List.mem_of_mem_erase hx)
      have h4 : x ≠ n := fun e => by subst e; exact (List.Nodup.not_mem_erase hd) hx
      omega)
    have h5 := List.le_length_erase (a := n) (l := l)
    omega
theorem due_len (c : Nat → Nat) (m L : Nat) (h : m ≤ 12) : (Nm.dueL c m L).length ≤ 12 := by
  have hnd : (Nm.dueL c m L).Nodup := (Nm.dueL_sorted c m (L + 1)).imp fun {x y} h e => by subst e; exact Nm.lex_irrefl c x h
  have := nodup_lt m _ hnd (fun x hx => ((Nm.dueL_mem c m L x).1 hx).1)
  omega
theorem lst_chk {R : RB} {ys mo : List ByteArray} (h : lstN R ys mo = 0) : ys.length ≤ 12 ∧ chkN R (ys ++ mo) = 0 := by
  unfold lstN at h
  by_cases h12 : 12 < ys.length
  · rw [if_pos h12] at h; cases h
  · rw [if_neg h12] at h; exact ⟨by omega, h⟩
set_option maxRecDepth 100000 in
set_option maxHeartbeats 8000000 in
theorem NameNears_walk (a : Option Addr) (g o c n : Nat) (R : RB) (w : World) (hk : SKn w a g o c n R.cls) (hc : n ≤ c) (an : Option Addr) (gn on cn m : Nat) (ys : List ByteArray) (hkn : SKn w an gn on cn m ys) (hcm : m ≤ cn) (s : ByteArray) (lim : Int) (hlim : (Lit.int .i64 lim).wf = true) : Calls Tryz.prog 5 #[rulesV a n c R.soft R.al R.ot R.sk R.ss R.db, .slice an m cn, .string s, .int .i64 lim] w fun e w' => e = .returned (.bool true) ∧ Below w.heap.size w w' := by
  have C17 := Lib.hid (fun W (hW : Below w.heap.size w W) => Thin17 a g o c n R W hk.1 (hk.2.1.below hW) an gn on cn m ys hkn.1 (hkn.2.1.below hW))
  cases hr : thinB R ys with
  | false =>
    rw [hr] at C17
    have s0 := ((KS.start w).new (rulesC a n c R.soft R.al R.ot R.sk R.ss R.db) 24)
    obtain ⟨kb0_0, kb0_1, kb0_2, kb0_3, kb0_4, kb0_5, kb0_6⟩ := (s0.blkAt 0 rfl).c7
    have S0 := Lib.hid s0
    clear s0 hr hk hc hkn hcm hlim
    go_enter Tryz.func5, Tryz.ntmps5
    go_wp2_with fail
    refine (C17.out _ S0.out.bel).mono ?_
    rintro e w1 ⟨rfl, hb⟩
    have S1 := Lib.hid (S0.out.below hb)
    clear hb
    go_wp2_with (go_at_call 18; (refine (awake_any _).mono ?_); rintro e wA ⟨rfl, hbA⟩; have SA := Lib.hid (S1.out.bel.trans (hbA.mono S1.out.bel.size)); clear hbA)
    go_ret
    exact ⟨rfl, SA.out⟩
  | true =>
    rw [hr] at C17
    by_cases hs40 : 40 < s.size
    · have ps : (40 : Int) < (s.size : Int) := by omega
      clear hs40
      have s0 := ((KS.start w).new (rulesC a n c R.soft R.al R.ot R.sk R.ss R.db) 24)
      obtain ⟨kb0_0, kb0_1, kb0_2, kb0_3, kb0_4, kb0_5, kb0_6⟩ := (s0.blkAt 0 rfl).c7
      have S0 := Lib.hid s0
      clear s0 hr hk hc hkn hcm hlim
      go_enter Tryz.func5, Tryz.ntmps5
      go_wp2_with fail
      refine (C17.out _ S0.out.bel).mono ?_
      rintro e w1 ⟨rfl, hb⟩
      have S1 := Lib.hid (S0.out.below hb)
      clear hb
      go_wp2_with (go_at_call 18; (refine (awake_any _).mono ?_); rintro e wA ⟨rfl, hbA⟩; have SA := Lib.hid (S1.out.bel.trans (hbA.mono S1.out.bel.size)); clear hbA)
      go_ret
      exact ⟨rfl, SA.out⟩
    have ps : ¬ (40 : Int) < (s.size : Int) := by omega
    have ht := thin_thn hr
    obtain ⟨hl15, hl40⟩ := thin_l hr
    have hn900 : R.cls.length ≤ 900 := by
      simp only [thinB, Bool.and_eq_true] at hr
      have := (shB_len hr.1).1; omega
    have hnn := hk.1
    have hmm := hkn.1
    have hls : ∀ z, z ∈ ys ++ [s] → z.size ≤ 1000 := fun z hz => by
      rcases List.mem_append.1 hz with h | h
      · have := hl40 z h; omega
      · simp at h; rw [h]; omega
    have C20 := Lib.hid (fun W (hW : Below w.heap.size w W) => Rules20 a g o c n R W (hk.below hW) (by omega))
    have C28 := Lib.hid (fun W (hW : Below w.heap.size w W) => list28' an gn on cn m ys W (hkn.below hW) (by omega))
    have C29 := Lib.hid (fun W mb (hW : Below w.heap.size w W) (hmb : Blk W mb #[.string s] 9) => listed29_one a g o c n R W hk.1 (hk.2.1.below hW) ht an gn on cn m ys (hkn.below hW) (by omega) mb s hmb hls)
    have C30 := Lib.hid (fun W => rIn_any lim 0 5000 W)
    have HT := Lib.hid ht
    have HN := Lib.hid hk.1
    have HLS := Lib.hid hls
    have HSK := Lib.hid hk
    have HKN := Lib.hid hkn
    have HMM := Lib.hid hmm
    have hm15 : m ≤ 15 := by omega
    have hm900 : m ≤ 900 := by omega
    have s0 := ((KS.start w).new (rulesC a n c R.soft R.al R.ot R.sk R.ss R.db) 24)
    obtain ⟨kb0_0, kb0_1, kb0_2, kb0_3, kb0_4, kb0_5, kb0_6⟩ := (s0.blkAt 0 rfl).c7
    have S0 := Lib.hid s0
    clear s0 hr hk hc hkn hcm hlim ht hl15 hl40 hn900 hnn hmm hls
    go_enter Tryz.func5, Tryz.ntmps5
    go_wp2_with fail
    refine (C17.out _ S0.out.bel).mono ?_
    rintro e w1 ⟨rfl, hb⟩
    clear kb0_0 kb0_1 kb0_2 kb0_3 kb0_4 kb0_5 kb0_6
    have s1 := S0.out.below hb
    obtain ⟨kb0_0, kb0_1, kb0_2, kb0_3, kb0_4, kb0_5, kb0_6⟩ := (s1.blkAt 0 rfl).c7
    have S1 := Lib.hid s1
    clear hb s1
    go_wp2_with fail
    refine (C20.out _ S1.out.bel).mono ?_
    rintro e w2 ⟨a2, g2, c2, rfl, hsk, hle2, hb⟩
    have HK2 := Lib.hid hsk
    clear hsk
    clear kb0_0 kb0_1 kb0_2 kb0_3 kb0_4 kb0_5 kb0_6
    have s2 := S1.out.below hb
    obtain ⟨kb0_0, kb0_1, kb0_2, kb0_3, kb0_4, kb0_5, kb0_6⟩ := (s2.blkAt 0 rfl).c7
    have S2 := Lib.hid s2
    clear hb s2
    go_wp2_with fail
    refine (C28.out _ S2.out.bel).mono ?_
    rintro e w3 ⟨b3, d3, e3, rfl, hsl, hll3, hb⟩
    have HL3 := Lib.hid hsl
    clear hsl
    have HR3 := Lib.hid (HK2.out.below hb)
    clear kb0_0 kb0_1 kb0_2 kb0_3 kb0_4 kb0_5 kb0_6
    have s3 := S2.out.below hb
    obtain ⟨kb0_0, kb0_1, kb0_2, kb0_3, kb0_4, kb0_5, kb0_6⟩ := (s3.blkAt 0 rfl).c7
    have S3 := Lib.hid s3
    clear hb s3
    go_wp2_with fail
    refine (Near_any a2 g2 0 c2 n R _ HN.out HR3.out hle2 HT.out b3 d3 0 e3 m ys HL3.out hll3 hm900 s HLS.out lim).mono ?_
    rintro e w4 ⟨v, rfl, hv, hb⟩
    have X4 := Lib.hid (XR.of hv rfl)
    clear hv
    clear kb0_0 kb0_1 kb0_2 kb0_3 kb0_4 kb0_5 kb0_6
    have s4 := S3.out.below hb
    obtain ⟨kb0_0, kb0_1, kb0_2, kb0_3, kb0_4, kb0_5, kb0_6⟩ := (s4.blkAt 0 rfl).c7
    have S4 := Lib.hid s4
    clear hb s4
    go_wp2_with fail
    refine (C29.out _ w4.heap.size (S4.out.bel.alloc S4.out.size _) (Blk.new w4 _ _)).mono ?_
    rintro e w5 ⟨rfl, hb⟩
    have X5 := Lib.hid ((X4.out.below ((Below.refl _ _).alloc (Nat.le_refl _) _)).below hb)
    clear kb0_0 kb0_1 kb0_2 kb0_3 kb0_4 kb0_5 kb0_6
    have s5 := (S4.out.alloc (.cells #[.string s] 9)).below hb
    obtain ⟨kb0_0, kb0_1, kb0_2, kb0_3, kb0_4, kb0_5, kb0_6⟩ := (s5.blkAt 0 rfl).c7
    have S5 := Lib.hid s5
    clear hb s5
    obtain ⟨xa, xg, xc, rfl, _⟩ := ik_own X5.out.1
    by_cases h0 : lstN R ys [s] = 0
    · cases hb : inB lim 0 5000 with
      | false =>
        have hE : nearE R ys s lim = 2 := by unfold nearE; rw [if_pos h0, hb]; rfl
        have hX : nearV R ys s lim = [] := by unfold nearV; rw [if_neg (by omega)]
        rw [hb] at C30
        rw [hE, hX, h0]
        clear hE hX h0 hb
        go_wp2_with (first | (go_at_call 30; (with_reducible refine (C30.out _).mono ?_); rintro e w9 ⟨rfl, rfl⟩) | (go_at_call 18; (refine (awake_any _).mono ?_); rintro e wA ⟨rfl, hbA⟩; have SA := Lib.hid (S5.out.bel.trans (hbA.mono S5.out.bel.size)); clear hbA))
        go_ret
        exact ⟨rfl, SA.out⟩
      | true =>
        have hE : nearE R ys s lim = 0 := by unfold nearE; rw [if_pos h0, hb]; rfl
        have hX : nearV R ys s lim = nearL R s ys lim.toNat := by unfold nearV; rw [if_pos hE]
        rw [hb] at C30
        rw [hE, h0]
        obtain ⟨hl0, hl5⟩ := inB_iff.1 hb
        obtain ⟨L, rfl⟩ := Int.eq_ofNat_of_zero_le hl0
        obtain ⟨hlc, hv⟩ := lst_chk h0
        obtain ⟨hgd, hnm⟩ := chkN_ok hv
        have hs12 := hnm s (by simp)
        have hny : NmsOk ys := fun y hy => hnm y (by simp [hy])
        have HGD := Lib.hid hgd
        have HNY := Lib.hid hny
        have HS12 := Lib.hid hs12
        have HX := Lib.hid hX
        have hm12 : m ≤ 12 := by have := HMM.out; omega
        clear hE hX h0 hb hl0 hv hlc hgd hnm hs12 hny
        go_wp2_with (go_at_call 30; (with_reducible refine (C30.out _).mono ?_); rintro e w9 ⟨rfl, rfl⟩)
        clear kb0_0 kb0_1 kb0_2 kb0_3 kb0_4 kb0_5 kb0_6
        have s9 := S5.out
        obtain ⟨Bc, hBc⟩ : ∃ B, B = w5.heap.size := ⟨_, rfl⟩
        have hBw : w.heap.size < Bc := by rw [hBc]; exact S5.out.lt 0 rfl
        have X9 := Lib.hid (show XR w5 Bc (.slice xa (nearV R ys s (L : Int)).length xc) (nearV R ys s (L : Int)) from ⟨X5.out.1, fun j e => by rw [hBc]; exact (X5.out.1.lt j e).2⟩)
        have S9 := Lib.hid (show KS w [(w.heap.size, rulesC a n c R.soft R.al R.ot R.sk R.ss R.db, 24)] w5 from s9.sub (by simp))
        have hb9 : Bc ≤ w5.heap.size := by omega
        have HB9 := Lib.hid hb9
        clear s9 hBc hb9
        generalize nearV R ys s (L : Int) = xl at *
        go_loopw [12, 14] (fun y12 y14 wr => ∃ (i : Nat), i ≤ m ∧ y14 = .int .i64 (i : Int) ∧ Hid (wr.ownsRow Bc 3 1 y12 i (natsV ((costsL R s ys).take i)) ∧ KS w [(w.heap.size, rulesC a n c R.soft R.al R.ot R.sk R.ss R.db, 24)] wr ∧ XR wr Bc (.slice xa xl.length xc) xl ∧ Bc ≤ wr.heap.size)) (fun _ y14 _ => m - (intOf y14).toNat)
        case atStart => exact ⟨0, Nat.zero_le _, rfl, World.ownsRow_nil _ _ _ _, S9.out, X9.out, HB9.out⟩
        case round =>
          clear S9 X9 HB9
          obtain ⟨i, hi, rfl, H⟩ := hrel
          by_cases him : i < m
          · have hne : ys ≠ [] := by rintro rfl; have := HMM.out; simp at this; omega
            have e1 := HKN.out.2.1.1 hne
            subst e1
            obtain ⟨y, hy⟩ : ∃ y, ys[i]? = some y := ⟨ys[i]'(by rw [HMM.out]; exact him), by simp⟩
            have hym := List.mem_of_getElem? hy
            have HY := Lib.hid hy
            have hy12 := HNY.out y hym
            have C24 := Lib.hid (fun W (hW : Below w.heap.size w W) => rCost24 a g o c n R W HN.out (HSK.out.2.1.below hW) HGD.out HT.out s y HS12.out.1 hy12.1)
            have hcs : (costsL R s ys).take (i + 1) = (costsL R s ys).take i ++ [cR R s y 0 0] := by rw [List.take_add_one]; unfold costsL; rw [List.getElem?_map, hy]; rfl
            have HCS := Lib.hid hcs
            have pi0 : (0 : Int) ≤ (i : Int) := by omega
            have pi1 : (i : Int) < (m : Int) := by omega
            generalize cR R s y 0 0 = cv at *
            obtain ⟨i0, hi0, hz0, hz1, hz2⟩ := info_parts tInfo3
            have HI := Lib.hid (And.intro hi0 (And.intro hz0 (And.intro hz1 hz2)))
            clear hne hy hym hy12 hcs hi0 hz0 hz1 hz2
            go_wp2_with fail
            obtain ⟨BS, hBS⟩ : ∃ BS : List (Nat × Array Value × TypeId), BS = [(w.heap.size, rulesC a n c R.soft R.al R.ot R.sk R.ss R.db, 24)] := ⟨_, rfl⟩
            have hS : KS w BS wr.drew := by rw [hBS]; exact H.out.2.1.drew
            have K0 : ∀ W, KS w BS W → W.cell? ⟨w.heap.size, 0, none⟩ = some (.slice a n c) := fun W h => by rw [hBS] at h; exact (h.blkAt 0 rfl).cell 0
            have K1 : ∀ W, KS w BS W → W.cell? ⟨w.heap.size, 1, none⟩ = some (.string R.soft) := fun W h => by rw [hBS] at h; exact (h.blkAt 0 rfl).cell 1
            have K2 : ∀ W, KS w BS W → W.cell? ⟨w.heap.size, 2, none⟩ = some (.int .i64 R.al) := fun W h => by rw [hBS] at h; exact (h.blkAt 0 rfl).cell 2
            have K3 : ∀ W, KS w BS W → W.cell? ⟨w.heap.size, 3, none⟩ = some (.int .i64 R.ot) := fun W h => by rw [hBS] at h; exact (h.blkAt 0 rfl).cell 3
            have K4 : ∀ W, KS w BS W → W.cell? ⟨w.heap.size, 4, none⟩ = some (.int .i64 R.sk) := fun W h => by rw [hBS] at h; exact (h.blkAt 0 rfl).cell 4
            have K5 : ∀ W, KS w BS W → W.cell? ⟨w.heap.size, 5, none⟩ = some (.int .i64 R.ss) := fun W h => by rw [hBS] at h; exact (h.blkAt 0 rfl).cell 5
            have K6 : ∀ W, KS w BS W → W.cell? ⟨w.heap.size, 6, none⟩ = some (.int .i64 R.db) := fun W h => by rw [hBS] at h; exact (h.blkAt 0 rfl).cell 6
            have HBS := Lib.hid hBS
            clear hBS
            have L0 : ∀ W, KS w BS W → W.cell? ⟨gn, on + i, none⟩ = some (.string y) := fun W h => (HKN.out.below h.bel).2.1.2.1 i y HY.out
            refine wp_region_held_drew (S := KS w BS) (by kernel_rfl) hS (fun hHeld => ?_)
            clear hS
            refine wpAnyH_take (i := 0) (v := ?_) rfl (by kernel_rfl) (by kernel_rfl) (by kernel_rfl) (fun _ _ _ h => h) (Or.inl ⟨by rfl, ?h0⟩) hHeld ?_
            case h0 =>
              intro w' hSw
              (try dsimp only at hSw)
              go_simp
              (try with_reducible rfl)
            (try simp only [Act.put]); (try simp only [List.setIfInBounds_toArray]); (try simp only [List.set_cons_succ]); (try simp only [List.set_cons_zero])
            refine wpAnyH_take (i := 1) (v := ?_) rfl (by kernel_rfl) (by kernel_rfl) (by kernel_rfl) (fun _ _ _ h => h) (Or.inl ⟨by rfl, ?h1⟩) hHeld ?_
            case h1 =>
              intro w' hSw
              (try dsimp only at hSw)
              go_simp
              (try with_reducible rfl)
            (try simp only [Act.put]); (try simp only [List.setIfInBounds_toArray]); (try simp only [List.set_cons_succ]); (try simp only [List.set_cons_zero])
            refine wpAnyH_take (i := 2) (v := ?_) rfl (by kernel_rfl) (by kernel_rfl) (by kernel_rfl) (fun _ _ _ h => h) (Or.inl ⟨by rfl, ?h2⟩) hHeld ?_
            case h2 =>
              intro w' hSw
              (try dsimp only at hSw)
              go_simp
              (try with_reducible rfl)
            (try simp only [Act.put]); (try simp only [List.setIfInBounds_toArray]); (try simp only [List.set_cons_succ]); (try simp only [List.set_cons_zero])
            refine wpAnyH_take (i := 3) (v := ?_) rfl (by kernel_rfl) (by kernel_rfl) (by kernel_rfl) (fun _ _ _ h => h) (Or.inl ⟨by rfl, ?h3⟩) hHeld ?_
            case h3 =>
              intro w' hSw
              (try dsimp only at hSw)
              go_simp
              (try with_reducible rfl)
            (try simp only [Act.put]); (try simp only [List.setIfInBounds_toArray]); (try simp only [List.set_cons_succ]); (try simp only [List.set_cons_zero])
            refine wpAnyH_take (i := 4) (v := ?_) rfl (by kernel_rfl) (by kernel_rfl) (by kernel_rfl) (fun _ _ _ h => h) (Or.inl ⟨by rfl, ?h4⟩) hHeld ?_
            case h4 =>
              intro w' hSw
              (try dsimp only at hSw)
              go_simp
              (try with_reducible rfl)
            (try simp only [Act.put]); (try simp only [List.setIfInBounds_toArray]); (try simp only [List.set_cons_succ]); (try simp only [List.set_cons_zero])
            refine wpAnyH_take (i := 5) (v := ?_) rfl (by kernel_rfl) (by kernel_rfl) (by kernel_rfl) (fun _ _ _ h => h) (Or.inl ⟨by rfl, ?h5⟩) hHeld ?_
            case h5 =>
              intro w' hSw
              (try dsimp only at hSw)
              go_simp
              (try with_reducible rfl)
            (try simp only [Act.put]); (try simp only [List.setIfInBounds_toArray]); (try simp only [List.set_cons_succ]); (try simp only [List.set_cons_zero])
            refine wpAnyH_take (i := 6) (v := ?_) rfl (by kernel_rfl) (by kernel_rfl) (by kernel_rfl) (fun _ _ _ h => h) (Or.inl ⟨by rfl, ?h6⟩) hHeld ?_
            case h6 =>
              intro w' hSw
              (try dsimp only at hSw)
              go_simp
              (try with_reducible rfl)
            (try simp only [Act.put]); (try simp only [List.setIfInBounds_toArray]); (try simp only [List.set_cons_succ]); (try simp only [List.set_cons_zero])
            refine wpAnyH_ready (rs := [7]) (by kernel_rfl) (by simp) ?_
            refine AllReadyH.cons rfl (fun K hK => ?_) (AllReadyH.nil)
            go_simp
            (refine (C24.out _ hHeld.bel).mono ?_)
            rintro e w5 ⟨rfl, hb⟩
            have hb2 := (Below.refl _ wr).drew.trans hb
            have HO5 := Lib.hid (row_below H.out.1 hb2)
            have HX5 := Lib.hid (H.out.2.2.1.below hb2)
            have HB5 := Lib.hid (Nat.le_trans H.out.2.2.2 hb2.size)
            have hS2 := hHeld.below hb
            clear hb hb2
            refine hK.out _ _ hS2 (fun hHeld => ?_)
            clear hK K hS2
            (try simp only [Act.put]); (try simp only [List.setIfInBounds_toArray]); (try simp only [List.set_cons_succ]); (try simp only [List.set_cons_zero])
            refine wpAnyH_ready (rs := [8]) (by kernel_rfl) (by simp) ?_
            refine AllReadyH.cons rfl (fun K hK => ?_) (AllReadyH.nil)
            go_simp
            have HNB := Lib.hid (Blk.new w5 #[.int .i64 (cv : Int)] 3)
            refine hK.out _ _ (hHeld.alloc _) (fun hHeld => ?_)
            clear hK K
            (try simp only [Act.put]); (try simp only [List.setIfInBounds_toArray]); (try simp only [List.set_cons_succ]); (try simp only [List.set_cons_zero])
            refine wpAnyH_ready (rs := [9]) (by kernel_rfl) (by simp) ?_
            refine AllReadyH.cons rfl (fun K hK => ?_) (AllReadyH.nil)
            refine step_append_own rfl _ _ 41 rfl Bc 3 i0 _ 1 8 Tryz.underlying41 HI.out.1 HI.out.2.1 HI.out.2.2.1 HI.out.2.2.2 rfl (by decide) _ i _ rfl (HO5.out.alloc _) ⟨w5.heap.size, 0, none⟩ 1 1 [.int .i64 (cv : Int)] rfl rfl (news_one (HNB.out.cell 0)) (by intro u hu; simp at hu; subst hu; rfl) (by unfold maxLen; omega) (by omega) (by have := HB5.out; simp; omega) ?_
            intro v' w7 hown hgr _
            have HO7 := Lib.hid hown
            have HX7 := Lib.hid ((HX5.out.below ((Below.refl _ w5).alloc (Nat.le_refl _) _)).grown hgr (fun r e => (HO5.out.lt r e).1))
            have HB7 := Lib.hid (show Bc ≤ w7.heap.size from Nat.le_trans HB5.out (Nat.le_trans (by simp) hgr.size))
            have hS3 : KS w BS w7 := by rw [HBS.out]; have h := hHeld; rw [HBS.out] at h; exact KS1_rowg h hgr hBw (fun r e => (HO5.out.lt r e).1)
            clear hown hgr
            refine hK.out _ _ hS3 (fun hHeld => ?_)
            clear hK K hS3
            (try simp only [Act.put]); (try simp only [List.setIfInBounds_toArray]); (try simp only [List.set_cons_succ]); (try simp only [List.set_cons_zero])
            refine wpAnyH_ready (rs := [10]) (by kernel_rfl) (by simp) ?_
            refine AllReadyH.cons rfl (fun K hK => ?_) (AllReadyH.nil)
            go_simp
            refine hK.out _ _ hHeld (fun hHeld => ?_)
            clear hK K
            (try simp only [Act.put]); (try simp only [List.setIfInBounds_toArray]); (try simp only [List.set_cons_succ]); (try simp only [List.set_cons_zero])
            refine wpAnyH_done (by kernel_rfl) ?_ _
            have hks7 := hHeld
            rw [HBS.out] at hks7
            clear hHeld K0 K1 K2 K3 K4 K5 K6 L0 HBS
            have S8 := Lib.hid (show _ ∧ KS w [(w.heap.size, rulesC a n c R.soft R.al R.ot R.sk R.ss R.db, 24)] w7 ∧ XR w7 Bc (.slice xa xl.length xc) xl ∧ Bc ≤ w7.heap.size from ⟨HO7.out, hks7, HX7.out, HB7.out⟩)
            clear hks7 HO7 HX7 HB7
            go_wp2_with fail
            go_roundw
            case rel => exact ⟨i + 1, by omega, by go_num, by rw [HCS.out, ← natsV_snoc]; exact S8.out⟩
            case measure => simp [intOf]; omega
          · have him2 : i = m := by omega
            have pim : ¬ (i : Int) < (m : Int) := by omega
            have hfull : (costsL R s ys).take i = costsL R s ys := List.take_of_length_le (by unfold costsL; rw [List.length_map, HMM.out]; omega)
            have hcl : (costsL R s ys).length = m := by unfold costsL; rw [List.length_map, HMM.out]
            have hS := H.out
            rw [hfull, him2] at hS
            obtain ⟨ca, cg, cc, rfl, _⟩ := ik_own hS.1
            have hcap : ∀ j, j < m → (costsL R s ys).getD j 0 ≤ 2400 := fun j hj => by
              obtain ⟨y, hy⟩ : ∃ y, ys[j]? = some y := ⟨ys[j]'(by rw [HMM.out]; exact hj), by simp⟩
              unfold costsL
              rw [List.getD_eq_getElem?_getD, List.getElem?_map, hy]
              exact cR_le HGD.out HS12.out.1 (HNY.out y (List.mem_of_getElem? hy)).1 0 0
            have HCAP := Lib.hid hcap
            have HXL := Lib.hid (show xl = Nm.dueL (fun j => (costsL R s ys).getD j 0) m L by have h := HX.out; rw [h]; unfold nearL; rw [HMM.out]; rfl)
            have HXL1000 := Lib.hid (show xl.length ≤ 12 by rw [HXL.out]; exact due_len _ _ _ hm12)
            obtain ⟨Bd, hBd⟩ : ∃ B, B = wr.heap.size := ⟨_, rfl⟩
            have hBdw : w.heap.size < Bd := by rw [hBd]; exact hS.2.1.lt 0 rfl
            have X5 := Lib.hid (show XR wr Bd (.slice xa xl.length xc) xl ∧ XR wr Bd (.slice ca m cc) (costsL R s ys) ∧ Bd ≤ wr.heap.size ∧ KS w [(w.heap.size, rulesC a n c R.soft R.al R.ot R.sk R.ss R.db, 24)] wr from ⟨⟨hS.2.2.1.1, fun j e => by rw [hBd]; exact (hS.2.2.1.1.lt j e).2⟩, by rw [hBd]; exact XR.of hS.1 hcl.symm, by omega, hS.2.1⟩)
            have HCL := Lib.hid hcl
            generalize costsL R s ys = cl at *
            clear hfull hcl hS hcap hBd H him2 him
            by_cases h24 : 2400 < L
            · have pl : (2400 : Int) < (L : Int) := by omega
              have hmin : min (L : Int) 2400 = 2400 := by omega
              have HD := Lib.hid (show xl = dD (fun j => cl.getD j 0) m (2400 + 1) by rw [HXL.out, due_cap _ _ _ (by omega) HCAP.out]; rfl)
              clear h24
              go_wp2_with fail
              go_loopw [13, 15] (fun y13 y15 wr => ∃ (k : Nat), k ≤ 2400 + 1 ∧ y15 = .int .i64 (k : Int) ∧ Hid (wr.ownsRow Bd 3 1 y13 (dD (fun j => cl.getD j 0) m k).length (natsV (dD (fun j => cl.getD j 0) m k)) ∧ XR wr Bd (.slice xa xl.length xc) xl ∧ XR wr Bd (.slice ca m cc) cl ∧ Bd ≤ wr.heap.size ∧ KS w [(w.heap.size, rulesC a n c R.soft R.al R.ot R.sk R.ss R.db, 24)] wr)) (fun _ y15 _ => 2400 + 1 - (intOf y15).toNat)
              case atStart => exact ⟨0, Nat.zero_le _, rfl, World.ownsRow_nil _ _ _ _, X5.out⟩
              case round =>
                clear X5
                obtain ⟨k, hk, rfl, H⟩ := hrel
                by_cases hkM : k ≤ 2400
                · have pk : (k : Int) ≤ 2400 := by omega
                  have HDS := Lib.hid (dD_succ (fun j => cl.getD j 0) m k)
                  have hdl := dD_len (fun j => cl.getD j 0) m k
                  have hkm : k * m ≤ 2400 * 12 := Nat.mul_le_mul (by omega) hm12
                  generalize dD (fun j => cl.getD j 0) m k = dk at *
                  go_wp2_with fail
                  go_loopw [13, 16] (fun y13 y16 wr => ∃ (j : Nat), j ≤ m ∧ y16 = .int .i64 (j : Int) ∧ Hid (wr.ownsRow Bd 3 1 y13 (dk ++ (List.range j).filter fun i => cl.getD i 0 == k).length (natsV (dk ++ (List.range j).filter fun i => cl.getD i 0 == k)) ∧ XR wr Bd (.slice xa xl.length xc) xl ∧ XR wr Bd (.slice ca m cc) cl ∧ Bd ≤ wr.heap.size ∧ KS w [(w.heap.size, rulesC a n c R.soft R.al R.ot R.sk R.ss R.db, 24)] wr)) (fun _ y16 _ => m - (intOf y16).toNat)
                  case atStart => exact ⟨0, Nat.zero_le _, rfl, Lib.hid (by simpa using H.out)⟩
                  case round =>
                    clear H
                    obtain ⟨j, hj, rfl, H⟩ := hrel
                    by_cases hjm : j < m
                    · obtain ⟨qg, qc, e1⟩ := Joins.ownsRow_form H.out.2.2.1.1 (by rw [HCL.out]; omega)
                      rw [HCL.out] at e1
                      cases e1
                      have hrc := RowC.own (show _ from by have h := H.out.2.2.1.1; rw [HCL.out] at h; exact h)
                      obtain ⟨cj, hcj⟩ : ∃ cj, cl[j]? = some cj := ⟨_, List.getElem?_eq_getElem (by rw [HCL.out]; exact hjm)⟩
                      have kcell := hrc.2 j cj hcj
                      have hgd : cl.getD j 0 = cj := by rw [List.getD_eq_getElem?_getD, hcj]; rfl
                      have HFS := Lib.hid (fl_snoc (fun i => cl.getD i 0) j k)
                      have hfl := fl_len (fun i => cl.getD i 0) j k
                      have pj0 : (0 : Int) ≤ (j : Int) := by omega
                      have pj1 : (j : Int) < (m : Int) := by omega
                      clear hrc hcj
                      by_cases hck : cj = k
                      · have te : ((cj : Int) == (k : Int)) = true := by rw [beq_iff_eq]; omega
                        have HFS2 := Lib.hid (HFS.out.trans (if_pos (by show cl.getD j 0 = k; rw [hgd, hck])))
                        obtain ⟨i0, hi0, hz0, hz1, hz2⟩ := info_parts tInfo3
                        have HNB := Lib.hid (Blk.new wr #[.int .i64 (j : Int)] 3)
                        clear hck hgd
                        go_wp2_with (at_builtin; refine wpList_append_own_at _ rfl _ _ 41 rfl Bd 3 i0 _ 1 8 Tryz.underlying41 hi0 hz0 hz1 hz2 rfl (by decide) _ _ _ rfl (H.out.1.alloc _) ⟨wr.heap.size, 0, none⟩ 1 1 [.int .i64 (j : Int)] rfl rfl (news_one (HNB.out.cell 0)) (by intro u hu; simp at hu; subst hu; rfl) (by rw [List.length_append]; unfold maxLen; omega) (by rw [List.length_append]; omega) (by have := H.out.2.2.2.1; simp; omega) ?_; intro v' w7 hown hgr _ _; have HO7 := Lib.hid hown; have HG7 := Lib.hid hgr; clear hown hgr)
                        have hrw := fun r e => (H.out.1.lt r e).1
                        have S8 := Lib.hid (show w7.ownsRow Bd 3 1 v' (dk ++ (List.range (j + 1)).filter fun i => cl.getD i 0 == k).length (natsV (dk ++ (List.range (j + 1)).filter fun i => cl.getD i 0 == k)) ∧ XR w7 Bd (.slice xa xl.length xc) xl ∧ XR w7 Bd (.slice (some ⟨qg, 0, none⟩) m cc) cl ∧ Bd ≤ w7.heap.size ∧ KS w [(w.heap.size, rulesC a n c R.soft R.al R.ot R.sk R.ss R.db, 24)] w7 from by
                          have hal := (Below.refl wr.heap.size wr).alloc (Nat.le_refl _) (.cells #[.int .i64 (j : Int)] 3)
                          refine ⟨?_, (H.out.2.1.below hal).grown HG7.out hrw, (H.out.2.2.1.below hal).grown HG7.out hrw, Nat.le_trans H.out.2.2.2.1 (Nat.le_trans (by simp) HG7.out.size), KS1_rowg (H.out.2.2.2.2.below hal) HG7.out hBdw hrw⟩
                          have h := HO7.out
                          rw [natsV_snoc, List.append_assoc, ← HFS2.out] at h
                          rw [show (dk ++ (List.range (j + 1)).filter fun i => cl.getD i 0 == k).length = (dk ++ (List.range j).filter fun i => cl.getD i 0 == k).length + 1 by rw [HFS2.out]; simp; omega]
                          exact h)
                        clear HO7 HG7 H
                        go_wp2_with fail
                        go_roundw
                        case rel => exact ⟨j + 1, by omega, by go_num, S8.out⟩
                        case measure => simp [intOf]; omega
                      · have te : ((cj : Int) == (k : Int)) = false := by rw [beq_eq_false_iff_ne]; omega
                        have HFS2 := Lib.hid (HFS.out.trans (if_neg (by show ¬ cl.getD j 0 = k; rw [hgd]; exact hck)))
                        clear hck hgd
                        go_wp2_with fail
                        go_roundw
                        case rel => exact ⟨j + 1, by omega, by go_num, by rw [HFS2.out]; exact H.out⟩
                        case measure => simp [intOf]; omega
                    · have hjm2 : j = m := by omega
                      have S8 := Lib.hid (show _ from by have h := H.out; rw [hjm2, ← HDS.out] at h; exact h)
                      have pj1 : ¬ (j : Int) < (m : Int) := by omega
                      clear H hjm2 hjm
                      go_wp2_with fail
                      go_roundw
                      case rel => exact ⟨k + 1, by omega, by go_num, S8.out⟩
                      case measure => simp [intOf]; omega
                · have hk2 : k = 2400 + 1 := by omega
                  have pk : ¬ (k : Int) ≤ 2400 := by omega
                  have hS := H.out
                  rw [hk2, ← HD.out] at hS
                  obtain ⟨da, dg, dc, e1, hik⟩ := ik_own hS.1
                  subst e1
                  obtain ⟨xa2, xg2, xc2, e2, hik2⟩ := ik_own hS.2.1.1
                  cases e2
                  have hxl : xl.length ≤ 40000 := by
                    have h := dD_len (fun j => cl.getD j 0) m (2400 + 1)
                    rw [← HD.out] at h
                    have : (2400 + 1) * m ≤ 2401 * 12 := Nat.mul_le_mul (by omega) hm12
                    omega
                  have hx1000 : xl.length ≤ 1000 := by
                    have h := HXL1000.out
                    omega
                  have C31 := Lib.hid (ints_any _ xg2 0 xc xl.length (xl.map fun (k : Nat) => (k : Int)) da dg 0 dc xl.length (xl.map fun (k : Nat) => (k : Int)) wr hik2 hik hx1000 hx1000)
                  rw [decide_eq_true rfl] at C31
                  have S8 := Lib.hid hS.2.2.2.2
                  clear hS hik hik2 H hk2 hkM
                  go_wp2_with fail
                  refine C31.out.mono ?_
                  rintro e wE ⟨rfl, hb⟩
                  have S9 := Lib.hid (S8.out.below hb)
                  clear hb
                  go_wp2_with (go_at_call 18; (refine (awake_any _).mono ?_); rintro e wA ⟨rfl, hbA⟩; have SA := Lib.hid (S9.out.bel.trans (hbA.mono S9.out.bel.size)); clear hbA)
                  go_ret
                  exact ⟨rfl, SA.out⟩
            · have pl : ¬ (2400 : Int) < (L : Int) := by omega
              have hmin : min (L : Int) 2400 = (L : Int) := by omega
              have HD := Lib.hid (show xl = dD (fun j => cl.getD j 0) m (L + 1) by rw [HXL.out]; rfl)
              have hl24 : L ≤ 2400 := by omega
              clear h24
              go_wp2_with fail
              go_loopw [13, 15] (fun y13 y15 wr => ∃ (k : Nat), k ≤ L + 1 ∧ y15 = .int .i64 (k : Int) ∧ Hid (wr.ownsRow Bd 3 1 y13 (dD (fun j => cl.getD j 0) m k).length (natsV (dD (fun j => cl.getD j 0) m k)) ∧ XR wr Bd (.slice xa xl.length xc) xl ∧ XR wr Bd (.slice ca m cc) cl ∧ Bd ≤ wr.heap.size ∧ KS w [(w.heap.size, rulesC a n c R.soft R.al R.ot R.sk R.ss R.db, 24)] wr)) (fun _ y15 _ => L + 1 - (intOf y15).toNat)
              case atStart => exact ⟨0, Nat.zero_le _, rfl, World.ownsRow_nil _ _ _ _, X5.out⟩
              case round =>
                clear X5
                obtain ⟨k, hk, rfl, H⟩ := hrel
                by_cases hkM : k ≤ L
                · have pk : (k : Int) ≤ (L : Int) := by omega
                  have HDS := Lib.hid (dD_succ (fun j => cl.getD j 0) m k)
                  have hdl := dD_len (fun j => cl.getD j 0) m k
                  have hkm : k * m ≤ 2400 * 12 := Nat.mul_le_mul (by omega) hm12
                  generalize dD (fun j => cl.getD j 0) m k = dk at *
                  go_wp2_with fail
                  go_loopw [13, 16] (fun y13 y16 wr => ∃ (j : Nat), j ≤ m ∧ y16 = .int .i64 (j : Int) ∧ Hid (wr.ownsRow Bd 3 1 y13 (dk ++ (List.range j).filter fun i => cl.getD i 0 == k).length (natsV (dk ++ (List.range j).filter fun i => cl.getD i 0 == k)) ∧ XR wr Bd (.slice xa xl.length xc) xl ∧ XR wr Bd (.slice ca m cc) cl ∧ Bd ≤ wr.heap.size ∧ KS w [(w.heap.size, rulesC a n c R.soft R.al R.ot R.sk R.ss R.db, 24)] wr)) (fun _ y16 _ => m - (intOf y16).toNat)
                  case atStart => exact ⟨0, Nat.zero_le _, rfl, Lib.hid (by simpa using H.out)⟩
                  case round =>
                    clear H
                    obtain ⟨j, hj, rfl, H⟩ := hrel
                    by_cases hjm : j < m
                    · obtain ⟨qg, qc, e1⟩ := Joins.ownsRow_form H.out.2.2.1.1 (by rw [HCL.out]; omega)
                      rw [HCL.out] at e1
                      cases e1
                      have hrc := RowC.own (show _ from by have h := H.out.2.2.1.1; rw [HCL.out] at h; exact h)
                      obtain ⟨cj, hcj⟩ : ∃ cj, cl[j]? = some cj := ⟨_, List.getElem?_eq_getElem (by rw [HCL.out]; exact hjm)⟩
                      have kcell := hrc.2 j cj hcj
                      have hgd : cl.getD j 0 = cj := by rw [List.getD_eq_getElem?_getD, hcj]; rfl
                      have HFS := Lib.hid (fl_snoc (fun i => cl.getD i 0) j k)
                      have hfl := fl_len (fun i => cl.getD i 0) j k
                      have pj0 : (0 : Int) ≤ (j : Int) := by omega
                      have pj1 : (j : Int) < (m : Int) := by omega
                      clear hrc hcj
                      by_cases hck : cj = k
                      · have te : ((cj : Int) == (k : Int)) = true := by rw [beq_iff_eq]; omega
                        have HFS2 := Lib.hid (HFS.out.trans (if_pos (by show cl.getD j 0 = k; rw [hgd, hck])))
                        obtain ⟨i0, hi0, hz0, hz1, hz2⟩ := info_parts tInfo3
                        have HNB := Lib.hid (Blk.new wr #[.int .i64 (j : Int)] 3)
                        clear hck hgd
                        go_wp2_with (at_builtin; refine wpList_append_own_at _ rfl _ _ 41 rfl Bd 3 i0 _ 1 8 Tryz.underlying41 hi0 hz0 hz1 hz2 rfl (by decide) _ _ _ rfl (H.out.1.alloc _) ⟨wr.heap.size, 0, none⟩ 1 1 [.int .i64 (j : Int)] rfl rfl (news_one (HNB.out.cell 0)) (by intro u hu; simp at hu; subst hu; rfl) (by rw [List.length_append]; unfold maxLen; omega) (by rw [List.length_append]; omega) (by have := H.out.2.2.2.1; simp; omega) ?_; intro v' w7 hown hgr _ _; have HO7 := Lib.hid hown; have HG7 := Lib.hid hgr; clear hown hgr)
                        have hrw := fun r e => (H.out.1.lt r e).1
                        have S8 := Lib.hid (show w7.ownsRow Bd 3 1 v' (dk ++ (List.range (j + 1)).filter fun i => cl.getD i 0 == k).length (natsV (dk ++ (List.range (j + 1)).filter fun i => cl.getD i 0 == k)) ∧ XR w7 Bd (.slice xa xl.length xc) xl ∧ XR w7 Bd (.slice (some ⟨qg, 0, none⟩) m cc) cl ∧ Bd ≤ w7.heap.size ∧ KS w [(w.heap.size, rulesC a n c R.soft R.al R.ot R.sk R.ss R.db, 24)] w7 from by
                          have hal := (Below.refl wr.heap.size wr).alloc (Nat.le_refl _) (.cells #[.int .i64 (j : Int)] 3)
                          refine ⟨?_, (H.out.2.1.below hal).grown HG7.out hrw, (H.out.2.2.1.below hal).grown HG7.out hrw, Nat.le_trans H.out.2.2.2.1 (Nat.le_trans (by simp) HG7.out.size), KS1_rowg (H.out.2.2.2.2.below hal) HG7.out hBdw hrw⟩
                          have h := HO7.out
                          rw [natsV_snoc, List.append_assoc, ← HFS2.out] at h
                          rw [show (dk ++ (List.range (j + 1)).filter fun i => cl.getD i 0 == k).length = (dk ++ (List.range j).filter fun i => cl.getD i 0 == k).length + 1 by rw [HFS2.out]; simp; omega]
                          exact h)
                        clear HO7 HG7 H
                        go_wp2_with fail
                        go_roundw
                        case rel => exact ⟨j + 1, by omega, by go_num, S8.out⟩
                        case measure => simp [intOf]; omega
                      · have te : ((cj : Int) == (k : Int)) = false := by rw [beq_eq_false_iff_ne]; omega
                        have HFS2 := Lib.hid (HFS.out.trans (if_neg (by show ¬ cl.getD j 0 = k; rw [hgd]; exact hck)))
                        clear hck hgd
                        go_wp2_with fail
                        go_roundw
                        case rel => exact ⟨j + 1, by omega, by go_num, by rw [HFS2.out]; exact H.out⟩
                        case measure => simp [intOf]; omega
                    · have hjm2 : j = m := by omega
                      have S8 := Lib.hid (show _ from by have h := H.out; rw [hjm2, ← HDS.out] at h; exact h)
                      have pj1 : ¬ (j : Int) < (m : Int) := by omega
                      clear H hjm2 hjm
                      go_wp2_with fail
                      go_roundw
                      case rel => exact ⟨k + 1, by omega, by go_num, S8.out⟩
                      case measure => simp [intOf]; omega
                · have hk2 : k = L + 1 := by omega
                  have pk : ¬ (k : Int) ≤ (L : Int) := by omega
                  have hS := H.out
                  rw [hk2, ← HD.out] at hS
                  obtain ⟨da, dg, dc, e1, hik⟩ := ik_own hS.1
                  subst e1
                  obtain ⟨xa2, xg2, xc2, e2, hik2⟩ := ik_own hS.2.1.1
                  cases e2
                  have hxl : xl.length ≤ 40000 := by
                    have h := dD_len (fun j => cl.getD j 0) m (L + 1)
                    rw [← HD.out] at h
                    have : (L + 1) * m ≤ 2401 * 12 := Nat.mul_le_mul (by omega) hm12
                    omega
                  have hx1000 : xl.length ≤ 1000 := by
                    have h := HXL1000.out
                    omega
                  have C31 := Lib.hid (ints_any _ xg2 0 xc xl.length (xl.map fun (k : Nat) => (k : Int)) da dg 0 dc xl.length (xl.map fun (k : Nat) => (k : Int)) wr hik2 hik hx1000 hx1000)
                  rw [decide_eq_true rfl] at C31
                  have S8 := Lib.hid hS.2.2.2.2
                  clear hS hik hik2 H hk2 hkM
                  go_wp2_with fail
                  refine C31.out.mono ?_
                  rintro e wE ⟨rfl, hb⟩
                  have S9 := Lib.hid (S8.out.below hb)
                  clear hb
                  go_wp2_with (go_at_call 18; (refine (awake_any _).mono ?_); rintro e wA ⟨rfl, hbA⟩; have SA := Lib.hid (S9.out.bel.trans (hbA.mono S9.out.bel.size)); clear hbA)
                  go_ret
                  exact ⟨rfl, SA.out⟩
    · have hE : nearE R ys s lim = lstN R ys [s] := by unfold nearE; rw [if_neg h0]
      have hX : nearV R ys s lim = [] := by unfold nearV; rw [if_neg (by rw [hE]; exact h0)]
      rw [hE, hX]
      generalize lstN R ys [s] = v at *
      have t0 : ((v : Int) == 0) = false := by rw [beq_eq_false_iff_ne]; omega
      have t1 : ((v : Int) != 0) = true := by rw [bne, t0]; rfl
      clear hE hX h0
      go_wp2_with (first | (go_at_call 18; (refine (awake_any _).mono ?_); rintro e wA ⟨rfl, hbA⟩; have SA := Lib.hid (S5.out.bel.trans (hbA.mono S5.out.bel.size)); clear hbA))
      go_ret
      exact ⟨rfl, SA.out⟩
end Go.Proofs.YtkdflgaahhnigaaGreat

namespace Go.Proofs.YtkdflgaahhnigaaGreat.nameNears
open Go.ChangeShapes Go.WideShapes Go.ChangeAt Go.RowKit Go.Joins Go.Deep
open Go.ChangeMaps (open_string)

theorem own : ownKnob Tryz.prog.godebug = none := by kernel_rfl
theorem laidOut : laidOutB Tryz.prog = true := by kernel_rfl

set_option maxRecDepth 100000 in
theorem lifted (os : Os) (started : os.Started) (H : Type) (enc : TypeId × Value → H) :
    ReturnsInHanded {} Tryz.checked os 5 .any (Rows.nameNearsSpec.pre6 enc Tryz.prog Tryz.f5 Rows.nameNearsRow.domain false) (Rows.nameNearsSpec.post enc Tryz.prog Tryz.f5 false true false false) := by
  refine returnsInHanded_of_change (C := Tryz.checked) own started (by kernel_rfl) Tryz.func5
    (ChangeSpec.witness6 (enc := enc) (C := Tryz.checked) false ⟨#[], #[.agg #[.slice none 0 0, .string ⟨#[]⟩, .int .i64 0, .int .i64 0, .int .i64 0, .int .i64 0, .int .i64 0], .slice none 0 0, .string ⟨#[]⟩, .int .i64 0], []⟩ 8 (by kernel_rfl) (by kernel_rfl) (by kernel_rfl) (by kernel_rfl)) ?_
  intro W base args ds gs before hval0 hW hcnd _
  have hval : ∀ (j : Nat) t v, Tryz.f5.params[j]? = some t → args[j]? = some v → Value.okWide Tryz.prog W .any base t v := hval0
  have hW' := hW
  obtain ⟨p, q, hA0, hV, rfl, hfz, hnd⟩ := hW
  have hA : DataW.TrodAll enc Tryz.prog W 0 (fun _ => true) true Tryz.f5.params.toList args.toList ds p := hA0
  rw [Tryz.params5] at hA hval
  obtain ⟨v0, vs0, d0, ds0, p0, q0, hargs, rfl, rfl, h0, r0⟩ := trodAll_cons hA
  obtain ⟨v1, vs1, d1, ds1, p1, q1, rfl, rfl, rfl, h1, r1⟩ := trodAll_cons r0
  obtain ⟨v2, vs2, d2, ds2, p2, q2, rfl, rfl, rfl, h2, r2⟩ := trodAll_cons r1
  obtain ⟨v3, vs3, d3, ds3, p3, q3, rfl, rfl, rfl, h3, r3⟩ := trodAll_cons r2
  obtain ⟨rfl, rfl, rfl⟩ := trodAll_nil r3
  obtain rfl : args = #[v0, v1, v2, v3] := by cases args; simp_all
  obtain ⟨rfl, rfl⟩ := trodVars_none hV
  have k0 := h0
  have lt0 : ∀ x ∈ p0, x.block < W.heap.size := by obtain ⟨m, hm⟩ := k0; exact DataW.trod_lt m _ _ _ hm
  obtain ⟨a0, n0, c0, g0, o0, R0, rfl, sk0, hc0⟩ := open_rules (hval 0 24 v0 rfl rfl) h0
  have k1 := h1
  have lt1 : ∀ x ∈ p1, x.block < W.heap.size := by obtain ⟨m, hm⟩ := k1; exact DataW.trod_lt m _ _ _ hm
  obtain ⟨a1, n1, c1, rfl⟩ := okWide_slice Tryz.underlying22 (hval 1 22 v1 rfl rfl)
  obtain ⟨m1, hm1⟩ := h1
  obtain ⟨a1, n1, c1, g1, o1, l1, e1, sk1, hc1⟩ := row_of_strs hm1
  cases e1
  have k2 := h2
  have lt2 : ∀ x ∈ p2, x.block < W.heap.size := by obtain ⟨m, hm⟩ := k2; exact DataW.trod_lt m _ _ _ hm
  obtain ⟨s2, rfl, rfl, rfl, w2⟩ := open_string Tryz.underlying9 (hval 2 9 v2 rfl rfl) h2
  have k3 := h3
  have lt3 : ∀ x ∈ p3, x.block < W.heap.size := by obtain ⟨m, hm⟩ := k3; exact DataW.trod_lt m _ _ _ hm
  obtain ⟨a3, rfl, rfl, rfl, w3⟩ := open_int Tryz.underlying3 (hval 3 3 v3 rfl rfl) h3
  clear hA0 hval0
  refine (NameNears_walk a0 g0 o0 c0 n0 R0 W sk0 hc0 a1 g1 o1 c1 n1 l1 sk1 hc1 s2 a3 w3).mono fun e W' ⟨he, bel⟩ => ?_
  subst he
  exact ⟨_, rfl, _, _, _, [], _, [], hW', trodAll_mk1 (shut_bool Tryz.underlying4 _), (trodAll_cons_mk (Below.trod laidOut (by kernel_rfl) (of_decide_eq_true (by kernel_rfl)) k0 bel lt0) (trodAll_cons_mk (Below.trod laidOut (by kernel_rfl) (of_decide_eq_true (by kernel_rfl)) k1 bel lt1) (trodAll_cons_mk (Below.trod laidOut (by kernel_rfl) (of_decide_eq_true (by kernel_rfl)) k2 bel lt2) (trodAll_cons_mk (Below.trod laidOut (by kernel_rfl) (of_decide_eq_true (by kernel_rfl)) k3 bel lt3) trodAll_mk0)))), rfl, bel.frame _, fun h => by cases h⟩

theorem over : Rows.nameNearsRow.holds Tryz.pinned (OpenSpec.ofChange Rows.nameNearsSpec) :=
  OpenClaim.holds_of_wide 5 Tryz.f5 rfl rfl rfl rfl rfl rfl rfl ⟨rfl, rfl, rfl, rfl, rfl⟩ rfl rfl rfl rfl rfl (by kernel_rfl) Tryz.func5 (by kernel_rfl)
    (of_decide_eq_true (by kernel_rfl)) (by unfold Func.isWrapper; first | (rw [if_pos (by decide +kernel)]; kernel_rfl) | (rw [if_neg (by decide +kernel)]; exact ⟨rfl, rfl⟩))
    (fun os started H enc _ => lifted os started H enc)
end Go.Proofs.YtkdflgaahhnigaaGreat.nameNears
namespace Go.Proofs.YtkdflgaahhnigaaGreat
/-- THE STATEMENT -/
theorem nameNears_holds : Rows.NameNearsSaid := nameNears.over
#print axioms nameNears_holds
end Go.Proofs.YtkdflgaahhnigaaGreat
