/- TopSounds. -/
import Derived.Test.YtdfebccmjbocjaaGreatDoorTb
set_option linter.unusedVariables false
set_option linter.unusedSimpArgs false
namespace Go.Proofs.YtdfebccmjbocjaaGreatDoor
open Go.RowKit Go.Shelf
set_option maxRecDepth 100000 in
set_option maxHeartbeats 16000000 in
theorem TopSounds_walk (a a2 a3 : Option Addr) (g o c n g2 o2 c2 m g3 o3 c3 mw : Nat) (R : Na.RB) (l : List ByteArray) (ws : List Nat) (w : World) (hk : Na.SKn w a g o c n R.cls) (hM : l.length = m) (hk2 : Na.SK w a2 g2 o2 l) (hW : U16K w a3 g3 o3 mw ws) (hmw : mw ≤ 9223372036854775807) (hG : Gd w) :
    Calls Tryz.prog 3 #[Na.rulesV a n c R.soft R.al R.ot R.sk R.ss R.db, .slice a2 m c2, .slice a3 mw c3] w fun e w' => e = .returned (.bool true) ∧ Below w.heap.size w w' := by
  have s0 := (KS.start w).new (Na.rulesC a n c R.soft R.al R.ot R.sk R.ss R.db) 24
  obtain ⟨y0, y1, y2, y3, y4, y5, y6⟩ := (s0.blkAt 0 rfl).c7
  have cl := (s0.blkAt 0 rfl).lt
  have S0 := Lib.hid s0
  have HKn := Lib.hid hk
  have HK2 := Lib.hid hk2
  have HM := Lib.hid hM
  have HW := Lib.hid hW
  have HG := Lib.hid hG
  have C8 := Lib.hid (fun W (hb : Below w.heap.size w W) => sounded_any W (hG.below hb))
  have C5 := Lib.hid (fun W (hb : Below w.heap.size w W) => Na.Thin17 a g o c n R W hk.1 (hk.2.1.below hb) a2 g2 o2 c2 m l hM (hk2.below hb))
  clear s0 hk hk2 hW hG hM
  by_cases hm0 : m = 0
  · have t0 : ((m : Int) == 0) = true := by simp; omega
    clear hm0
    go_enter Tryz.func3, Tryz.ntmps3
    go_wp2_with (first | (go_at_call 8; (with_reducible refine (C8.out _ S0.out.bel).mono ?_); rintro e w8 ⟨rfl, hb⟩; have HF := Lib.hid (S0.out.bel.trans (hb.mono S0.out.size)); clear hb))
    go_ret
    exact ⟨rfl, HF.out⟩
  have t0 : ((m : Int) == 0) = false := by simp; omega
  by_cases hm12 : 12 < m
  · have t1 : (12 : Int) < (m : Int) := by omega
    go_enter Tryz.func3, Tryz.ntmps3
    go_wp2_with (first | (go_at_call 8; (with_reducible refine (C8.out _ S0.out.bel).mono ?_); rintro e w8 ⟨rfl, hb⟩; have HF := Lib.hid (S0.out.bel.trans (hb.mono S0.out.size)); clear hb))
    go_ret
    exact ⟨rfl, HF.out⟩
  have t1 : ¬ (12 : Int) < (m : Int) := by omega
  by_cases hth : ¬ Na.thinB R l = true
  · rw [Bool.eq_false_iff.2 hth] at C5
    go_enter Tryz.func3, Tryz.ntmps3
    go_wp2_with (first | (go_at_call 5; (with_reducible refine (C5.out _ S0.out.bel).mono ?_); rintro e w1 ⟨rfl, hb⟩; have S1 := Lib.hid (S0.out.below hb); obtain ⟨y0, y1, y2, y3, y4, y5, y6⟩ := (S1.out.blkAt 0 rfl).c7; have cl := (S1.out.blkAt 0 rfl).lt; clear hb) | (go_at_call 8; (with_reducible refine (C8.out _ S1.out.bel).mono ?_); rintro e w8 ⟨rfl, hb⟩; have HF := Lib.hid (S1.out.bel.trans (hb.mono S1.out.size)); clear hb))
    go_ret
    exact ⟨rfl, HF.out⟩
  replace hth := Decidable.not_not.1 hth
  rw [hth] at C5
  have ht := Na.thin_thn hth
  have hl40 : ∀ x, x ∈ l → x.size ≤ 1000 := fun x hx => by have := (Na.thin_l hth).2 x hx; omega
  have C6 := Lib.hid (fun W (hb : Below w.heap.size w W) => Na.Fault_any a g o c n R W HKn.out.1 (HKn.out.2.1.below hb) ht)
  by_cases hck : ¬ Na.chk R = 0
  · have t2 : ((Na.chk R : Int) != 0) = true := by simp; omega
    generalize Na.chk R = ck at *
    go_enter Tryz.func3, Tryz.ntmps3
    go_wp2_with (first | (go_at_call 5; (with_reducible refine (C5.out _ S0.out.bel).mono ?_); rintro e w1 ⟨rfl, hb⟩; have S1 := Lib.hid (S0.out.below hb); obtain ⟨y0, y1, y2, y3, y4, y5, y6⟩ := (S1.out.blkAt 0 rfl).c7; have cl := (S1.out.blkAt 0 rfl).lt; clear hb) | (go_at_call 6; (with_reducible refine (C6.out _ S1.out.bel).mono ?_); rintro e w2 ⟨rfl, hb⟩; have S2 := Lib.hid (S1.out.below hb); obtain ⟨y0, y1, y2, y3, y4, y5, y6⟩ := (S2.out.blkAt 0 rfl).c7; have cl := (S2.out.blkAt 0 rfl).lt; clear hb) | (go_at_call 8; (with_reducible refine (C8.out _ S2.out.bel).mono ?_); rintro e w8 ⟨rfl, hb⟩; have HF := Lib.hid (S2.out.bel.trans (hb.mono S2.out.size)); clear hb))
    go_ret
    exact ⟨rfl, HF.out⟩
  replace hck := Decidable.not_not.1 hck
  rw [hck] at C6
  have C7 := Lib.hid (fun W (hb : Below w.heap.size w W) => Na.NamesFault_any a g o c n R W HKn.out.1 (HKn.out.2.1.below hb) ht a2 g2 o2 c2 m l HM.out (HK2.out.below hb) (by omega) hl40)
  by_cases hcn : ¬ Na.chkN R l = 0
  · have t3 : ((Na.chkN R l : Int) != 0) = true := by simp; omega
    generalize Na.chkN R l = cn at *
    go_enter Tryz.func3, Tryz.ntmps3
    go_wp2_with (first | (go_at_call 5; (with_reducible refine (C5.out _ S0.out.bel).mono ?_); rintro e w1 ⟨rfl, hb⟩; have S1 := Lib.hid (S0.out.below hb); obtain ⟨y0, y1, y2, y3, y4, y5, y6⟩ := (S1.out.blkAt 0 rfl).c7; have cl := (S1.out.blkAt 0 rfl).lt; clear hb) | (go_at_call 6; (with_reducible refine (C6.out _ S1.out.bel).mono ?_); rintro e w2 ⟨rfl, hb⟩; have S2 := Lib.hid (S1.out.below hb); obtain ⟨y0, y1, y2, y3, y4, y5, y6⟩ := (S2.out.blkAt 0 rfl).c7; have cl := (S2.out.blkAt 0 rfl).lt; clear hb) | (go_at_call 7; (with_reducible refine (C7.out _ S2.out.bel).mono ?_); rintro e w3 ⟨rfl, hb⟩; have S3 := Lib.hid (S2.out.below hb); obtain ⟨y0, y1, y2, y3, y4, y5, y6⟩ := (S3.out.blkAt 0 rfl).c7; have cl := (S3.out.blkAt 0 rfl).lt; clear hb) | (go_at_call 8; (with_reducible refine (C8.out _ S3.out.bel).mono ?_); rintro e w8 ⟨rfl, hb⟩; have HF := Lib.hid (S3.out.bel.trans (hb.mono S3.out.size)); clear hb))
    go_ret
    exact ⟨rfl, HF.out⟩
  replace hcn := Decidable.not_not.1 hcn
  rw [hcn] at C7
  obtain ⟨hgd, hnm⟩ := Na.chkN_ok hcn
  have HT := Lib.hid ht
  have HGD := Lib.hid hgd
  have HNM := Lib.hid hnm
  have hm0p : 0 < m := by omega
  have hn9 : n ≤ 8 := by rw [← HKn.out.1]; exact hgd.n8
  clear hth ht hl40 hck hcn hgd hnm hm0
  go_enter Tryz.func3, Tryz.ntmps3
  go_wp2_with (first | (go_at_call 5; (with_reducible refine (C5.out _ S0.out.bel).mono ?_); rintro e w1 ⟨rfl, hb⟩; have S1 := Lib.hid (S0.out.below hb); obtain ⟨y0, y1, y2, y3, y4, y5, y6⟩ := (S1.out.blkAt 0 rfl).c7; have cl := (S1.out.blkAt 0 rfl).lt; clear hb) | (go_at_call 6; (with_reducible refine (C6.out _ S1.out.bel).mono ?_); rintro e w2 ⟨rfl, hb⟩; have S2 := Lib.hid (S1.out.below hb); obtain ⟨y0, y1, y2, y3, y4, y5, y6⟩ := (S2.out.blkAt 0 rfl).c7; have cl := (S2.out.blkAt 0 rfl).lt; clear hb) | (go_at_call 7; (with_reducible refine (C7.out _ S2.out.bel).mono ?_); rintro e w3 ⟨rfl, hb⟩; have S3 := Lib.hid (S2.out.below hb); obtain ⟨y0, y1, y2, y3, y4, y5, y6⟩ := (S3.out.blkAt 0 rfl).c7; have cl := (S3.out.blkAt 0 rfl).lt; clear hb))
  obtain ⟨i9, hi0, hz0, hz1, hz2⟩ := info_parts info9
  have HI9 := Lib.hid (And.intro hi0 (And.intro hz0 (And.intro hz1 hz2)))
  obtain ⟨ks, hks⟩ : ∃ ks, ks = l.map (kyB R) := ⟨_, rfl⟩
  have hkl : ks.length = m := by rw [hks, List.length_map]; exact HM.out
  have HKS := Lib.hid (And.intro hks hkl)
  clear hi0 hz0 hz1 hz2 hks hkl C5 C6 C7
  go_loopw [8, 7] (fun x v wr => ∃ i : Nat, i ≤ m ∧ x = .int .i64 (i : Int) ∧ Hid (OwnT wr (w.heap.size + 1) v (ks.take i) ∧ KS w [(w.heap.size, Na.rulesC a n c R.soft R.al R.ot R.sk R.ss R.db, 24)] wr)) (fun x _ _ => m - (intOf x).toNat)
  case atStart => exact ⟨0, Nat.zero_le _, rfl, Lib.hid ⟨World.ownsRow_nil _ _ _ _, S3.out⟩⟩
  case round =>
    clear y0 y1 y2 y3 y4 y5 y6 cl
    obtain ⟨i, hi, rfl, H⟩ := hrel
    by_cases him : i < m
    · obtain ⟨s, hs⟩ : ∃ s, l[i]? = some s := ⟨_, List.getElem?_eq_getElem (by rw [HM.out]; exact him)⟩
      obtain ⟨h12, hsp⟩ := HNM.out s (List.mem_of_getElem? hs)
      have hne : l ≠ [] := by rintro rfl; simp at hs
      have ea2 := HK2.out.1 hne
      subst ea2
      have BB := Lib.hid H.out.2.bel
      have cs := (HK2.out.below BB.out).2.1 i s hs
      have lg := (HK2.out.below BB.out).2.2 hne
      obtain ⟨kb, hkb⟩ : ∃ kb, kb = kyB R s := ⟨_, rfl⟩
      have C9 := Lib.hid (fun W a' g' c' (hk' : Na.SK W a' g' 0 R.cls) (hle : n ≤ c') => key_top a' g' 0 c' n R W HKn.out.1 hk' hle HT.out HGD.out s hsp h12)
      rw [← hkb] at C9
      have C10 := Lib.hid (fun W (hb : Below w.heap.size w W) => Na.Rules20 a g o c n R W (HKn.out.below hb) (by omega))
      have htk : ks.take (i + 1) = ks.take i ++ [kb] := by rw [List.take_add_one, HKS.out.1, List.getElem?_map, hs, hkb]; rfl
      have hol : (ks.take i).length = i := by rw [List.length_take, HKS.out.2]; omega
      have HTK := Lib.hid htk
      obtain ⟨y0, y1, y2, y3, y4, y5, y6⟩ := (H.out.2.blkAt 0 rfl).c7
      have cl := (H.out.2.blkAt 0 rfl).lt
      have q0 : (0 : Int) ≤ (i : Int) := by omega
      have q1 : (i : Int) < (m : Int) := by omega
      clear hkb htk hs hne hsp
      go_wp2_with fail
      have hS : KS wr [] wr.drew := ⟨fun x hx => (by cases hx), (Below.refl _ _).drew⟩
      have K0 : ∀ W, KS wr [] W → W.cell? ⟨w.heap.size, 0, none⟩ = some (.slice a n c) := fun W h => (h.bel.cell (p := ⟨w.heap.size, 0, none⟩) cl).trans y0
      have K1 : ∀ W, KS wr [] W → W.cell? ⟨w.heap.size, 1, none⟩ = some (.string R.soft) := fun W h => (h.bel.cell (p := ⟨w.heap.size, 1, none⟩) cl).trans y1
      have K2 : ∀ W, KS wr [] W → W.cell? ⟨w.heap.size, 2, none⟩ = some (.int .i64 R.al) := fun W h => (h.bel.cell (p := ⟨w.heap.size, 2, none⟩) cl).trans y2
      have K3 : ∀ W, KS wr [] W → W.cell? ⟨w.heap.size, 3, none⟩ = some (.int .i64 R.ot) := fun W h => (h.bel.cell (p := ⟨w.heap.size, 3, none⟩) cl).trans y3
      have K4 : ∀ W, KS wr [] W → W.cell? ⟨w.heap.size, 4, none⟩ = some (.int .i64 R.sk) := fun W h => (h.bel.cell (p := ⟨w.heap.size, 4, none⟩) cl).trans y4
      have K5 : ∀ W, KS wr [] W → W.cell? ⟨w.heap.size, 5, none⟩ = some (.int .i64 R.ss) := fun W h => (h.bel.cell (p := ⟨w.heap.size, 5, none⟩) cl).trans y5
      have K6 : ∀ W, KS wr [] W → W.cell? ⟨w.heap.size, 6, none⟩ = some (.int .i64 R.db) := fun W h => (h.bel.cell (p := ⟨w.heap.size, 6, none⟩) cl).trans y6
      have L0 : ∀ W, KS wr [] W → W.cell? ⟨g2, o2 + i, none⟩ = some (.string s) := fun W h => (h.bel.cell (p := ⟨g2, o2 + i, none⟩) lg).trans cs
      clear y0 y1 y2 y3 y4 y5 y6 cs
      refine wp_region_held_drew (S := KS wr []) (by kernel_rfl) hS (fun hHeld => ?_)
      clear hS
      refine wpAnyH_take (i := 0) (v := ?_) rfl (by kernel_rfl) (by kernel_rfl) (by kernel_rfl) (fun _ _ _ h => h) (Or.inl ⟨by rfl, ?h0⟩) hHeld ?_
      case h0 =>
        intro w' hSw
        (try dsimp only at hSw)
        go_simp
        (try with_reducible rfl)
      (try simp only [Act.put]); (try simp only [List.setIfInBounds_toArray]); (try simp only [List.set_cons_succ]); (try simp only [List.set_cons_zero])
      refine wpAnyH_take (i := 2) (v := ?_) rfl (by kernel_rfl) (by kernel_rfl) (by kernel_rfl) (fun _ _ _ h => h) (Or.inl ⟨by rfl, ?h2⟩) hHeld ?_
      case h2 =>
        intro w' hSw
        (try dsimp only at hSw)
        go_simp
        (try with_reducible rfl)
      (try simp only [Act.put]); (try simp only [List.setIfInBounds_toArray]); (try simp only [List.set_cons_succ]); (try simp only [List.set_cons_zero])
      refine wpAnyH_take (i := 3) (v := ?_) rfl (by kernel_rfl) (by kernel_rfl) (by kernel_rfl) (fun _ _ _ h => h) (Or.inl ⟨by rfl, ?h3⟩) hHeld ?_
      case h3 =>
        intro w' hSw
        (try dsimp only at hSw)
        go_simp
        (try with_reducible rfl)
      (try simp only [Act.put]); (try simp only [List.setIfInBounds_toArray]); (try simp only [List.set_cons_succ]); (try simp only [List.set_cons_zero])
      refine wpAnyH_take (i := 4) (v := ?_) rfl (by kernel_rfl) (by kernel_rfl) (by kernel_rfl) (fun _ _ _ h => h) (Or.inl ⟨by rfl, ?h4⟩) hHeld ?_
      case h4 =>
        intro w' hSw
        (try dsimp only at hSw)
        go_simp
        (try with_reducible rfl)
      (try simp only [Act.put]); (try simp only [List.setIfInBounds_toArray]); (try simp only [List.set_cons_succ]); (try simp only [List.set_cons_zero])
      refine wpAnyH_take (i := 5) (v := ?_) rfl (by kernel_rfl) (by kernel_rfl) (by kernel_rfl) (fun _ _ _ h => h) (Or.inl ⟨by rfl, ?h5⟩) hHeld ?_
      case h5 =>
        intro w' hSw
        (try dsimp only at hSw)
        go_simp
        (try with_reducible rfl)
      (try simp only [Act.put]); (try simp only [List.setIfInBounds_toArray]); (try simp only [List.set_cons_succ]); (try simp only [List.set_cons_zero])
      refine wpAnyH_ready (rs := [1]) (by kernel_rfl) (by simp) ?_
      refine AllReadyH.cons rfl (fun K hK => ?_) (AllReadyH.nil)
      go_simp
      (refine (C10.out _ (BB.out.trans (hHeld.bel.mono BB.out.size))).mono ?_)
      rintro e w30 ⟨a30, g30, c30, rfl, hsk, hle30, hb⟩
      have HK30 := Lib.hid hsk
      clear hsk
      have hS2 := hHeld.below hb
      clear hb
      refine hK.out _ _ hS2 (fun hHeld => ?_)
      clear hK K hS2
      (try simp only [Act.put]); (try simp only [List.setIfInBounds_toArray]); (try simp only [List.set_cons_succ]); (try simp only [List.set_cons_zero])
      refine wpAnyH_ready (rs := [6]) (by kernel_rfl) (by simp) ?_
      refine AllReadyH.cons rfl (fun K hK => ?_) (AllReadyH.nil)
      go_simp
      (refine (C9.out _ _ _ _ HK30.out hle30).mono ?_)
      rintro e w31 ⟨rfl, hb⟩
      have hS2 := hHeld.below hb
      clear hb
      refine hK.out _ _ hS2 (fun hHeld => ?_)
      clear hK K hS2
      (try simp only [Act.put]); (try simp only [List.setIfInBounds_toArray]); (try simp only [List.set_cons_succ]); (try simp only [List.set_cons_zero])
      refine wpAnyH_take (i := 7) (v := ?_) rfl (by kernel_rfl) (by kernel_rfl) (by kernel_rfl) (fun _ _ _ h => h) (Or.inl ⟨by rfl, ?h7⟩) hHeld ?_
      case h7 =>
        intro w' hSw
        (try dsimp only at hSw)
        go_simp
        (try with_reducible rfl)
      (try simp only [Act.put]); (try simp only [List.setIfInBounds_toArray]); (try simp only [List.set_cons_succ]); (try simp only [List.set_cons_zero])
      refine wpAnyH_take (i := 8) (v := ?_) rfl (by kernel_rfl) (by kernel_rfl) (by kernel_rfl) (fun _ _ _ h => h) (Or.inl ⟨by rfl, ?h8⟩) hHeld ?_
      case h8 =>
        intro w' hSw
        (try dsimp only at hSw)
        go_simp
        (try with_reducible rfl)
      (try simp only [Act.put]); (try simp only [List.setIfInBounds_toArray]); (try simp only [List.set_cons_succ]); (try simp only [List.set_cons_zero])
      refine wpAnyH_take (i := 9) (v := ?_) rfl (by kernel_rfl) (by kernel_rfl) (by kernel_rfl) (fun _ _ _ h => h) (Or.inl ⟨by rfl, ?h9⟩) hHeld ?_
      case h9 =>
        intro w' hSw
        (try dsimp only at hSw)
        go_simp
        (try with_reducible rfl)
      (try simp only [Act.put]); (try simp only [List.setIfInBounds_toArray]); (try simp only [List.set_cons_succ]); (try simp only [List.set_cons_zero])
      refine wpAnyH_ready (rs := [10]) (by kernel_rfl) (by simp) ?_
      refine AllReadyH.cons rfl (fun K hK => ?_) (AllReadyH.nil)
      go_simp
      refine hK.out _ _ hHeld (fun hHeld => ?_)
      clear hK K
      (try simp only [Act.put]); (try simp only [List.setIfInBounds_toArray]); (try simp only [List.set_cons_succ]); (try simp only [List.set_cons_zero])
      refine wpAnyH_ready (rs := [11]) (by kernel_rfl) (by simp) ?_
      refine AllReadyH.cons rfl (fun K hK => ?_) (AllReadyH.nil)
      go_simp
      refine hK.out _ _ hHeld (fun hHeld => ?_)
      clear hK K
      (try simp only [Act.put]); (try simp only [List.setIfInBounds_toArray]); (try simp only [List.set_cons_succ]); (try simp only [List.set_cons_zero])
      refine wpAnyH_done (by kernel_rfl) ?_ _
      have HH := Lib.hid hHeld.bel
      clear hHeld K0 K1 K2 K3 K4 K5 K6 L0
      have HO9 := Lib.hid (row_below H.out.1 HH.out)
      have HK9 := Lib.hid (H.out.2.below HH.out)
      go_wp2_with (at_builtin; refine wpList_append_own _ rfl _ _ 22 rfl (w.heap.size + 1) 9 i9 (.string ⟨#[]⟩) 1 16 Tryz.underlying22 HI9.out.1 HI9.out.2.1 HI9.out.2.2.1 HI9.out.2.2.2 rfl (by decide) _ _ _ rfl (row_below HO9.out ((Below.refl _ _).alloc (Nat.le_refl _) _)) ⟨w31.heap.size, 0, none⟩ 1 1 [.string kb] rfl rfl (news_one' ((Blk.new w31 #[.string kb] 9).cell 0)) (by simp [Value.oneCell']) (by unfold maxLen; omega) (by omega) (by have := (HK9.out.blkAt 0 rfl).lt; simp; omega) ?_; intro v' w1 hown' hgrow _; have HO1 := Lib.hid hown'; have HG1 := Lib.hid hgrow; clear hown' hgrow)
      go_roundw
      case rel =>
        have hba : Below w31.heap.size w31 (w31.alloc (.cells #[.string kb] 9)) := (Below.refl _ _).alloc (Nat.le_refl _) _
        have hk9 := HK9.out.below hba
        have hrow := fun r e => (HO9.out.lt r e).1
        refine ⟨i + 1, by omega, by go_num, Lib.hid ⟨?_, ⟨fun z hz => ?_, hk9.bel.grown HG1.out hk9.bel.size (fun r e => by have := hrow r e; omega)⟩⟩⟩
        · rw [HTK.out]
          have h2 := HO1.out
          unfold OwnT
          rw [List.length_append]
          simpa [strV] using h2
        · exact (hk9.1 z hz).kept HG1.out (fun e => by have := hrow _ e.symm; simp at hz; subst hz; simp only at this; omega)
      case measure => simp [intOf]; omega
    · have q1 : ¬ (i : Int) < (m : Int) := by omega
      have hkt : ks.take i = ks := List.take_of_length_le (by rw [HKS.out.2]; omega)
      rw [hkt] at H
      obtain ⟨ka, kc, hkv⟩ := H.out.1.form
      rw [HKS.out.2] at hkv
      subst hkv
      obtain ⟨w4, hw4⟩ : ∃ w4, w4 = wr := ⟨_, rfl⟩
      subst hw4
      have hB4 := H.out.2.bel
      have HKy := Lib.hid H.out.1
      have S4 := Lib.hid H.out.2
      have C11 := Lib.hid (Truly_any a3 g3 o3 c3 mw ws w4 (HW.out.below hB4) hmw)
      have HB4 := Lib.hid hB4
      clear hB4 H hkt
      go_wp2_with fail
      with_reducible refine C11.out.mono ?_
      rintro e w5 ⟨ve, vs, va, vo, es, sm, ap, of, om, nu, rfl, htf, ⟨hoe, hos, hoa, hoo⟩, hb, hofw⟩
      obtain ⟨N, hNN⟩ : ∃ N, N = of.length := ⟨_, rfl⟩
      have hel : es.length = N := by rw [hNN]; exact htf.tp.len
      obtain ⟨ea, ec, hve⟩ : ∃ (a : Option Addr) (c : Nat), ve = .slice a N c := by obtain ⟨s1, h1, -⟩ := own_sle hoe; rw [hel] at h1; exact ⟨_, _, h1⟩
      obtain ⟨sa, sc, hvs⟩ : ∃ (a : Option Addr) (c : Nat), vs = .slice a sm.length c := by obtain ⟨s1, h1, -⟩ := own_slp2 hos; exact ⟨_, _, h1⟩
      obtain ⟨aa, ac, hva⟩ : ∃ (a : Option Addr) (c : Nat), va = .slice a ap.length c := by obtain ⟨s1, h1, -⟩ := own_slp2 hoa; exact ⟨_, _, h1⟩
      obtain ⟨oa, oc, hvo⟩ : ∃ (a : Option Addr) (c : Nat), vo = .slice a N c := by obtain ⟨s1, h1, -⟩ := SlN.of_own hoo; rw [← hNN] at h1; exact ⟨_, _, h1⟩
      subst hve
      subst hvs
      subst hva
      subst hvo
      rw [hel] at hoe
      rw [← hNN] at hofw
      have hN9 : N ≤ 9 := by rw [hNN]; exact htf.n9
      have HTF := Lib.hid htf
      have HNL := Lib.hid (And.intro hel (And.intro hNN hofw))
      obtain ⟨E, hE⟩ : ∃ E : Nat → Prop, E = fun k => (Value.slice ea N ec).ownBlock = some k := ⟨_, rfl⟩
      have hEk : ∀ k, E k → w4.heap.size + 2 ≤ k ∧ k < w5.heap.size := fun k e => by rw [hE] at e; exact hoe.lt k e
      obtain ⟨W6, hW6⟩ : ∃ W6, W6 = w5.alloc (.cells (cenA (.slice ea N ec) (.slice sa sm.length sc) (.slice aa ap.length ac) (om.1 : Int) (om.2 : Int) (nu.1 : Int) (nu.2 : Int)) 40) := ⟨_, rfl⟩
      have hb6 : Below w5.heap.size w5 W6 := by rw [hW6]; exact (Below.refl _ _).alloc (Nat.le_refl _) _
      have bc6 : Blk W6 w5.heap.size (cenA (.slice ea N ec) (.slice sa sm.length sc) (.slice aa ap.length ac) (om.1 : Int) (om.2 : Int) (nu.1 : Int) (nu.2 : Int)) 40 := by rw [hW6]; exact Blk.new _ _ _
      have hoe6 := row_below hoe hb6
      have hos6 := row_below hos hb6
      have hoa6 := row_below hoa hb6
      have hoo6 : OwnN W6 (w4.heap.size + 2) (.slice oa N oc) of := row_below hoo hb6
      have hB6 : Below w4.heap.size w4 W6 := hb.trans (hb6.mono hb.size)
      have KB := Lib.hid (fun W (h : Kx E W6 W) => show Below w4.heap.size w4 W from hB6.trans (h.bel hB6.size (fun k e => by have := hEk k e; omega)))
      have KC := Lib.hid (fun W (h : Kx E W6 W) => show Blk W w5.heap.size (cenA (.slice ea N ec) (.slice sa sm.length sc) (.slice aa ap.length ac) (om.1 : Int) (om.2 : Int) (nu.1 : Int) (nu.2 : Int)) 40 from h.blk bc6 (fun e => by have := hEk _ e; omega))
      have KO := Lib.hid (fun W (h : Kx E W6 W) => show OwnN W (w4.heap.size + 2) (.slice oa N oc) of from h.own hoo6 (fun r e1 e2 => by rw [hE] at e2; exact own_types_ne hoe6 hoo6 (by decide) r e2 e1))
      have KSm := Lib.hid (fun W (h : Kx E W6 W) => h.own hos6 (fun r e1 e2 => by rw [hE] at e2; exact own_types_ne hoe6 hos6 (by decide) r e2 e1))
      have KAp := Lib.hid (fun W (h : Kx E W6 W) => h.own hoa6 (fun r e1 e2 => by rw [hE] at e2; exact own_types_ne hoe6 hoa6 (by decide) r e2 e1))
      have HE6 := Lib.hid hoe6
      have HEE := Lib.hid hE
      have HW6 := Lib.hid hW6
      clear hoe hos hoa hoo hb hofw htf hel hNN hE hEk hW6 hb6 bc6 hoe6 hos6 hoa6 hoo6 hB6 C11
      go_wp2_with fail
      go_loopw [13] (fun x wr => ∃ i : Nat, i ≤ N ∧ x = .int .i64 (i : Int) ∧ Hid (wr.ownsRow (w4.heap.size + 2) 47 5 (.slice ea N ec) N (entsV (esK es (fun j => keyN R l (ofF of j)) i)) ∧ Kx E W6 wr)) (fun x _ => N - (intOf x).toNat)
      case atStart => exact ⟨0, Nat.zero_le _, rfl, Lib.hid ⟨by rw [esK_zero, ← HW6.out]; exact HE6.out, by rw [← HW6.out]; exact Kx.refl _ _⟩⟩
      case round =>
        obtain ⟨i, hi, rfl, H⟩ := hrel
        by_cases hiN : i < N
        · have BB := Lib.hid (HB4.out.trans ((KB.out _ H.out.2).mono HB4.out.size))
          have hmw0 : 0 < mw := by have := HNL.out.2.2; omega
          have hofi : i < of.length := by rw [← HNL.out.2.1]; exact hiN
          have hko := KO.out _ H.out.2
          obtain ⟨gO, cO, hvo⟩ := Joins.ownsRow_form hko (by omega)
          simp only [Value.slice.injEq] at hvo
          obtain ⟨hvo1, -, hvo2⟩ := hvo
          subst hvo1
          subst hvo2
          have q5 := HTF.out.tp.lt5 i hofi
          have co := hko.cell1 hofi
          have lo := (hko.lt gO rfl).2
          obtain ⟨q, hq⟩ : ∃ q, q = ofF of i := ⟨_, rfl⟩
          rw [← hq] at co q5
          obtain ⟨t, ht⟩ : ∃ t, t = q % m := ⟨_, rfl⟩
          have htm : t < m := by rw [ht]; exact Nat.mod_lt _ hm0p
          obtain ⟨⟨f1, f2⟩, -, -⟩ := nat_forms q m
          rw [← ht] at f1 f2
          have hmz : ¬ (m : Int) = 0 := by omega
          have hmz2 : ((m : Int) == 0) = false := by rw [beq_eq_false_iff_ne]; omega
          have hmz3 : ¬ m = 0 := by omega
          obtain ⟨s, hs⟩ : ∃ s, l[t]? = some s := ⟨_, List.getElem?_eq_getElem (by rw [HM.out]; exact htm)⟩
          obtain ⟨h12, hsp⟩ := HNM.out s (List.mem_of_getElem? hs)
          have hne : l ≠ [] := by rintro rfl; simp at hs
          have ea2 := HK2.out.1 hne
          subst ea2
          have cs := (HK2.out.below BB.out).2.1 t s hs
          have ls := (HK2.out.below BB.out).2.2 hne
          obtain ⟨i1, hi1⟩ : ∃ i1, i1 = (i + 1) % mw := ⟨_, rfl⟩
          have hi1m : i1 < mw := by rw [hi1]; exact Nat.mod_lt _ hmw0
          obtain ⟨⟨f3, f4⟩, -, -⟩ := nat_forms (i + 1) mw
          rw [← hi1, show ((i + 1 : Nat) : Int) = (i : Int) + 1 from by omega] at f3 f4
          have hwz : ¬ (mw : Int) = 0 := by omega
          have hwz2 : ((mw : Int) == 0) = false := by rw [beq_eq_false_iff_ne]; omega
          have hwz3 : ¬ mw = 0 := by omega
          have hw4 := HW.out.below BB.out
          obtain ⟨x, hx⟩ : ∃ x, ws[i1]? = some x := ⟨_, List.getElem?_eq_getElem (by rw [hw4.1]; exact hi1m)⟩
          have hwne : ws ≠ [] := by rintro rfl; simp at hx
          have ea3 := HW.out.2.1 hwne
          subst ea3
          have cw := hw4.2.2.1 i1 x hx
          have lw := hw4.2.2.2.1 hwne
          have hx16 := hw4.2.2.2.2 x (List.mem_of_getElem? hx)
          have ex : IntKind.i64.wrap (x : Int) = (x : Int) := IntWalk.i64_in _ (by omega)
          have w1 : IntKind.i64.wrap ((i : Int) + 1) = (i : Int) + 1 := IntWalk.i64_in _ (by omega)
          obtain ⟨kb, hkb⟩ : ∃ kb, kb = kyB R s := ⟨_, rfl⟩
          have C90 := Lib.hid (fun xn (hok : Na.OKv R s xn) W a' g' c' (hk' : Na.SK W a' g' 0 R.cls) (hle : n ≤ c') => key_top a' g' 0 c' n R W HKn.out.1 hk' hle HT.out HGD.out xn hok.1 hok.2.1)
          replace C90 : Hid (∀ (xn : ByteArray) (hok : Na.OKv R s xn) (W : World) (a' : Option Addr) (g' c' : Nat) (hk' : Na.SK W a' g' 0 R.cls) (hle : n ≤ c'), Calls Tryz.prog 9 #[Na.rulesV a' n c' R.soft R.al R.ot R.sk R.ss R.db, .string xn] W fun e w' => e = .returned (.tuple #[.string kb, .int .i64 0]) ∧ Below W.heap.size W w') := Lib.hid (fun xn hok W a' g' c' hk' hle => by have h := C90.out xn hok W a' g' c' hk' hle; rw [kyB_ok hok, ← hkb] at h; exact h)
          have C10 := Lib.hid (fun W (hb : Below w.heap.size w W) => Na.Rules20 a g o c n R W (HKn.out.below hb) (by omega))
          have C12 := Lib.hid (fun W (hb : Below w.heap.size w W) => Na.heard_any a g o c n R W HKn.out.1 (HKn.out.2.1.below hb) HT.out HGD.out s hsp h12 x (by omega))
          have SB := S4.out.below (KB.out _ H.out.2)
          obtain ⟨y0, y1, y2, y3, y4, y5, y6⟩ := (SB.blkAt 0 rfl).c7
          have cl := (SB.blkAt 0 rfl).lt
          have p0 : (0 : Int) ≤ (i : Int) := by omega
          have p1 : (i : Int) < (N : Int) := by omega
          have p2 : (0 : Int) ≤ (t : Int) := by omega
          have p3 : (t : Int) < (m : Int) := by omega
          have p4 : (0 : Int) ≤ (i1 : Int) := by omega
          have p5 : (i1 : Int) < (mw : Int) := by omega
          have HQ := Lib.hid (And.intro hq (And.intro ht (And.intro hs hkb)))
          clear hko SB hw4 hq ht hs hkb hi1 hx hne hwne hofi
          go_wp2_with fail
          have hS : KS wr [] wr.drew := ⟨fun x hx => (by cases hx), (Below.refl _ _).drew⟩
          have K0 : ∀ W, KS wr [] W → W.cell? ⟨w.heap.size, 0, none⟩ = some (.slice a n c) := fun W h => (h.bel.cell (p := ⟨w.heap.size, 0, none⟩) cl).trans y0
          have K1 : ∀ W, KS wr [] W → W.cell? ⟨w.heap.size, 1, none⟩ = some (.string R.soft) := fun W h => (h.bel.cell (p := ⟨w.heap.size, 1, none⟩) cl).trans y1
          have K2 : ∀ W, KS wr [] W → W.cell? ⟨w.heap.size, 2, none⟩ = some (.int .i64 R.al) := fun W h => (h.bel.cell (p := ⟨w.heap.size, 2, none⟩) cl).trans y2
          have K3 : ∀ W, KS wr [] W → W.cell? ⟨w.heap.size, 3, none⟩ = some (.int .i64 R.ot) := fun W h => (h.bel.cell (p := ⟨w.heap.size, 3, none⟩) cl).trans y3
          have K4 : ∀ W, KS wr [] W → W.cell? ⟨w.heap.size, 4, none⟩ = some (.int .i64 R.sk) := fun W h => (h.bel.cell (p := ⟨w.heap.size, 4, none⟩) cl).trans y4
          have K5 : ∀ W, KS wr [] W → W.cell? ⟨w.heap.size, 5, none⟩ = some (.int .i64 R.ss) := fun W h => (h.bel.cell (p := ⟨w.heap.size, 5, none⟩) cl).trans y5
          have K6 : ∀ W, KS wr [] W → W.cell? ⟨w.heap.size, 6, none⟩ = some (.int .i64 R.db) := fun W h => (h.bel.cell (p := ⟨w.heap.size, 6, none⟩) cl).trans y6
          have L0 : ∀ W, KS wr [] W → W.cell? ⟨g2, o2 + t, none⟩ = some (.string s) := fun W h => (h.bel.cell (p := ⟨g2, o2 + t, none⟩) ls).trans cs
          have L1 : ∀ W, KS wr [] W → W.cell? ⟨gO, i, none⟩ = some (.int .i64 (q : Int)) := fun W h => (h.bel.cell (p := ⟨gO, i, none⟩) lo).trans co
          have L2 : ∀ W, KS wr [] W → W.cell? ⟨g3, o3 + i1, none⟩ = some (.int .u16 (x : Int)) := fun W h => (h.bel.cell (p := ⟨g3, o3 + i1, none⟩) lw).trans cw
          clear y0 y1 y2 y3 y4 y5 y6 cs co cw
          refine wp_region_held_drew (S := KS wr []) (by kernel_rfl) hS (fun hHeld => ?_)
          clear hS
          refine wpAnyH_take (i := 0) (v := ?_) rfl (by kernel_rfl) (by kernel_rfl) (by kernel_rfl) (fun _ _ _ h => h) (Or.inl ⟨by rfl, ?h0⟩) hHeld ?_
          case h0 =>
            intro w' hSw
            (try dsimp only at hSw)
            go_simp
            (try with_reducible rfl)
          (try simp only [Act.put]); (try simp only [List.setIfInBounds_toArray]); (try simp only [List.set_cons_succ]); (try simp only [List.set_cons_zero])
          refine wpAnyH_take (i := 2) (v := ?_) rfl (by kernel_rfl) (by kernel_rfl) (by kernel_rfl) (fun _ _ _ h => h) (Or.inl ⟨by rfl, ?h2⟩) hHeld ?_
          case h2 =>
            intro w' hSw
            (try dsimp only at hSw)
            go_simp
            (try with_reducible rfl)
          (try simp only [Act.put]); (try simp only [List.setIfInBounds_toArray]); (try simp only [List.set_cons_succ]); (try simp only [List.set_cons_zero])
          refine wpAnyH_take (i := 3) (v := ?_) rfl (by kernel_rfl) (by kernel_rfl) (by kernel_rfl) (fun _ _ _ h => h) (Or.inl ⟨by rfl, ?h3⟩) hHeld ?_
          case h3 =>
            intro w' hSw
            (try dsimp only at hSw)
            go_simp
            (try with_reducible rfl)
          (try simp only [Act.put]); (try simp only [List.setIfInBounds_toArray]); (try simp only [List.set_cons_succ]); (try simp only [List.set_cons_zero])
          refine wpAnyH_take (i := 4) (v := ?_) rfl (by kernel_rfl) (by kernel_rfl) (by kernel_rfl) (fun _ _ _ h => h) (Or.inl ⟨by rfl, ?h4⟩) hHeld ?_
          case h4 =>
            intro w' hSw
            (try dsimp only at hSw)
            go_simp
            (try with_reducible rfl)
          (try simp only [Act.put]); (try simp only [List.setIfInBounds_toArray]); (try simp only [List.set_cons_succ]); (try simp only [List.set_cons_zero])
          refine wpAnyH_take (i := 5) (v := ?_) rfl (by kernel_rfl) (by kernel_rfl) (by kernel_rfl) (fun _ _ _ h => h) (Or.inl ⟨by rfl, ?h5⟩) hHeld ?_
          case h5 =>
            intro w' hSw
            (try dsimp only at hSw)
            go_simp
            (try with_reducible rfl)
          (try simp only [Act.put]); (try simp only [List.setIfInBounds_toArray]); (try simp only [List.set_cons_succ]); (try simp only [List.set_cons_zero])
          refine wpAnyH_take (i := 6) (v := ?_) rfl (by kernel_rfl) (by kernel_rfl) (by kernel_rfl) (fun _ _ _ h => h) (Or.inl ⟨by rfl, ?h6⟩) hHeld ?_
          case h6 =>
            intro w' hSw
            (try dsimp only at hSw)
            go_simp
            (try with_reducible rfl)
          (try simp only [Act.put]); (try simp only [List.setIfInBounds_toArray]); (try simp only [List.set_cons_succ]); (try simp only [List.set_cons_zero])
          refine wpAnyH_take (i := 7) (v := ?_) rfl (by kernel_rfl) (by kernel_rfl) (by kernel_rfl) (fun _ _ _ h => h) (Or.inl ⟨by rfl, ?h7⟩) hHeld ?_
          case h7 =>
            intro w' hSw
            (try dsimp only at hSw)
            go_simp
            (try with_reducible rfl)
          (try simp only [Act.put]); (try simp only [List.setIfInBounds_toArray]); (try simp only [List.set_cons_succ]); (try simp only [List.set_cons_zero])
          refine wpAnyH_take (i := 8) (v := ?_) rfl (by kernel_rfl) (by kernel_rfl) (by kernel_rfl) (fun _ _ _ h => h) (Or.inl ⟨by rfl, ?h8⟩) hHeld ?_
          case h8 =>
            intro w' hSw
            (try dsimp only at hSw)
            go_simp
            (try with_reducible rfl)
          (try simp only [Act.put]); (try simp only [List.setIfInBounds_toArray]); (try simp only [List.set_cons_succ]); (try simp only [List.set_cons_zero])
          refine wpAnyH_take (i := 9) (v := ?_) rfl (by kernel_rfl) (by kernel_rfl) (by kernel_rfl) (fun _ _ _ h => h) (Or.inl ⟨by rfl, ?h9⟩) hHeld ?_
          case h9 =>
            intro w' hSw
            (try dsimp only at hSw)
            go_simp
            (try with_reducible rfl)
          (try simp only [Act.put]); (try simp only [List.setIfInBounds_toArray]); (try simp only [List.set_cons_succ]); (try simp only [List.set_cons_zero])
          refine wpAnyH_take (i := 10) (v := ?_) rfl (by kernel_rfl) (by kernel_rfl) (by kernel_rfl) (fun _ _ _ h => h) (Or.inl ⟨by rfl, ?h10⟩) hHeld ?_
          case h10 =>
            intro w' hSw
            (try dsimp only at hSw)
            go_simp
            (try with_reducible rfl)
          (try simp only [Act.put]); (try simp only [List.setIfInBounds_toArray]); (try simp only [List.set_cons_succ]); (try simp only [List.set_cons_zero])
          refine wpAnyH_take (i := 11) (v := ?_) rfl (by kernel_rfl) (by kernel_rfl) (by kernel_rfl) (fun _ _ _ h => h) (Or.inl ⟨by rfl, ?h11⟩) hHeld ?_
          case h11 =>
            intro w' hSw
            (try dsimp only at hSw)
            go_simp
            (try with_reducible rfl)
          (try simp only [Act.put]); (try simp only [List.setIfInBounds_toArray]); (try simp only [List.set_cons_succ]); (try simp only [List.set_cons_zero])
          refine wpAnyH_take (i := 12) (v := ?_) rfl (by kernel_rfl) (by kernel_rfl) (by kernel_rfl) (fun _ _ _ h => h) (Or.inl ⟨by rfl, ?h12⟩) hHeld ?_
          case h12 =>
            intro w' hSw
            (try dsimp only at hSw)
            go_simp
            (try with_reducible rfl)
          (try simp only [Act.put]); (try simp only [List.setIfInBounds_toArray]); (try simp only [List.set_cons_succ]); (try simp only [List.set_cons_zero])
          refine wpAnyH_take (i := 13) (v := ?_) rfl (by kernel_rfl) (by kernel_rfl) (by kernel_rfl) (fun _ _ _ h => h) (Or.inl ⟨by rfl, ?h13⟩) hHeld ?_
          case h13 =>
            intro w' hSw
            (try dsimp only at hSw)
            go_simp
            (try with_reducible rfl)
          (try simp only [Act.put]); (try simp only [List.setIfInBounds_toArray]); (try simp only [List.set_cons_succ]); (try simp only [List.set_cons_zero])
          refine wpAnyH_take (i := 14) (v := ?_) rfl (by kernel_rfl) (by kernel_rfl) (by kernel_rfl) (fun _ _ _ h => h) (Or.inl ⟨by rfl, ?h14⟩) hHeld ?_
          case h14 =>
            intro w' hSw
            (try dsimp only at hSw)
            go_simp
            (try with_reducible rfl)
          (try simp only [Act.put]); (try simp only [List.setIfInBounds_toArray]); (try simp only [List.set_cons_succ]); (try simp only [List.set_cons_zero])
          refine wpAnyH_take (i := 15) (v := ?_) rfl (by kernel_rfl) (by kernel_rfl) (by kernel_rfl) (fun _ _ _ h => h) (Or.inl ⟨by rfl, ?h15⟩) hHeld ?_
          case h15 =>
            intro w' hSw
            (try dsimp only at hSw)
            go_simp
            (try with_reducible rfl)
          (try simp only [Act.put]); (try simp only [List.setIfInBounds_toArray]); (try simp only [List.set_cons_succ]); (try simp only [List.set_cons_zero])
          refine wpAnyH_take (i := 16) (v := ?_) rfl (by kernel_rfl) (by kernel_rfl) (by kernel_rfl) (fun _ _ _ h => h) (Or.inl ⟨by rfl, ?h16⟩) hHeld ?_
          case h16 =>
            intro w' hSw
            (try dsimp only at hSw)
            go_simp
            (try with_reducible rfl)
          (try simp only [Act.put]); (try simp only [List.setIfInBounds_toArray]); (try simp only [List.set_cons_succ]); (try simp only [List.set_cons_zero])
          refine wpAnyH_take (i := 17) (v := ?_) rfl (by kernel_rfl) (by kernel_rfl) (by kernel_rfl) (fun _ _ _ h => h) (Or.inl ⟨by rfl, ?h17⟩) hHeld ?_
          case h17 =>
            intro w' hSw
            (try dsimp only at hSw)
            go_simp
            (try with_reducible rfl)
          (try simp only [Act.put]); (try simp only [List.setIfInBounds_toArray]); (try simp only [List.set_cons_succ]); (try simp only [List.set_cons_zero])
          refine wpAnyH_take (i := 18) (v := ?_) rfl (by kernel_rfl) (by kernel_rfl) (by kernel_rfl) (fun _ _ _ h => h) (Or.inl ⟨by rfl, ?h18⟩) hHeld ?_
          case h18 =>
            intro w' hSw
            (try dsimp only at hSw)
            go_simp
            (try with_reducible rfl)
          (try simp only [Act.put]); (try simp only [List.setIfInBounds_toArray]); (try simp only [List.set_cons_succ]); (try simp only [List.set_cons_zero])
          refine wpAnyH_take (i := 19) (v := ?_) rfl (by kernel_rfl) (by kernel_rfl) (by kernel_rfl) (fun _ _ _ h => h) (Or.inl ⟨by rfl, ?h19⟩) hHeld ?_
          case h19 =>
            intro w' hSw
            (try dsimp only at hSw)
            go_simp
            (try with_reducible rfl)
          (try simp only [Act.put]); (try simp only [List.setIfInBounds_toArray]); (try simp only [List.set_cons_succ]); (try simp only [List.set_cons_zero])
          refine wpAnyH_take (i := 20) (v := ?_) rfl (by kernel_rfl) (by kernel_rfl) (by kernel_rfl) (fun _ _ _ h => h) (Or.inl ⟨by rfl, ?h20⟩) hHeld ?_
          case h20 =>
            intro w' hSw
            (try dsimp only at hSw)
            go_simp
            (try with_reducible rfl)
          (try simp only [Act.put]); (try simp only [List.setIfInBounds_toArray]); (try simp only [List.set_cons_succ]); (try simp only [List.set_cons_zero])
          refine wpAnyH_take (i := 21) (v := ?_) rfl (by kernel_rfl) (by kernel_rfl) (by kernel_rfl) (fun _ _ _ h => h) (Or.inl ⟨by rfl, ?h21⟩) hHeld ?_
          case h21 =>
            intro w' hSw
            (try dsimp only at hSw)
            go_simp
            (try with_reducible rfl)
          (try simp only [Act.put]); (try simp only [List.setIfInBounds_toArray]); (try simp only [List.set_cons_succ]); (try simp only [List.set_cons_zero])
          refine wpAnyH_ready (rs := [1]) (by kernel_rfl) (by simp) ?_
          refine AllReadyH.cons rfl (fun K hK => ?_) (AllReadyH.nil)
          go_simp
          (refine (C10.out _ (BB.out.trans (hHeld.bel.mono BB.out.size))).mono ?_)
          rintro e w30 ⟨a30, g30, c30, rfl, hsk, hle30, hb⟩
          have HK30 := Lib.hid hsk
          clear hsk
          have hS2 := hHeld.below hb
          clear hb
          refine hK.out _ _ hS2 (fun hHeld => ?_)
          clear hK K hS2
          (try simp only [Act.put]); (try simp only [List.setIfInBounds_toArray]); (try simp only [List.set_cons_succ]); (try simp only [List.set_cons_zero])
          refine wpAnyH_ready (rs := [22]) (by kernel_rfl) (by simp) ?_
          refine AllReadyH.cons rfl (fun K hK => ?_) (AllReadyH.nil)
          go_simp
          (refine (C12.out _ (BB.out.trans (hHeld.bel.mono BB.out.size))).mono ?_)
          rintro e w31 ⟨xn, rfl, hok, hb⟩
          have C9 := Lib.hid (C90.out xn hok)
          have HK31 := Lib.hid (HK30.out.below hb)
          clear hok
          have hS2 := hHeld.below hb
          clear hb
          refine hK.out _ _ hS2 (fun hHeld => ?_)
          clear hK K hS2
          (try simp only [Act.put]); (try simp only [List.setIfInBounds_toArray]); (try simp only [List.set_cons_succ]); (try simp only [List.set_cons_zero])
          refine wpAnyH_ready (rs := [23]) (by kernel_rfl) (by simp) ?_
          refine AllReadyH.cons rfl (fun K hK => ?_) (AllReadyH.nil)
          go_simp
          (refine (C9.out _ _ _ _ HK31.out hle30).mono ?_)
          rintro e w32 ⟨rfl, hb⟩
          have hS2 := hHeld.below hb
          clear hb
          refine hK.out _ _ hS2 (fun hHeld => ?_)
          clear hK K hS2
          (try simp only [Act.put]); (try simp only [List.setIfInBounds_toArray]); (try simp only [List.set_cons_succ]); (try simp only [List.set_cons_zero])
          refine wpAnyH_take (i := 24) (v := ?_) rfl (by kernel_rfl) (by kernel_rfl) (by kernel_rfl) (fun _ _ _ h => h) (Or.inl ⟨by rfl, ?h24⟩) hHeld ?_
          case h24 =>
            intro w' hSw
            (try dsimp only at hSw)
            go_simp
            (try with_reducible rfl)
          (try simp only [Act.put]); (try simp only [List.setIfInBounds_toArray]); (try simp only [List.set_cons_succ]); (try simp only [List.set_cons_zero])
          refine wpAnyH_take (i := 25) (v := ?_) rfl (by kernel_rfl) (by kernel_rfl) (by kernel_rfl) (fun _ _ _ h => h) (Or.inl ⟨by rfl, ?h25⟩) hHeld ?_
          case h25 =>
            intro w' hSw
            (try dsimp only at hSw)
            go_simp
            (try with_reducible rfl)
          (try simp only [Act.put]); (try simp only [List.setIfInBounds_toArray]); (try simp only [List.set_cons_succ]); (try simp only [List.set_cons_zero])
          refine wpAnyH_take (i := 26) (v := ?_) rfl (by kernel_rfl) (by kernel_rfl) (by kernel_rfl) (fun _ _ _ h => h) (Or.inl ⟨by rfl, ?h26⟩) hHeld ?_
          case h26 =>
            intro w' hSw
            (try dsimp only at hSw)
            go_simp
            (try with_reducible rfl)
          (try simp only [Act.put]); (try simp only [List.setIfInBounds_toArray]); (try simp only [List.set_cons_succ]); (try simp only [List.set_cons_zero])
          refine wpAnyH_ready (rs := [27]) (by kernel_rfl) (by simp) ?_
          refine AllReadyH.cons rfl (fun K hK => ?_) (AllReadyH.nil)
          go_simp
          refine hK.out _ _ hHeld (fun hHeld => ?_)
          clear hK K
          (try simp only [Act.put]); (try simp only [List.setIfInBounds_toArray]); (try simp only [List.set_cons_succ]); (try simp only [List.set_cons_zero])
          refine wpAnyH_ready (rs := [28]) (by kernel_rfl) (by simp) ?_
          refine AllReadyH.cons rfl (fun K hK => ?_) (AllReadyH.nil)
          go_simp
          refine hK.out _ _ hHeld (fun hHeld => ?_)
          clear hK K
          (try simp only [Act.put]); (try simp only [List.setIfInBounds_toArray]); (try simp only [List.set_cons_succ]); (try simp only [List.set_cons_zero])
          refine wpAnyH_done (by kernel_rfl) ?_ _
          have HH := Lib.hid hHeld.bel
          clear hHeld K0 K1 K2 K3 K4 K5 K6 L0 L1 L2
          have HKX := Lib.hid (H.out.2.trans (Kx.below HH.out))
          have HOE := Lib.hid (row_below H.out.1 HH.out)
          clear C10 C12 C90
          go_wp2_with fail
          have hyr := row_below HKy.out (KB.out _ HKX.out)
          obtain ⟨gK, cK, hkv⟩ := Joins.ownsRow_form hyr (by rw [HKS.out.2]; omega)
          simp only [Value.slice.injEq] at hkv
          obtain ⟨hk1, -, hk3⟩ := hkv
          subst hk1
          subst hk3
          have lK := (hyr.lt gK rfl).2
          have hkst : ks[t]? = some kb := by rw [HKS.out.1, List.getElem?_map, HQ.out.2.2.1, HQ.out.2.2.2]; rfl
          have hkey : ∀ p, ks[p]? = some kb → (∀ j, j < p → ks[j]? ≠ some kb) → keyN R l (ofF of i) = p := fun p h1 h2 => by
            have e1 : l.getD (q % l.length) ⟨#[]⟩ = s := by rw [HM.out, ← HQ.out.2.1, List.getD_eq_getElem?_getD, HQ.out.2.2.1]; rfl
            unfold keyN
            rw [← HKS.out.1, ← HQ.out.1, e1, ← HQ.out.2.2.2]
            exact fstK_eq h1 h2
          have HKEY := Lib.hid hkey
          have HYR := Lib.hid hyr
          have HKT := Lib.hid hkst
          clear hkey hyr hkst
          obtain ⟨W9, hW9⟩ : ∃ W9, W9 = w32 := ⟨_, rfl⟩
          subst hW9
          go_loopw [16] (fun x wr3 => ∃ p : Nat, p ≤ t ∧ x = .int .i64 (p : Int) ∧ Hid (∀ j, j < p → ks[j]? ≠ some kb) ∧ wr3 = W9) (fun x _ => t + 1 - (intOf x).toNat)
          case atStart => exact ⟨0, Nat.zero_le _, rfl, Lib.hid (fun j h => absurd h (Nat.not_lt_zero _)), rfl⟩
          case round =>
            obtain ⟨p, hpt, rfl, HL, rfl⟩ := hrel
            obtain ⟨kp, hkp⟩ : ∃ kp, ks[p]? = some kp := ⟨_, List.getElem?_eq_getElem (by rw [HKS.out.2]; omega)⟩
            have cp : wr.cell? ⟨gK, p, none⟩ = some (.string kp) := own_cell1 HYR.out (by unfold strV; rw [List.getElem?_map, hkp]; rfl)
            have z0 : (0 : Int) ≤ (p : Int) := by omega
            have z1 : (p : Int) < (m : Int) := by omega
            by_cases hkk : kp = kb
            · have z3 : (kp.toList == kb.toList) = true := by rw [hkk]; simp
              have hfin := HKEY.out p (by rw [hkp, hkk]) HL.out
              have HFIN := Lib.hid hfin
              have hko := KO.out _ HKX.out
              have co := hko.cell1 (i := i) (by rw [← HNL.out.2.1]; exact hiN)
              rw [← HQ.out.1] at co
              have lo := (hko.lt gO rfl).2
              obtain ⟨gE, cE, hev⟩ := Joins.ownsRow_form HOE.out (by omega)
              simp only [Value.slice.injEq, true_and] at hev
              obtain ⟨he1, he2⟩ := hev
              subst he1
              subst he2
              have lE := (HOE.out.lt gE rfl).2
              have fE := own_frozen HOE.out (i * 5 + 2)
              obtain ⟨vE, hvE⟩ : ∃ v, wr.cell? ⟨gE, i * 5 + 2, none⟩ = some v := by
                have hlen : (entsV (esK es (fun j => keyN R l (ofF of j)) i)).length = N * 5 := by rw [entsV_len, esK_len, HNL.out.1]
                exact ⟨_, (World.ownsRow.cellAt HOE.out (i * 5 + 2) (by omega)).trans (List.getElem?_eq_getElem (by omega))⟩
              have bc := KC.out _ HKX.out
              have d0 := bc.cell 0
              have dl := bc.lt
              have z4 : ¬ (t : Int) < (p : Int) := by omega
              have z5 : (0 : Int) ≤ (i : Int) := by omega
              have z6 : (i : Int) < (N : Int) := by omega
              clear hkp hkk hfin hko bc
              go_wp2_with fail
              go_roundw
              case rel =>
                refine ⟨i + 1, by omega, by go_num, Lib.hid ⟨?_, HKX.out.trans (Kx.set (a := ⟨gE, i * 5 + 2, none⟩) (by rw [HEE.out]; rfl) _)⟩⟩
                rw [← esK_set (f := fun j => keyN R l (ofF of j)) (by rw [HNL.out.1]; exact hiN), HFIN.out]
                exact own_setk HOE.out _
              case measure => simp [intOf]; omega
            · have z3 : (kp.toList == kb.toList) = false := by rw [beq_eq_false_iff_ne, ByteArray.toList_eq, ByteArray.toList_eq]; intro e; exact hkk (ByteArray.ext (Array.toList_inj.1 e))
              have hpt2 : p < t := by
                rcases Nat.lt_or_ge p t with h | h
                · exact h
                · exfalso; have e : p = t := by omega
                  rw [e, HKT.out] at hkp; exact hkk (Option.some.inj hkp).symm
              have HL2 := Lib.hid (show ∀ j, j < p + 1 → ks[j]? ≠ some kb from fun j hj => by
                rcases Nat.lt_succ_iff_lt_or_eq.1 hj with h | h
                · exact HL.out j h
                · rw [h, hkp]; exact fun e => hkk (Option.some.inj e))
              clear hkp hkk
              go_wp2_with fail
              go_roundw
              case rel => exact ⟨p + 1, by omega, by go_num, HL2, by first | rfl | trivial⟩
              case measure => simp [intOf]; omega
        · have hix : i = N := by omega
          obtain ⟨w7, hw7⟩ : ∃ w7, w7 = wr := ⟨_, rfl⟩
          subst hw7
          have hes : esK es (fun j => keyN R l (ofF of j)) i = esN es of (keyN R l) := by unfold esN; rw [hix, HNL.out.1]
          rw [hes] at H
          have htf := HTF.out
          have hel := HNL.out.1
          have hofN : of.length = N := HNL.out.2.1.symm
          have hF99 : ∀ q, keyN R l q ≤ 99 := fun q => by
            have h1 := keyN_lt (R := R) (l := l) (by rw [HM.out]; exact hm0p) q
            have h2 := Nat.mod_lt q (show 0 < l.length by rw [HM.out]; exact hm0p)
            have := HM.out
            omega
          have hTru : Tru (esN es of (keyN R l)) sm ap of := esN_tru htf.tp htf.n9 htf.psm htf.pap
          have hCen : CenOk (esN es of (keyN R l)) sm ap om nu := esN_cen htf.tp htf.n9 htf.psm htf.pap htf.s5 htf.a5 htf.rom htf.rnu hF99
          have hKey : ∀ j, j < N → ((esN es of (keyN R l)).getD j ⟨0, 0, 0, 0, 0⟩).k = keyN R l (ofF of j) := fun j hj => by rw [esN_get (by rw [hel]; exact hj)]; rfl
          have hENl : (esN es of (keyN R l)).length = N := by rw [esN_len]; exact hel
          obtain ⟨EN, hEN⟩ : ∃ EN, EN = esN es of (keyN R l) := ⟨_, rfl⟩
          rw [← hEN] at H hTru hCen hKey hENl
          obtain ⟨e1, hv1, hse, hef, -⟩ := own_sle (t := 47) (es := EN) (by rw [hENl]; exact H.out.1)
          rw [hENl] at hv1
          simp only [Value.slice.injEq, true_and] at hv1
          obtain ⟨ha1, ha2⟩ := hv1
          have bc7 := KC.out _ H.out.2
          obtain ⟨s1, hv2, hss, hsf, -⟩ := own_slp2 (KSm.out _ H.out.2)
          simp only [Value.slice.injEq, true_and] at hv2
          obtain ⟨ha3, ha4⟩ := hv2
          obtain ⟨a1, hv3, hsa, haf, -⟩ := own_slp2 (KAp.out _ H.out.2)
          simp only [Value.slice.injEq, true_and] at hv3
          obtain ⟨ha5, ha6⟩ := hv3
          obtain ⟨⟨oa9, ob9, oo9, oc9⟩, hv4, hso, -⟩ := SlN.of_own (KO.out _ H.out.2)
          rw [hofN] at hv4
          dsimp only at hv4
          simp only [Value.slice.injEq, true_and] at hv4
          obtain ⟨ha7, ha8⟩ := hv4
          have B7 := HB4.out.trans ((KB.out _ H.out.2).mono HB4.out.size)
          have gd7 := HG.out.below B7
          subst ha1
          subst ha2
          subst ha3
          subst ha4
          subst ha5
          subst ha6
          subst ha7
          subst ha8
          have hP5 : manyL of ≤ 5 := many_lt5 _ _ htf.tp.lt5
          have hgl : (groupsL of).length = manyL of := groupsL_len of
          obtain ⟨P, hP⟩ : ∃ P, P = manyL of := ⟨_, rfl⟩
          have hlo := htf.lo
          have hhi := htf.hi
          rw [← hP] at hP5 hgl hlo hhi
          have hGrp := grp_ok of (fun i hi => by have := htf.tp.lt5 i hi; omega)
          have hGl : ∀ r, r ∈ groupsL of → r.length ≤ 10 := fun r hr => by have := own_len of r hr; omega
          have hCons : ∀ m Lw, ReadOf EN sm ap m Lw → consB om nu m Lw = true ∧ pLo om nu Lw ≤ (P : Int) ∧ (P : Int) ≤ pHi om nu m := fun m Lw hr => by rw [hP]; exact hTru.cons hr (by rw [← hP]; exact hlo) (by rw [← hP]; exact hhi)
          have CC := Lib.hid (fun W (hb : Below w7.heap.size w7 W) => census_s e1 s1 a1 EN sm ap om nu N hENl W (hse.below hb) (hss.below hb) (hsa.below hb) (by omega) (by have := htf.s5; omega) (by have := htf.a5; omega))
          have CG : Hid (∀ W, Below w7.heap.size w7 W → Calls Tryz.prog 16 #[.slice oa N oc] W fun e w' => ∃ v, e = .returned v ∧ TabK w' W.heap.size v (groupsL of) ∧ Below W.heap.size W w') := Lib.hid (fun W hb => grouped_any ⟨oa, ob9, oo9, oc⟩ N of W hofN (hso.below hb) (by omega))
          have CP := Lib.hid (fun W e s a (hA : CenAt W e s a EN sm ap) => Persons_ok e s a EN sm ap om nu W hA hCen (fun m Lw hr => (hCons m Lw hr).1))
          have CV := Lib.hid (fun W e s a va vc B (hA : CenAt W e s a EN sm ap) (hV : TabK W B (.slice va P vc) (groupsL of)) => Prove_ok e s a EN sm ap om nu of (groupsL of) P va vc B W hA hCen hTru hGrp hgl (by omega) hGl hV hlo hhi)
          have CI := Lib.hid (fun W va vc B (hb : Below w7.heap.size w7 W) (hV : TabK W B (.slice va P vc) (groupsL of)) => IsAssign_ok e1 s1 a1 EN sm ap om.1 om.2 nu.1 nu.2 of (groupsL of) N P va vc B W hENl (hse.below hb) (hss.below hb) (hsa.below hb) hTru (fun x hx => by have := hCen.ent x hx; omega) hGrp hgl (by omega) hGl hV hCen.s6 hCen.a6 hCen.om hCen.nu hlo hhi)
          have CT := Lib.hid (fun W e s a i k (hA : CenAt W e s a EN sm ap) (hs : s.a = none ∨ s.a = some ⟨s.b, s.o, none⟩) (ha : a.a = none ∨ a.a = some ⟨a.b, a.o, none⟩) (hp1 : i < N) (hp2 : k < N) (hne : i ≠ k) => tog_s e s a EN sm ap om nu i k W hA hCen (fun m Lw hr => (hCons m Lw hr).1) hs ha htf.s5 htf.a5 (by rw [hENl]; exact hp1) (by rw [hENl]; exact hp2) hne)
          have HG7 := Lib.hid (fun W (hb : Below w7.heap.size w7 W) => gd7.below hb)
          have HB7 := Lib.hid B7
          have BC := Lib.hid bc7
          have HCO := Lib.hid hCons
          have HSE := Lib.hid (And.intro hse (And.intro hso hKey))
          have HTR := Lib.hid (And.intro hTru (And.intro hlo hhi))
          have HEL := Lib.hid (And.intro hENl (And.intro hofN hgl))
          have HPP := Lib.hid hP
          have HCEN := Lib.hid hCen
          obtain ⟨y0, y1, y2, y3, y4, y5, y6⟩ := bc7.c7
          have cl := bc7.lt
          have p1 : ¬ (i : Int) < (N : Int) := by omega
          clear hix hes hEN hse hss hsa hso hef hsf haf bc7 B7 gd7 hP hlo hhi hgl hGrp hGl hCons htf hel hofN hF99 hTru hCen hKey hENl
          clear KB KC KO KSm KAp HE6 HEE HW6 HKy S4 H
          go_wp2_with fail
          with_reducible refine (CC.out _ (Below.refl _ _)).mono ?_
          rintro x9 w8 ⟨e2, s2, a2x, rfl, ⟨hse2, hss2, hsa2⟩, hsf2, haf2, hb⟩
          have HA8 := Lib.hid (show CenAt w8 e2 s2 a2x EN sm ap from ⟨hse2, hss2, hsa2, (HG7.out _ hb).gt, (HG7.out _ hb).one⟩)
          have HB8 := Lib.hid hb
          clear hse2 hss2 hsa2 hsf2 haf2 hb
          go_wp2_with fail
          with_reducible refine (CP.out _ _ _ _ HA8.out).mono ?_
          rintro x9 w9 ⟨m9, L9, hr9, rfl, hb⟩
          obtain ⟨-, i1, i2⟩ := HCO.out _ _ hr9
          obtain ⟨pl, hpl⟩ : ∃ z, z = pLo om nu L9 := ⟨_, rfl⟩
          obtain ⟨ph, hph⟩ : ∃ z, z = pHi om nu m9 := ⟨_, rfl⟩
          rw [← hpl] at i1 ⊢
          rw [← hph] at i2 ⊢
          generalize max (om.1 : Int) ((nu.1 : Int) - ph) = x1
          generalize min (om.2 : Int) ((nu.2 : Int) - pl) = x2
          have HB9 := Lib.hid (HB8.out.trans (hb.mono HB8.out.size))
          have j1 : ¬ (P : Int) < pl := by omega
          have j2 : ¬ ph < (P : Int) := by omega
          have j3 : decide ((P : Int) < pl) = false := decide_eq_false j1
          have j4 : decide (ph < (P : Int)) = false := decide_eq_false j2
          clear hr9 hb hpl hph i1 i2 y0 y1 y2 y3 y4 y5 y6 cl
          go_wp2_with fail
          have hb10 : Below w7.heap.size w7 ((w9.alloc (.cells #[.int .i64 pl, .int .i64 ph] 48)).alloc (.cells #[.int .i64 x1, .int .i64 x2] 48)) := (HB9.out.alloc HB9.out.size _).alloc (by have := HB9.out.size; simp; omega) _
          have bp10 : Blk ((w9.alloc (.cells #[.int .i64 pl, .int .i64 ph] 48)).alloc (.cells #[.int .i64 x1, .int .i64 x2] 48)) w9.heap.size #[.int .i64 pl, .int .i64 ph] 48 := (Blk.new w9 _ _).alloc _
          have bc10 := BC.out.b hb10
          have kc0 := bp10.cell 0
          have kc1 := bp10.cell 1
          have kcl := bp10.lt
          obtain ⟨y0, y1, y2, y3, y4, y5, y6⟩ := bc10.c7
          have cl := bc10.lt
          have BX := Lib.hid (fun W (h : Below ((w9.alloc (.cells #[.int .i64 pl, .int .i64 ph] 48)).alloc (.cells #[.int .i64 x1, .int .i64 x2] 48)).heap.size ((w9.alloc (.cells #[.int .i64 pl, .int .i64 ph] 48)).alloc (.cells #[.int .i64 x1, .int .i64 x2] 48)) W) => hb10.trans (h.mono hb10.size))
          have hS : KS ((w9.alloc (.cells #[.int .i64 pl, .int .i64 ph] 48)).alloc (.cells #[.int .i64 x1, .int .i64 x2] 48)) [] ((w9.alloc (.cells #[.int .i64 pl, .int .i64 ph] 48)).alloc (.cells #[.int .i64 x1, .int .i64 x2] 48)).drew := ⟨fun x hx => (by cases hx), (Below.refl _ _).drew⟩
          have K0 : ∀ W, KS ((w9.alloc (.cells #[.int .i64 pl, .int .i64 ph] 48)).alloc (.cells #[.int .i64 x1, .int .i64 x2] 48)) [] W → W.cell? ⟨w5.heap.size, 0, none⟩ = some (.slice e1.a N e1.c) := fun W h => (h.bel.cell (p := ⟨w5.heap.size, 0, none⟩) cl).trans y0
          have K1 : ∀ W, KS ((w9.alloc (.cells #[.int .i64 pl, .int .i64 ph] 48)).alloc (.cells #[.int .i64 x1, .int .i64 x2] 48)) [] W → W.cell? ⟨w5.heap.size, 1, none⟩ = some (.slice s1.a sm.length s1.c) := fun W h => (h.bel.cell (p := ⟨w5.heap.size, 1, none⟩) cl).trans y1
          have K2 : ∀ W, KS ((w9.alloc (.cells #[.int .i64 pl, .int .i64 ph] 48)).alloc (.cells #[.int .i64 x1, .int .i64 x2] 48)) [] W → W.cell? ⟨w5.heap.size, 2, none⟩ = some (.slice a1.a ap.length a1.c) := fun W h => (h.bel.cell (p := ⟨w5.heap.size, 2, none⟩) cl).trans y2
          have K3 : ∀ W, KS ((w9.alloc (.cells #[.int .i64 pl, .int .i64 ph] 48)).alloc (.cells #[.int .i64 x1, .int .i64 x2] 48)) [] W → W.cell? ⟨w5.heap.size, 3, none⟩ = some (.int .i64 (om.1 : Int)) := fun W h => (h.bel.cell (p := ⟨w5.heap.size, 3, none⟩) cl).trans y3
          have K4 : ∀ W, KS ((w9.alloc (.cells #[.int .i64 pl, .int .i64 ph] 48)).alloc (.cells #[.int .i64 x1, .int .i64 x2] 48)) [] W → W.cell? ⟨w5.heap.size, 4, none⟩ = some (.int .i64 (om.2 : Int)) := fun W h => (h.bel.cell (p := ⟨w5.heap.size, 4, none⟩) cl).trans y4
          have K5 : ∀ W, KS ((w9.alloc (.cells #[.int .i64 pl, .int .i64 ph] 48)).alloc (.cells #[.int .i64 x1, .int .i64 x2] 48)) [] W → W.cell? ⟨w5.heap.size, 5, none⟩ = some (.int .i64 (nu.1 : Int)) := fun W h => (h.bel.cell (p := ⟨w5.heap.size, 5, none⟩) cl).trans y5
          have K6 : ∀ W, KS ((w9.alloc (.cells #[.int .i64 pl, .int .i64 ph] 48)).alloc (.cells #[.int .i64 x1, .int .i64 x2] 48)) [] W → W.cell? ⟨w5.heap.size, 6, none⟩ = some (.int .i64 (nu.2 : Int)) := fun W h => (h.bel.cell (p := ⟨w5.heap.size, 6, none⟩) cl).trans y6
          have K7 : ∀ W, KS ((w9.alloc (.cells #[.int .i64 pl, .int .i64 ph] 48)).alloc (.cells #[.int .i64 x1, .int .i64 x2] 48)) [] W → W.cell? ⟨w9.heap.size, 0, none⟩ = some (.int .i64 pl) := fun W h => (h.bel.cell (p := ⟨w9.heap.size, 0, none⟩) kcl).trans kc0
          have K8 : ∀ W, KS ((w9.alloc (.cells #[.int .i64 pl, .int .i64 ph] 48)).alloc (.cells #[.int .i64 x1, .int .i64 x2] 48)) [] W → W.cell? ⟨w9.heap.size, 1, none⟩ = some (.int .i64 ph) := fun W h => (h.bel.cell (p := ⟨w9.heap.size, 1, none⟩) kcl).trans kc1
          clear y0 y1 y2 y3 y4 y5 y6 kc0 kc1 bp10 bc10
          refine wp_region_held_drew (S := KS ((w9.alloc (.cells #[.int .i64 pl, .int .i64 ph] 48)).alloc (.cells #[.int .i64 x1, .int .i64 x2] 48)) []) (by kernel_rfl) hS (fun hHeld => ?_)
          clear hS
          refine wpAnyH_take (i := 0) (v := ?_) rfl (by kernel_rfl) (by kernel_rfl) (by kernel_rfl) (fun _ _ _ h => h) (Or.inl ⟨by rfl, ?h0⟩) hHeld ?_
          case h0 =>
            intro w' hSw
            (try dsimp only at hSw)
            go_simp
            (try with_reducible rfl)
          (try simp only [Act.put]); (try simp only [List.setIfInBounds_toArray]); (try simp only [List.set_cons_succ]); (try simp only [List.set_cons_zero])
          refine wpAnyH_take (i := 1) (v := ?_) rfl (by kernel_rfl) (by kernel_rfl) (by kernel_rfl) (fun _ _ _ h => h) (Or.inl ⟨by rfl, ?h1⟩) hHeld ?_
          case h1 =>
            intro w' hSw
            (try dsimp only at hSw)
            go_simp
            (try with_reducible rfl)
          (try simp only [Act.put]); (try simp only [List.setIfInBounds_toArray]); (try simp only [List.set_cons_succ]); (try simp only [List.set_cons_zero])
          refine wpAnyH_take (i := 2) (v := ?_) rfl (by kernel_rfl) (by kernel_rfl) (by kernel_rfl) (fun _ _ _ h => h) (Or.inl ⟨by rfl, ?h2⟩) hHeld ?_
          case h2 =>
            intro w' hSw
            (try dsimp only at hSw)
            go_simp
            (try with_reducible rfl)
          (try simp only [Act.put]); (try simp only [List.setIfInBounds_toArray]); (try simp only [List.set_cons_succ]); (try simp only [List.set_cons_zero])
          refine wpAnyH_take (i := 3) (v := ?_) rfl (by kernel_rfl) (by kernel_rfl) (by kernel_rfl) (fun _ _ _ h => h) (Or.inl ⟨by kernel_rfl, ?h3⟩) hHeld ?_
          case h3 =>
            intro w' hSw
            (try dsimp only at hSw)
            go_simp
            (try with_reducible rfl)
          (try simp only [Act.put]); (try simp only [List.setIfInBounds_toArray]); (try simp only [List.set_cons_succ]); (try simp only [List.set_cons_zero])
          refine wpAnyH_take (i := 5) (v := ?_) rfl (by kernel_rfl) (by kernel_rfl) (by kernel_rfl) (fun _ _ _ h => h) (Or.inl ⟨by kernel_rfl, ?h5⟩) hHeld ?_
          case h5 =>
            intro w' hSw
            (try dsimp only at hSw)
            go_simp
            (try with_reducible rfl)
          (try simp only [Act.put]); (try simp only [List.setIfInBounds_toArray]); (try simp only [List.set_cons_succ]); (try simp only [List.set_cons_zero])
          refine wpAnyH_ready (rs := [4]) (by kernel_rfl) (by simp) ?_
          refine AllReadyH.cons rfl (fun K hK => ?_) (AllReadyH.nil)
          go_simp
          (refine (CC.out _ (BX.out _ hHeld.bel)).mono ?_)
          rintro e9 w11 ⟨e3, s3, a3x, rfl, ⟨hse2, hss2, hsa2⟩, -, -, hb⟩
          have HA11 := Lib.hid (show CenAt w11 e3 s3 a3x EN sm ap from ⟨hse2, hss2, hsa2, (HG7.out _ (BX.out _ (hHeld.below hb).bel)).gt, (HG7.out _ (BX.out _ (hHeld.below hb).bel)).one⟩)
          clear hse2 hss2 hsa2
          have hS2 := hHeld.below hb
          clear hb
          refine hK.out _ _ hS2 (fun hHeld => ?_)
          clear hK K hS2
          (try simp only [Act.put]); (try simp only [List.setIfInBounds_toArray]); (try simp only [List.set_cons_succ]); (try simp only [List.set_cons_zero])
          refine wpAnyH_ready (rs := [6]) (by kernel_rfl) (by simp) ?_
          refine AllReadyH.cons rfl (fun K hK => ?_) (AllReadyH.nil)
          go_simp
          (refine (CG.out _ (BX.out _ hHeld.bel)).mono ?_)
          rintro e9 w26 ⟨v9, rfl, htab, hb⟩
          obtain ⟨va6, vc6, hv9⟩ := tab_form2 htab HEL.out.2.2
          subst hv9
          have HV12 := Lib.hid htab
          have HA12 := Lib.hid (HA11.out.below hb)
          clear htab
          have hS2 := hHeld.below hb
          clear hb
          refine hK.out _ _ hS2 (fun hHeld => ?_)
          clear hK K hS2
          (try simp only [Act.put]); (try simp only [List.setIfInBounds_toArray]); (try simp only [List.set_cons_succ]); (try simp only [List.set_cons_zero])
          refine wpAnyH_ready (rs := [7]) (by kernel_rfl) (by simp) ?_
          refine AllReadyH.cons rfl (fun K hK => ?_) (AllReadyH.nil)
          go_simp
          (refine (CV.out _ _ _ _ _ _ _ HA12.out HV12.out).mono ?_)
          rintro e9 w13 ⟨rfl, hb⟩
          have hS2 := hHeld.below hb
          clear hb
          refine hK.out _ _ hS2 (fun hHeld => ?_)
          clear hK K hS2
          (try simp only [Act.put]); (try simp only [List.setIfInBounds_toArray]); (try simp only [List.set_cons_succ]); (try simp only [List.set_cons_zero])
          refine wpAnyH_take (i := 8) (v := ?_) rfl (by kernel_rfl) (by kernel_rfl) (by kernel_rfl) (fun _ _ _ h => h) (Or.inl ⟨by kernel_rfl, ?h8⟩) hHeld ?_
          case h8 =>
            intro w' hSw
            (try dsimp only at hSw)
            go_simp
            (try with_reducible rfl)
          (try simp only [Act.put]); (try simp only [List.setIfInBounds_toArray]); (try simp only [List.set_cons_succ]); (try simp only [List.set_cons_zero])
          refine wpAnyH_take (i := 9) (v := ?_) rfl (by kernel_rfl) (by kernel_rfl) (by kernel_rfl) (fun _ _ _ h => h) (Or.inl ⟨by rfl, ?h9⟩) hHeld ?_
          case h9 =>
            intro w' hSw
            (try dsimp only at hSw)
            go_simp
            (try with_reducible rfl)
          (try simp only [Act.put]); (try simp only [List.setIfInBounds_toArray]); (try simp only [List.set_cons_succ]); (try simp only [List.set_cons_zero])
          refine wpAnyH_take (i := 10) (v := ?_) rfl (by kernel_rfl) (by kernel_rfl) (by kernel_rfl) (fun _ _ _ h => h) (Or.inl ⟨by rfl, ?h10⟩) hHeld ?_
          case h10 =>
            intro w' hSw
            (try dsimp only at hSw)
            go_simp
            (try with_reducible rfl)
          (try simp only [Act.put]); (try simp only [List.setIfInBounds_toArray]); (try simp only [List.set_cons_succ]); (try simp only [List.set_cons_zero])
          refine wpAnyH_take (i := 11) (v := ?_) rfl (by kernel_rfl) (by kernel_rfl) (by kernel_rfl) (fun _ _ _ h => h) (Or.inl ⟨by kernel_rfl, ?h11⟩) hHeld ?_
          case h11 =>
            intro w' hSw
            (try dsimp only at hSw)
            go_simp
            (try with_reducible rfl)
          (try simp only [Act.put]); (try simp only [List.setIfInBounds_toArray]); (try simp only [List.set_cons_succ]); (try simp only [List.set_cons_zero])
          refine wpAnyH_take (i := 14) (v := ?_) rfl (by kernel_rfl) (by kernel_rfl) (by kernel_rfl) (fun _ _ _ h => h) (Or.inl ⟨by kernel_rfl, ?h14⟩) hHeld ?_
          case h14 =>
            intro w' hSw
            (try dsimp only at hSw)
            go_simp
            (try with_reducible rfl)
          (try simp only [Act.put]); (try simp only [List.setIfInBounds_toArray]); (try simp only [List.set_cons_succ]); (try simp only [List.set_cons_zero])
          refine wpAnyH_take (i := 15) (v := ?_) rfl (by kernel_rfl) (by kernel_rfl) (by kernel_rfl) (fun _ _ _ h => h) (Or.inl ⟨by kernel_rfl, ?h15⟩) hHeld ?_
          case h15 =>
            intro w' hSw
            (try dsimp only at hSw)
            go_simp
            (try with_reducible rfl)
          (try simp only [Act.put]); (try simp only [List.setIfInBounds_toArray]); (try simp only [List.set_cons_succ]); (try simp only [List.set_cons_zero])
          refine wpAnyH_ready (rs := [12]) (by kernel_rfl) (by simp) ?_
          refine AllReadyH.cons rfl (fun K hK => ?_) (AllReadyH.nil)
          go_simp
          (refine (CG.out _ (BX.out _ hHeld.bel)).mono ?_)
          rintro e9 w32 ⟨v9, rfl, htab, hb⟩
          obtain ⟨va12, vc12, hv9⟩ := tab_form2 htab HEL.out.2.2
          subst hv9
          clear htab
          have hS2 := hHeld.below hb
          clear hb
          refine hK.out _ _ hS2 (fun hHeld => ?_)
          clear hK K hS2
          (try simp only [Act.put]); (try simp only [List.setIfInBounds_toArray]); (try simp only [List.set_cons_succ]); (try simp only [List.set_cons_zero])
          refine wpAnyH_take (i := 13) (v := ?_) rfl (by kernel_rfl) (by kernel_rfl) (by kernel_rfl) (fun _ _ _ h => h) (Or.inl ⟨by kernel_rfl, ?h13⟩) hHeld ?_
          case h13 =>
            intro w' hSw
            (try dsimp only at hSw)
            go_simp
            (try with_reducible rfl)
          (try simp only [Act.put]); (try simp only [List.setIfInBounds_toArray]); (try simp only [List.set_cons_succ]); (try simp only [List.set_cons_zero])
          refine wpAnyH_take (i := 16) (v := ?_) rfl (by kernel_rfl) (by kernel_rfl) (by kernel_rfl) (fun _ _ _ h => h) (Or.inl ⟨by kernel_rfl, ?h16⟩) hHeld ?_
          case h16 =>
            intro w' hSw
            (try dsimp only at hSw)
            go_simp
            (try with_reducible rfl)
          (try simp only [Act.put]); (try simp only [List.setIfInBounds_toArray]); (try simp only [List.set_cons_succ]); (try simp only [List.set_cons_zero])
          refine wpAnyH_take (i := 17) (v := ?_) rfl (by kernel_rfl) (by kernel_rfl) (by kernel_rfl) (fun _ _ _ h => h) (Or.inl ⟨by rfl, ?h17⟩) hHeld ?_
          case h17 =>
            intro w' hSw
            (try dsimp only at hSw)
            go_simp
            (try with_reducible rfl)
          (try simp only [Act.put]); (try simp only [List.setIfInBounds_toArray]); (try simp only [List.set_cons_succ]); (try simp only [List.set_cons_zero])
          refine wpAnyH_take (i := 18) (v := ?_) rfl (by kernel_rfl) (by kernel_rfl) (by kernel_rfl) (fun _ _ _ h => h) (Or.inl ⟨by rfl, ?h18⟩) hHeld ?_
          case h18 =>
            intro w' hSw
            (try dsimp only at hSw)
            go_simp
            (try with_reducible rfl)
          (try simp only [Act.put]); (try simp only [List.setIfInBounds_toArray]); (try simp only [List.set_cons_succ]); (try simp only [List.set_cons_zero])
          refine wpAnyH_take (i := 19) (v := ?_) rfl (by kernel_rfl) (by kernel_rfl) (by kernel_rfl) (fun _ _ _ h => h) (Or.inl ⟨by kernel_rfl, ?h19⟩) hHeld ?_
          case h19 =>
            intro w' hSw
            (try dsimp only at hSw)
            go_simp
            (try with_reducible rfl)
          (try simp only [Act.put]); (try simp only [List.setIfInBounds_toArray]); (try simp only [List.set_cons_succ]); (try simp only [List.set_cons_zero])
          refine wpAnyH_take (i := 22) (v := ?_) rfl (by kernel_rfl) (by kernel_rfl) (by kernel_rfl) (fun _ _ _ h => h) (Or.inl ⟨by kernel_rfl, ?h22⟩) hHeld ?_
          case h22 =>
            intro w' hSw
            (try dsimp only at hSw)
            go_simp
            (try with_reducible rfl)
          (try simp only [Act.put]); (try simp only [List.setIfInBounds_toArray]); (try simp only [List.set_cons_succ]); (try simp only [List.set_cons_zero])
          refine wpAnyH_take (i := 23) (v := ?_) rfl (by kernel_rfl) (by kernel_rfl) (by kernel_rfl) (fun _ _ _ h => h) (Or.inl ⟨by kernel_rfl, ?h23⟩) hHeld ?_
          case h23 =>
            intro w' hSw
            (try dsimp only at hSw)
            go_simp
            (try with_reducible rfl)
          (try simp only [Act.put]); (try simp only [List.setIfInBounds_toArray]); (try simp only [List.set_cons_succ]); (try simp only [List.set_cons_zero])
          refine wpAnyH_ready (rs := [20]) (by kernel_rfl) (by simp) ?_
          refine AllReadyH.cons rfl (fun K hK => ?_) (AllReadyH.nil)
          go_simp
          (refine (CG.out _ (BX.out _ hHeld.bel)).mono ?_)
          rintro e9 w40 ⟨v9, rfl, htab, hb⟩
          obtain ⟨va20, vc20, hv9⟩ := tab_form2 htab HEL.out.2.2
          subst hv9
          clear htab
          have hS2 := hHeld.below hb
          clear hb
          refine hK.out _ _ hS2 (fun hHeld => ?_)
          clear hK K hS2
          (try simp only [Act.put]); (try simp only [List.setIfInBounds_toArray]); (try simp only [List.set_cons_succ]); (try simp only [List.set_cons_zero])
          refine wpAnyH_take (i := 21) (v := ?_) rfl (by kernel_rfl) (by kernel_rfl) (by kernel_rfl) (fun _ _ _ h => h) (Or.inl ⟨by kernel_rfl, ?h21⟩) hHeld ?_
          case h21 =>
            intro w' hSw
            (try dsimp only at hSw)
            go_simp
            (try with_reducible rfl)
          (try simp only [Act.put]); (try simp only [List.setIfInBounds_toArray]); (try simp only [List.set_cons_succ]); (try simp only [List.set_cons_zero])
          refine wpAnyH_take (i := 24) (v := ?_) rfl (by kernel_rfl) (by kernel_rfl) (by kernel_rfl) (fun _ _ _ h => h) (Or.inl ⟨by kernel_rfl, ?h24⟩) hHeld ?_
          case h24 =>
            intro w' hSw
            (try dsimp only at hSw)
            go_simp
            (try with_reducible rfl)
          (try simp only [Act.put]); (try simp only [List.setIfInBounds_toArray]); (try simp only [List.set_cons_succ]); (try simp only [List.set_cons_zero])
          refine wpAnyH_take (i := 25) (v := ?_) rfl (by kernel_rfl) (by kernel_rfl) (by kernel_rfl) (fun _ _ _ h => h) (Or.inl ⟨by rfl, ?h25⟩) hHeld ?_
          case h25 =>
            intro w' hSw
            (try dsimp only at hSw)
            go_simp
            (try with_reducible rfl)
          (try simp only [Act.put]); (try simp only [List.setIfInBounds_toArray]); (try simp only [List.set_cons_succ]); (try simp only [List.set_cons_zero])
          refine wpAnyH_done (by kernel_rfl) ?_ _
          have HB11 := Lib.hid (BX.out _ hHeld.bel)
          clear hHeld K0 K1 K2 K3 K4 K5 K6 K7 K8
          go_wp2_with fail
          go_loopw [20] (fun x wr => ∃ i6 : Nat, i6 ≤ N ∧ x = .int .i64 (i6 : Int) ∧ Hid (Below w7.heap.size w7 wr)) (fun x _ => N - (intOf x).toNat)
          case atStart => exact ⟨0, Nat.zero_le _, rfl, HB11⟩
          case round =>
            clear HB11 HB9 HB8 HA8 CP CV BX j1 j2 j3 j4
            obtain ⟨i6, hi6, rfl, H⟩ := hrel
            by_cases hiN : i6 < N
            · have p2 : (i6 : Int) < (N : Int) := by omega
              go_wp2_with fail
              go_loopw [21] (fun x wr => ∃ k : Nat, k ≤ i6 ∧ x = .int .i64 (k : Int) ∧ Hid (Below w7.heap.size w7 wr)) (fun x _ => i6 - (intOf x).toNat)
              case atStart => exact ⟨0, Nat.zero_le _, rfl, H⟩
              case round =>
                clear H
                obtain ⟨k, hk6, rfl, F⟩ := hrel
                by_cases hki : k < i6
                · have bc := BC.out.b F.out
                  obtain ⟨y0, y1, y2, y3, y4, y5, y6⟩ := bc.c7
                  have cl := bc.lt
                  have p3 : (k : Int) < (i6 : Int) := by omega
                  clear bc
                  go_wp2_with fail
                  with_reducible refine (CC.out _ F.out).mono ?_
                  rintro x9 w51 ⟨e3, s3, a3x, rfl, ⟨hse3, hss3, hsa3⟩, hsf3, haf3, hb⟩
                  have HB51 := Lib.hid (F.out.trans (hb.mono F.out.size))
                  have HA51 := Lib.hid (show CenAt w51 e3 s3 a3x EN sm ap from ⟨hse3, hss3, hsa3, (HG7.out _ HB51.out).gt, (HG7.out _ HB51.out).one⟩)
                  have HF51 := Lib.hid (And.intro hsf3 haf3)
                  clear hse3 hss3 hsa3 hsf3 haf3 hb y0 y1 y2 y3 y4 y5 y6 cl
                  go_wp2_with fail
                  with_reducible refine (CT.out _ _ _ _ i6 k HA51.out HF51.out.1 HF51.out.2 hiN (by omega) (by omega)).mono ?_
                  rintro x9 w52 ⟨m1, L1, m2, L2, hr1, hr2, rfl, hb⟩
                  have hb52 := HB51.out.trans (hb.mono HB51.out.size)
                  have bc := BC.out.b hb52
                  have y0 := bc.cell 0
                  have cl := bc.lt
                  have hofl := HEL.out.2.1
                  have hone : of ≠ [] := by rintro rfl; simp at hofl; omega
                  have hso := HSE.out.2.1.below hb52
                  have oat := hso.at_ hone
                  dsimp only at oat
                  subst oat
                  have ci := hso.cells i6 _ (ofF_get (by omega))
                  have ck := hso.cells k _ (ofF_get (by omega))
                  have lo := hso.lt hone
                  dsimp only at ci ck lo
                  have hene : EN ≠ [] := by intro e; have h := HEL.out.1; rw [e] at h; simp at h; omega
                  have hse := HSE.out.1.below hb52
                  rw [hse.at_ hene] at y0
                  have le := hse.lt hene
                  obtain ⟨-, -, ei, -, -⟩ := hse.cells i6 _ (ent_get (by rw [HEL.out.1]; exact hiN))
                  obtain ⟨-, -, ek, -, -⟩ := hse.cells k _ (ent_get (by rw [HEL.out.1]; omega))
                  have hki1 := HSE.out.2.2 i6 hiN
                  have hkk1 := HSE.out.2.2 k (by omega)
                  have hKeys := fun (h : (EN.getD i6 ⟨0, 0, 0, 0, 0⟩).k ≠ (EN.getD k ⟨0, 0, 0, 0, 0⟩).k) => read_keys (p := (i6, k)) (by rw [HEL.out.1]; omega) (by rw [HEL.out.1]; exact hiN) hki h (fun p hp => (HCEN.out.sm p hp).1) hr1
                  have hSame := fun (h : ofF of i6 = ofF of k) => ((HTR.out.1.same (p := (i6, k)) (by simp only; omega) (by simp only; omega) h).cons hr1 (by rw [← HPP.out]; exact HTR.out.2.1) (by rw [← HPP.out]; exact HTR.out.2.2)).1
                  have hApart := fun (h : ofF of i6 ≠ ofF of k) => ((HTR.out.1.apart (p := (i6, k)) (by simp only; omega) (by simp only; omega) h).cons hr2 (by rw [← HPP.out]; exact HTR.out.2.1) (by rw [← HPP.out]; exact HTR.out.2.2)).1
                  obtain ⟨ki, hki2⟩ : ∃ z, z = (EN.getD i6 ⟨0, 0, 0, 0, 0⟩).k := ⟨_, rfl⟩
                  obtain ⟨kk, hkk2⟩ : ∃ z, z = (EN.getD k ⟨0, 0, 0, 0, 0⟩).k := ⟨_, rfl⟩
                  rw [← hki2] at ei hki1 hKeys
                  rw [← hkk2] at ek hkk1 hKeys
                  obtain ⟨zi, hzi⟩ : ∃ z, z = ofF of i6 := ⟨_, rfl⟩
                  obtain ⟨zk, hzk⟩ : ∃ z, z = ofF of k := ⟨_, rfl⟩
                  rw [← hzi] at ci hki1 hSame hApart
                  rw [← hzk] at ck hkk1 hSame hApart
                  have q0 : (0 : Int) ≤ (i6 : Int) := by omega
                  have q1 : (0 : Int) ≤ (k : Int) := by omega
                  have q2 : (k : Int) < (N : Int) := by omega
                  have HB52 := Lib.hid hb52
                  have hcon : ∀ L : Nat, L = 1024 → consB om nu m1 L = false := fun L h => by rw [h]; unfold consB; simp
                  obtain ⟨c1, hc1⟩ : ∃ b, b = consB om nu m1 L1 := ⟨_, rfl⟩
                  obtain ⟨c2, hc2⟩ : ∃ b, b = consB om nu m2 L2 := ⟨_, rfl⟩
                  rw [← hc1] at hSame ⊢
                  rw [← hc2] at hApart ⊢
                  have hfalse := fun (h : ki ≠ kk) => hc1.trans (hcon _ (hKeys h))
                  clear hKeys hcon hc1 hc2 hr1 hr2 hki2 hkk2 hzi hzk hse hso hb52 hb bc hone hene hofl
                  by_cases he : zi = zk
                  · have t1 : ((zi : Int) == (zk : Int)) = true := by rw [he]; simp
                    have t2 : ((zi : Int) != (zk : Int)) = false := by rw [he]; simp
                    have hkq : ki = kk := by rw [hki1, hkk1, he]
                    have t3 : ((ki : Int) != (kk : Int)) = false := by rw [hkq]; simp
                    have hc := hSame he
                    subst hc
                    generalize (!c2) = b2
                    clear hkq he
                    clear hSame hApart hfalse hki1 hkk1
                    go_wp2_with fail
                    go_quiet (fail)
                    go_wp2_with fail
                    go_roundw
                    case rel => exact ⟨k + 1, by omega, by go_num, Lib.hid (HB52.out.drewN' _)⟩
                    case measure => simp [intOf]; omega
                  · have t1 : ((zi : Int) == (zk : Int)) = false := by simp; omega
                    have t2 : ((zi : Int) != (zk : Int)) = true := by simp; omega
                    have hc := hApart he
                    subst hc
                    rw [Bool.not_true]
                    by_cases hkq : ki = kk
                    · have t3 : ((ki : Int) != (kk : Int)) = false := by rw [hkq]; simp
                      clear hkq he
                      clear hSame hApart hfalse hki1 hkk1
                      go_wp2_with fail
                      go_quiet (fail)
                      go_wp2_with fail
                      go_roundw
                      case rel => exact ⟨k + 1, by omega, by go_num, Lib.hid (HB52.out.drewN' _)⟩
                      case measure => simp [intOf]; omega
                    · have t3 : ((ki : Int) != (kk : Int)) = true := by simp; omega
                      have hc := hfalse hkq
                      subst hc
                      clear hkq he
                      clear hSame hApart hfalse hki1 hkk1
                      go_wp2_with fail
                      go_quiet (fail)
                      go_wp2_with fail
                      go_roundw
                      case rel => exact ⟨k + 1, by omega, by go_num, Lib.hid (HB52.out.drewN' _)⟩
                      case measure => simp [intOf]; omega
                · have p3 : ¬ (k : Int) < (i6 : Int) := by omega
                  go_wp2_with fail
                  go_roundw
                  case rel => exact ⟨i6 + 1, by omega, by go_num, F⟩
                  case measure => simp [intOf]; omega
            · have p2 : ¬ (i6 : Int) < (N : Int) := by omega
              have bc := BC.out.b H.out
              obtain ⟨y0, y1, y2, y3, y4, y5, y6⟩ := bc.c7
              have cl := bc.lt
              clear bc
              go_wp2_with fail
              have hS : KS wr [] wr.drew := ⟨fun x hx => (by cases hx), (Below.refl _ _).drew⟩
              have K0 : ∀ W, KS wr [] W → W.cell? ⟨w5.heap.size, 0, none⟩ = some (.slice e1.a N e1.c) := fun W h => (h.bel.cell (p := ⟨w5.heap.size, 0, none⟩) cl).trans y0
              have K1 : ∀ W, KS wr [] W → W.cell? ⟨w5.heap.size, 1, none⟩ = some (.slice s1.a sm.length s1.c) := fun W h => (h.bel.cell (p := ⟨w5.heap.size, 1, none⟩) cl).trans y1
              have K2 : ∀ W, KS wr [] W → W.cell? ⟨w5.heap.size, 2, none⟩ = some (.slice a1.a ap.length a1.c) := fun W h => (h.bel.cell (p := ⟨w5.heap.size, 2, none⟩) cl).trans y2
              have K3 : ∀ W, KS wr [] W → W.cell? ⟨w5.heap.size, 3, none⟩ = some (.int .i64 (om.1 : Int)) := fun W h => (h.bel.cell (p := ⟨w5.heap.size, 3, none⟩) cl).trans y3
              have K4 : ∀ W, KS wr [] W → W.cell? ⟨w5.heap.size, 4, none⟩ = some (.int .i64 (om.2 : Int)) := fun W h => (h.bel.cell (p := ⟨w5.heap.size, 4, none⟩) cl).trans y4
              have K5 : ∀ W, KS wr [] W → W.cell? ⟨w5.heap.size, 5, none⟩ = some (.int .i64 (nu.1 : Int)) := fun W h => (h.bel.cell (p := ⟨w5.heap.size, 5, none⟩) cl).trans y5
              have K6 : ∀ W, KS wr [] W → W.cell? ⟨w5.heap.size, 6, none⟩ = some (.int .i64 (nu.2 : Int)) := fun W h => (h.bel.cell (p := ⟨w5.heap.size, 6, none⟩) cl).trans y6
              clear y0 y1 y2 y3 y4 y5 y6
              refine wp_region_held_drew (S := KS wr []) (by kernel_rfl) hS (fun hHeld => ?_)
              clear hS
              refine wpAnyH_take (i := 0) (v := ?_) rfl (by kernel_rfl) (by kernel_rfl) (by kernel_rfl) (fun _ _ _ h => h) (Or.inl ⟨by rfl, ?h0⟩) hHeld ?_
              case h0 =>
                intro w' hSw
                (try dsimp only at hSw)
                go_simp
                (try with_reducible rfl)
              (try simp only [Act.put]); (try simp only [List.setIfInBounds_toArray]); (try simp only [List.set_cons_succ]); (try simp only [List.set_cons_zero])
              refine wpAnyH_take (i := 1) (v := ?_) rfl (by kernel_rfl) (by kernel_rfl) (by kernel_rfl) (fun _ _ _ h => h) (Or.inl ⟨by rfl, ?h1⟩) hHeld ?_
              case h1 =>
                intro w' hSw
                (try dsimp only at hSw)
                go_simp
                (try with_reducible rfl)
              (try simp only [Act.put]); (try simp only [List.setIfInBounds_toArray]); (try simp only [List.set_cons_succ]); (try simp only [List.set_cons_zero])
              refine wpAnyH_ready (rs := [2]) (by kernel_rfl) (by simp) ?_
              refine AllReadyH.cons rfl (fun K hK => ?_) (AllReadyH.nil)
              go_simp
              (refine (CG.out _ (H.out.trans (hHeld.bel.mono H.out.size))).mono ?_)
              rintro e9 w61 ⟨v9, rfl, htab, hb⟩
              obtain ⟨va61, vc61, hv9⟩ := tab_form2 htab HEL.out.2.2
              subst hv9
              have HV61 := Lib.hid htab
              clear htab
              have hS2 := hHeld.below hb
              clear hb
              refine hK.out _ _ hS2 (fun hHeld => ?_)
              clear hK K hS2
              (try simp only [Act.put]); (try simp only [List.setIfInBounds_toArray]); (try simp only [List.set_cons_succ]); (try simp only [List.set_cons_zero])
              refine wpAnyH_ready (rs := [3]) (by kernel_rfl) (by simp) ?_
              refine AllReadyH.cons rfl (fun K hK => ?_) (AllReadyH.nil)
              go_simp
              (refine (CI.out _ _ _ _ (H.out.trans (hHeld.bel.mono H.out.size)) HV61.out).mono ?_)
              rintro e9 w62 ⟨rfl, hb⟩
              have hS2 := hHeld.below hb
              clear hb
              refine hK.out _ _ hS2 (fun hHeld => ?_)
              clear hK K hS2
              (try simp only [Act.put]); (try simp only [List.setIfInBounds_toArray]); (try simp only [List.set_cons_succ]); (try simp only [List.set_cons_zero])
              refine wpAnyH_take (i := 4) (v := ?_) rfl (by kernel_rfl) (by kernel_rfl) (by kernel_rfl) (fun _ _ _ h => h) (Or.inl ⟨by rfl, ?h4⟩) hHeld ?_
              case h4 =>
                intro w' hSw
                (try dsimp only at hSw)
                go_simp
                (try with_reducible rfl)
              (try simp only [Act.put]); (try simp only [List.setIfInBounds_toArray]); (try simp only [List.set_cons_succ]); (try simp only [List.set_cons_zero])
              refine wpAnyH_ready (rs := [5]) (by kernel_rfl) (by simp) ?_
              refine AllReadyH.cons rfl (fun K hK => ?_) (AllReadyH.nil)
              go_simp
              (refine (C8.out _ (HB7.out.trans ((H.out.trans (hHeld.bel.mono H.out.size)).mono HB7.out.size))).mono ?_)
              rintro e9 w63 ⟨rfl, hb⟩
              have hS2 := hHeld.below hb
              clear hb
              refine hK.out _ _ hS2 (fun hHeld => ?_)
              clear hK K hS2
              (try simp only [Act.put]); (try simp only [List.setIfInBounds_toArray]); (try simp only [List.set_cons_succ]); (try simp only [List.set_cons_zero])
              refine wpAnyH_take (i := 6) (v := ?_) rfl (by kernel_rfl) (by kernel_rfl) (by kernel_rfl) (fun _ _ _ h => h) (Or.inl ⟨by rfl, ?h6⟩) hHeld ?_
              case h6 =>
                intro w' hSw
                (try dsimp only at hSw)
                go_simp
                (try with_reducible rfl)
              (try simp only [Act.put]); (try simp only [List.setIfInBounds_toArray]); (try simp only [List.set_cons_succ]); (try simp only [List.set_cons_zero])
              refine wpAnyH_ready (rs := [7]) (by kernel_rfl) (by simp) ?_
              refine AllReadyH.cons rfl (fun K hK => ?_) (AllReadyH.nil)
              go_simp
              refine hK.out _ _ hHeld (fun hHeld => ?_)
              clear hK K
              (try simp only [Act.put]); (try simp only [List.setIfInBounds_toArray]); (try simp only [List.set_cons_succ]); (try simp only [List.set_cons_zero])
              refine wpAnyH_done (by kernel_rfl) ?_ _
              have HZ := Lib.hid (HB7.out.trans ((H.out.trans (hHeld.bel.mono H.out.size)).mono HB7.out.size))
              clear hHeld K0 K1 K2 K3 K4 K5 K6
              go_wp2_with fail
              go_ret
              exact ⟨rfl, HZ.out⟩
end Go.Proofs.YtdfebccmjbocjaaGreatDoor
