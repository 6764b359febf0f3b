/- NameCheapest: the walk. NameCheapest: for every input the statement returns true, and each argument reads behind the call as it read before. No condition. -/
import Derived.Test.YtkdflgaahhnigaaGreatC12
import Derived.Test.YtkdflgaahhnigaaGreatC10
import Derived.Test.YtkdflgaahhnigaaGreatC29
import Derived.Test.YtkdflgaahhnigaaGreatC28
import Derived.Test.YtkdflgaahhnigaaGreatC30
import Derived.Test.YtkdflgaahhnigaaGreatC26
import Derived.ProofKit
import Derived.OpenShut
import Derived.ShutString
import Derived.ChangeOld
import Derived.Below
import Derived.Lib.SmallJoins
import Derived.Deep.Slices
set_option linter.unusedVariables false
set_option linter.unusedSimpArgs false
namespace Go.Proofs.YtkdflgaahhnigaaGreat
open Go.RowKit Go.Shelf

/-- the block beside the rules: two lists of steps -/
def KT2 (w : World) (bs : List (Nat × Array Value × TypeId)) (va : Option Addr) (vg q : Nat) (l : List (Int × Int)) (sa : Option Addr) (sg p : Nat) (s : List (Int × Int)) (W : World) : Prop := KS w bs W ∧ StK W va vg 0 q l ∧ StK W sa sg 0 p s
section
variable {w W W' : World} {bs : List (Nat × Array Value × TypeId)} {va sa : Option Addr} {vg q sg p : Nat} {l s : List (Int × Int)}
theorem KT2.below (h : KT2 w bs va vg q l sa sg p s W) (hb : Below W.heap.size W W') : KT2 w bs va vg q l sa sg p s W' := ⟨h.1.below hb, h.2.1.below hb, h.2.2.below hb⟩
theorem KT2.bel (h : KT2 w bs va vg q l sa sg p s W) : Below w.heap.size w W := h.1.bel
theorem KT2.drew (h : KT2 w bs va vg q l sa sg p s W) : KT2 w bs va vg q l sa sg p s W.drew := h.below (Below.refl _ _).drew
end
theorem pv_yes {R : RB} {x y : ByteArray} (h : chkN R [x, y] = 0) {l : List (Int × Int)} {m : Nat} (hc : costsV R x y l = (m : Int)) : pvB R x y l (m : Int) = true := by
  unfold pvB; rw [h, hc]; simp
theorem pv_no {R : RB} {x y : ByteArray} {l : List (Int × Int)} {m : Nat} {k : Int} (hc : costsV R x y l = (m : Int)) (hk : k < (m : Int)) : pvB R x y l k = false := by
  unfold pvB; rw [hc]
  have : decide ((m : Int) ≤ k) = false := decide_eq_false (by omega)
  rw [this]; simp
set_option maxRecDepth 100000 in
set_option maxHeartbeats 8000000 in
theorem NameCheapest_walk (a : Option Addr) (g o c n : Nat) (R : RB) (w : World) (hk : SKn w a g o c n R.cls) (hc : n ≤ c) (x y : ByteArray) (aw : Option Addr) (gw ow cw p : Nat) (wl : List Nat) (hw : U16K w aw gw ow p wl) (hp : p ≤ 9223372036854775807) : Calls Tryz.prog 16 #[rulesV a n c R.soft R.al R.ot R.sk R.ss R.db, .string x, .string y, .slice aw p cw] w fun e w' => e = .returned (.bool true) ∧ Below w.heap.size w w' := by
  have C36 := Lib.hid (fun W b (hW : Below w.heap.size w W) (hb : Blk W b #[.string x, .string y] 9) => ready36 a g o c n R W hk.1 (hk.2.1.below hW) (some ⟨b, 0, none⟩) b 0 2 2 [x, y] rfl (sk2 hb))
  cases hr : readyB R [x, y] with
  | false =>
    rw [hr] at C36
    have s0 := ((KS.start w).new (rulesC a n c R.soft R.al R.ot R.sk R.ss R.db) 24)
    obtain ⟨kb0_0, kb0_1, kb0_2, kb0_3, kb0_4, kb0_5, kb0_6⟩ := (s0.blkAt 0 rfl).c7
    have S0 := Lib.hid s0
    clear s0 hr hk hc hw hp
    go_enter Tryz.func16, Tryz.ntmps16
    go_wp2_with fail
    refine (C36.out _ (w.heap.size + 1) ((S0.out.bel).alloc S0.out.size _) (two_new w _ _ _ _).2.1).mono ?_
    rintro e w1 ⟨rfl, hb⟩
    have S1 := Lib.hid ((S0.out.alloc (.cells #[.string x, .string y] 9)).below hb)
    clear hb
    go_wp2_with (go_at_call 18; (refine (awake_any _).mono ?_); rintro e wA ⟨rfl, hbA⟩; have SA := Lib.hid (S1.out.bel.trans (hbA.mono S1.out.bel.size)); clear hbA)
    go_ret
    exact ⟨rfl, SA.out⟩
  | true =>
    obtain ⟨ht, hn15, hv, _, hl⟩ := ready_parts hr
    have hx := hl x (by simp)
    have hy := hl y (by simp)
    rw [hr] at C36
    have hnn := hk.1
    have C20 := Lib.hid (fun W (hW : Below w.heap.size w W) => Rules20 a g o c n R W (hk.below hW) (by omega))
    have HT := Lib.hid ht
    have HN := Lib.hid hk.1
    have HV := Lib.hid hv
    have hx' : x.size ≤ 1000 := by omega
    have hy' : y.size ≤ 1000 := by omega
    have s0 := ((KS.start w).new (rulesC a n c R.soft R.al R.ot R.sk R.ss R.db) 24)
    obtain ⟨kb0_0, kb0_1, kb0_2, kb0_3, kb0_4, kb0_5, kb0_6⟩ := (s0.blkAt 0 rfl).c7
    have S0 := Lib.hid s0
    obtain ⟨hgd, hny⟩ := chkN_ok hv
    have C24 := Lib.hid (fun W (aq' : Option Addr) (g' o' cq' q' : Nat) (l' : List (Int × Int)) (hW : Below w.heap.size w W) (hs : StK W aq' g' o' q' l') (hq' : q' ≤ 1000) => rCosts45 a g o c n R W hk.1 (hk.2.1.below hW) hgd ht x y hx hy aq' g' o' cq' q' l' hs hq')
    have C47 := Lib.hid (fun W (hW : Below w.heap.size w W) => Aligned47 x y hx hy aw gw ow cw p wl W (hw.below hW) hp)
    have HGD := Lib.hid hgd
    clear s0 hr hk hc ht hn15 hv hl hnn hw hp hgd hny
    go_enter Tryz.func16, Tryz.ntmps16
    go_wp2_with fail
    refine (C36.out _ (w.heap.size + 1) ((S0.out.bel).alloc S0.out.size _) (two_new w _ _ _ _).2.1).mono ?_
    rintro e w1 ⟨rfl, hb⟩
    clear kb0_0 kb0_1 kb0_2 kb0_3 kb0_4 kb0_5 kb0_6
    have s1 := (S0.out.alloc (.cells #[.string x, .string y] 9)).below hb
    obtain ⟨kb0_0, kb0_1, kb0_2, kb0_3, kb0_4, kb0_5, kb0_6⟩ := (s1.blkAt 0 rfl).c7
    have S1 := Lib.hid s1
    clear hb s1
    go_wp2_with fail
    refine (C20.out _ S1.out.bel).mono ?_
    rintro e w2 ⟨a2, g2, c2, rfl, hsk, hle2, hb⟩
    have HK2 := Lib.hid hsk
    clear hsk
    clear kb0_0 kb0_1 kb0_2 kb0_3 kb0_4 kb0_5 kb0_6
    have s2 := S1.out.below hb
    obtain ⟨kb0_0, kb0_1, kb0_2, kb0_3, kb0_4, kb0_5, kb0_6⟩ := (s2.blkAt 0 rfl).c7
    have S2 := Lib.hid s2
    clear hb s2
    go_wp2_with fail
    refine (Cost_good a2 g2 0 c2 n R _ HN.out HK2.out hle2 HT.out x y hx' hy' HV.out).mono ?_
    rintro e w3 ⟨rfl, hb⟩
    clear kb0_0 kb0_1 kb0_2 kb0_3 kb0_4 kb0_5 kb0_6
    have s3 := S2.out.below hb
    obtain ⟨kb0_0, kb0_1, kb0_2, kb0_3, kb0_4, kb0_5, kb0_6⟩ := (s3.blkAt 0 rfl).c7
    have S3 := Lib.hid s3
    clear hb s3
    go_wp2_with fail
    refine (C20.out _ S3.out.bel).mono ?_
    rintro e w4 ⟨a4, g4, c4, rfl, hsk, hle4, hb⟩
    have HK4 := Lib.hid hsk
    clear hsk
    clear kb0_0 kb0_1 kb0_2 kb0_3 kb0_4 kb0_5 kb0_6
    have s4 := S3.out.below hb
    obtain ⟨kb0_0, kb0_1, kb0_2, kb0_3, kb0_4, kb0_5, kb0_6⟩ := (s4.blkAt 0 rfl).c7
    have S4 := Lib.hid s4
    clear hb s4
    go_wp2_with fail
    refine (Align_good a4 g4 0 c4 n R _ HN.out HK4.out hle4 HT.out x y hx' hy' HV.out).mono ?_
    rintro e w5 ⟨v5, la, rfl, hown, haln, hb⟩
    have HA := Lib.hid haln
    obtain ⟨va, vg, vc, rfl, hstk⟩ := stk_own122 hown
    have T5 := Lib.hid hstk
    clear haln hown hstk
    clear kb0_0 kb0_1 kb0_2 kb0_3 kb0_4 kb0_5 kb0_6
    have s5 := S4.out.below hb
    obtain ⟨kb0_0, kb0_1, kb0_2, kb0_3, kb0_4, kb0_5, kb0_6⟩ := (s5.blkAt 0 rfl).c7
    have S5 := Lib.hid s5
    clear hb s5
    have hla1000 : la.length ≤ 1000 := by have := (len_way HA.out.1).1; omega
    have HCA := Lib.hid HA.out.1.done
    go_wp2_with fail
    refine (C47.out _ S5.out.bel).mono ?_
    rintro e w6 ⟨v6, sl, rfl, had⟩
    obtain ⟨hown, hall, hsl, hb⟩ := had
    obtain ⟨sa, sg, sc, rfl, hstk⟩ := stk_own124 hown
    have hsl2 : sl.length ≤ 24 := by omega
    have hb2 : Below w5.heap.size w5 w6 := hb
    have U6 := Lib.hid hstk
    have T6 := Lib.hid (T5.out.below hb)
    have HALL := Lib.hid (hall R HGD.out)
    clear T5 hb2 hown hall hstk hsl
    clear kb0_0 kb0_1 kb0_2 kb0_3 kb0_4 kb0_5 kb0_6
    have s6 := S5.out.below hb
    obtain ⟨kb0_0, kb0_1, kb0_2, kb0_3, kb0_4, kb0_5, kb0_6⟩ := (s6.blkAt 0 rfl).c7
    have S6 := Lib.hid s6
    clear hb s6
    go_wp2_with fail
    refine (C24.out _ sa sg 0 sc sl.length sl S6.out.bel U6.out (by omega)).mono ?_
    rintro e w7 ⟨rfl, hb⟩
    have T7 := Lib.hid (T6.out.below hb)
    have U7 := Lib.hid (U6.out.below hb)
    clear T6 U6
    clear kb0_0 kb0_1 kb0_2 kb0_3 kb0_4 kb0_5 kb0_6
    have s7 := S6.out.below hb
    obtain ⟨kb0_0, kb0_1, kb0_2, kb0_3, kb0_4, kb0_5, kb0_6⟩ := (s7.blkAt 0 rfl).c7
    have S7 := Lib.hid s7
    clear hb s7
    obtain ⟨mv, hmv, hws⟩ := HALL.out
    have hcm : costsV R x y sl = (mv : Int) := by rw [WS_end hws, if_neg (by omega)]
    have hge : cR R x y 0 0 ≤ mv := by
      have h := Nm.costsR_ge (sw := SWR R x y) (sa := SAR R x) (sb := SAR R y) (n := x.size) (m := y.size) (l := sl) (by show 0 ≤ costsV R x y sl; rw [hcm]; omega)
      have h2 : (cR R x y 0 0 : Int) ≤ costsV R x y sl := h
      rw [hcm] at h2; omega
    have PY := Lib.hid (pv_yes HV.out hcm)
    obtain ⟨mm, hmm⟩ : ∃ u : Int, u = (mv : Int) - 1 := ⟨_, rfl⟩
    have PN := Lib.hid (pv_no (k := mm) hcm (by omega))
    rw [hcm]
    have ea : (mv : Int) - 1 = mm := hmm.symm
    have eb : IntKind.i64.wrap mm = mm := IntWalk.i64_in _ (by omega)
    have HCM := Lib.hid hcm
    clear hmm hmv hws hcm HALL
    obtain ⟨cv, hcv⟩ : ∃ u, u = cR R x y 0 0 := ⟨_, rfl⟩
    rw [← hcv] at hge HCA ⊢
    have g1 : (cv : Int) ≤ (mv : Int) := by omega
    have g2 : (mv : Int) ≥ (cv : Int) := by omega
    clear hcv
    clear kb0_0 kb0_1 kb0_2 kb0_3 kb0_4 kb0_5 kb0_6
    go_wp2_with fail
    obtain ⟨BS, hBS⟩ : ∃ BS : List (Nat × Array Value × TypeId), BS = [(w.heap.size, rulesC a n c R.soft R.al R.ot R.sk R.ss R.db, 24)] := ⟨_, rfl⟩
    have hS0 : KS w BS w7.drew := by rw [hBS]; exact (S7.out.sub (by simp)).drew
    have K0 : ∀ W, KT2 w BS va vg la.length la sa sg sl.length sl W → W.cell? ⟨w.heap.size, 0, none⟩ = some (.slice a n c) := fun W h => by rw [hBS] at h; exact (h.1.blkAt 0 rfl).cell 0
    have K1 : ∀ W, KT2 w BS va vg la.length la sa sg sl.length sl W → W.cell? ⟨w.heap.size, 1, none⟩ = some (.string R.soft) := fun W h => by rw [hBS] at h; exact (h.1.blkAt 0 rfl).cell 1
    have K2 : ∀ W, KT2 w BS va vg la.length la sa sg sl.length sl W → W.cell? ⟨w.heap.size, 2, none⟩ = some (.int .i64 R.al) := fun W h => by rw [hBS] at h; exact (h.1.blkAt 0 rfl).cell 2
    have K3 : ∀ W, KT2 w BS va vg la.length la sa sg sl.length sl W → W.cell? ⟨w.heap.size, 3, none⟩ = some (.int .i64 R.ot) := fun W h => by rw [hBS] at h; exact (h.1.blkAt 0 rfl).cell 3
    have K4 : ∀ W, KT2 w BS va vg la.length la sa sg sl.length sl W → W.cell? ⟨w.heap.size, 4, none⟩ = some (.int .i64 R.sk) := fun W h => by rw [hBS] at h; exact (h.1.blkAt 0 rfl).cell 4
    have K5 : ∀ W, KT2 w BS va vg la.length la sa sg sl.length sl W → W.cell? ⟨w.heap.size, 5, none⟩ = some (.int .i64 R.ss) := fun W h => by rw [hBS] at h; exact (h.1.blkAt 0 rfl).cell 5
    have K6 : ∀ W, KT2 w BS va vg la.length la sa sg sl.length sl W → W.cell? ⟨w.heap.size, 6, none⟩ = some (.int .i64 R.db) := fun W h => by rw [hBS] at h; exact (h.1.blkAt 0 rfl).cell 6
    have HBS := Lib.hid hBS
    clear hBS
    have hS : KT2 w BS va vg la.length la sa sg sl.length sl w7.drew := ⟨hS0, T7.out.below (Below.refl _ _).drew, U7.out.below (Below.refl _ _).drew⟩
    clear hS0
    refine wp_region_held_drew (S := KT2 w BS va vg la.length la sa sg sl.length sl) (by kernel_rfl) hS (fun hHeld => ?_)
    clear hS
    refine wpAnyH_take (i := 0) (v := ?_) rfl (by kernel_rfl) (by kernel_rfl) (by kernel_rfl) (fun _ _ _ h => h) (Or.inl ⟨by rfl, ?h0⟩) hHeld ?_
    case h0 =>
      intro w' hSw
      (try dsimp only at hSw)
      go_simp
      (try with_reducible rfl)
    (try simp only [Act.put]); (try simp only [List.setIfInBounds_toArray]); (try simp only [List.set_cons_succ]); (try simp only [List.set_cons_zero])
    refine wpAnyH_take (i := 1) (v := ?_) rfl (by kernel_rfl) (by kernel_rfl) (by kernel_rfl) (fun _ _ _ h => h) (Or.inl ⟨by rfl, ?h1⟩) hHeld ?_
    case h1 =>
      intro w' hSw
      (try dsimp only at hSw)
      go_simp
      (try with_reducible rfl)
    (try simp only [Act.put]); (try simp only [List.setIfInBounds_toArray]); (try simp only [List.set_cons_succ]); (try simp only [List.set_cons_zero])
    refine wpAnyH_take (i := 2) (v := ?_) rfl (by kernel_rfl) (by kernel_rfl) (by kernel_rfl) (fun _ _ _ h => h) (Or.inl ⟨by rfl, ?h2⟩) hHeld ?_
    case h2 =>
      intro w' hSw
      (try dsimp only at hSw)
      go_simp
      (try with_reducible rfl)
    (try simp only [Act.put]); (try simp only [List.setIfInBounds_toArray]); (try simp only [List.set_cons_succ]); (try simp only [List.set_cons_zero])
    refine wpAnyH_take (i := 3) (v := ?_) rfl (by kernel_rfl) (by kernel_rfl) (by kernel_rfl) (fun _ _ _ h => h) (Or.inl ⟨by kernel_rfl, ?h3⟩) hHeld ?_
    case h3 =>
      intro w' hSw
      (try dsimp only at hSw)
      go_simp
      (try with_reducible rfl)
    (try simp only [Act.put]); (try simp only [List.setIfInBounds_toArray]); (try simp only [List.set_cons_succ]); (try simp only [List.set_cons_zero])
    refine wpAnyH_take (i := 4) (v := ?_) rfl (by kernel_rfl) (by kernel_rfl) (by kernel_rfl) (fun _ _ _ h => h) (Or.inl ⟨by kernel_rfl, ?h4⟩) hHeld ?_
    case h4 =>
      intro w' hSw
      (try dsimp only at hSw)
      go_simp
      (try with_reducible rfl)
    (try simp only [Act.put]); (try simp only [List.setIfInBounds_toArray]); (try simp only [List.set_cons_succ]); (try simp only [List.set_cons_zero])
    refine wpAnyH_take (i := 5) (v := ?_) rfl (by kernel_rfl) (by kernel_rfl) (by kernel_rfl) (fun _ _ _ h => h) (Or.inl ⟨by rfl, ?h5⟩) hHeld ?_
    case h5 =>
      intro w' hSw
      (try dsimp only at hSw)
      go_simp
      (try with_reducible rfl)
    (try simp only [Act.put]); (try simp only [List.setIfInBounds_toArray]); (try simp only [List.set_cons_succ]); (try simp only [List.set_cons_zero])
    refine wpAnyH_take (i := 6) (v := ?_) rfl (by kernel_rfl) (by kernel_rfl) (by kernel_rfl) (fun _ _ _ h => h) (Or.inl ⟨by rfl, ?h6⟩) hHeld ?_
    case h6 =>
      intro w' hSw
      (try dsimp only at hSw)
      go_simp
      (try with_reducible rfl)
    (try simp only [Act.put]); (try simp only [List.setIfInBounds_toArray]); (try simp only [List.set_cons_succ]); (try simp only [List.set_cons_zero])
    refine wpAnyH_take (i := 7) (v := ?_) rfl (by kernel_rfl) (by kernel_rfl) (by kernel_rfl) (fun _ _ _ h => h) (Or.inl ⟨by kernel_rfl, ?h7⟩) hHeld ?_
    case h7 =>
      intro w' hSw
      (try dsimp only at hSw)
      go_simp
      (try with_reducible rfl)
    (try simp only [Act.put]); (try simp only [List.setIfInBounds_toArray]); (try simp only [List.set_cons_succ]); (try simp only [List.set_cons_zero])
    refine wpAnyH_take (i := 8) (v := ?_) rfl (by kernel_rfl) (by kernel_rfl) (by kernel_rfl) (fun _ _ _ h => h) (Or.inl ⟨by kernel_rfl, ?h8⟩) hHeld ?_
    case h8 =>
      intro w' hSw
      (try dsimp only at hSw)
      go_simp
      (try with_reducible rfl)
    (try simp only [Act.put]); (try simp only [List.setIfInBounds_toArray]); (try simp only [List.set_cons_succ]); (try simp only [List.set_cons_zero])
    refine wpAnyH_take (i := 9) (v := ?_) rfl (by kernel_rfl) (by kernel_rfl) (by kernel_rfl) (fun _ _ _ h => h) (Or.inl ⟨by kernel_rfl, ?h9⟩) hHeld ?_
    case h9 =>
      intro w' hSw
      (try dsimp only at hSw)
      go_simp
      (try with_reducible rfl)
    (try simp only [Act.put]); (try simp only [List.setIfInBounds_toArray]); (try simp only [List.set_cons_succ]); (try simp only [List.set_cons_zero])
    refine wpAnyH_take (i := 10) (v := ?_) rfl (by kernel_rfl) (by kernel_rfl) (by kernel_rfl) (fun _ _ _ h => h) (Or.inl ⟨by kernel_rfl, ?h10⟩) hHeld ?_
    case h10 =>
      intro w' hSw
      (try dsimp only at hSw)
      go_simp
      (try with_reducible rfl)
    (try simp only [Act.put]); (try simp only [List.setIfInBounds_toArray]); (try simp only [List.set_cons_succ]); (try simp only [List.set_cons_zero])
    refine wpAnyH_take (i := 13) (v := ?_) rfl (by kernel_rfl) (by kernel_rfl) (by kernel_rfl) (fun _ _ _ h => h) (Or.inl ⟨by kernel_rfl, ?h13⟩) hHeld ?_
    case h13 =>
      intro w' hSw
      (try dsimp only at hSw)
      go_simp
      (try with_reducible rfl)
    (try simp only [Act.put]); (try simp only [List.setIfInBounds_toArray]); (try simp only [List.set_cons_succ]); (try simp only [List.set_cons_zero])
    refine wpAnyH_ready (rs := [11]) (by kernel_rfl) (by simp) ?_
    refine AllReadyH.cons rfl (fun K hK => ?_) (AllReadyH.nil)
    go_simp
    (refine (Back46 va vg 0 _ la.length la _ hHeld.2.1 hla1000).mono ?_)
    rintro e w30 ⟨v30, rfl, hown, hb⟩
    obtain ⟨ba, bg, bc, rfl, hstk⟩ := stk_own124 hown
    have B30 := Lib.hid hstk
    clear hown hstk
    have hS2 := hHeld.below hb
    clear hb
    refine hK.out _ _ hS2 (fun hHeld => ?_)
    clear hK K hS2
    (try simp only [Act.put]); (try simp only [List.setIfInBounds_toArray]); (try simp only [List.set_cons_succ]); (try simp only [List.set_cons_zero])
    refine wpAnyH_ready (rs := [12]) (by kernel_rfl) (by simp) ?_
    refine AllReadyH.cons rfl (fun K hK => ?_) (AllReadyH.nil)
    go_simp
    (refine (C24.out _ ba bg 0 bc la.length la hHeld.bel B30.out hla1000).mono ?_)
    rintro e w31 ⟨rfl, hb⟩
    rw [HCA.out]
    have hS2 := hHeld.below hb
    clear hb
    refine hK.out _ _ hS2 (fun hHeld => ?_)
    clear hK K hS2
    (try simp only [Act.put]); (try simp only [List.setIfInBounds_toArray]); (try simp only [List.set_cons_succ]); (try simp only [List.set_cons_zero])
    refine wpAnyH_take (i := 14) (v := ?_) rfl (by kernel_rfl) (by kernel_rfl) (by kernel_rfl) (fun _ _ _ h => h) (Or.inl ⟨by kernel_rfl, ?h14⟩) hHeld ?_
    case h14 =>
      intro w' hSw
      (try dsimp only at hSw)
      go_simp
      (try with_reducible rfl)
    (try simp only [Act.put]); (try simp only [List.setIfInBounds_toArray]); (try simp only [List.set_cons_succ]); (try simp only [List.set_cons_zero])
    refine wpAnyH_take (i := 15) (v := ?_) rfl (by kernel_rfl) (by kernel_rfl) (by kernel_rfl) (fun _ _ _ h => h) (Or.inl ⟨by rfl, ?h15⟩) hHeld ?_
    case h15 =>
      intro w' hSw
      (try dsimp only at hSw)
      go_simp
      (try with_reducible rfl)
    (try simp only [Act.put]); (try simp only [List.setIfInBounds_toArray]); (try simp only [List.set_cons_succ]); (try simp only [List.set_cons_zero])
    refine wpAnyH_take (i := 16) (v := ?_) rfl (by kernel_rfl) (by kernel_rfl) (by kernel_rfl) (fun _ _ _ h => h) (Or.inl ⟨by rfl, ?h16⟩) hHeld ?_
    case h16 =>
      intro w' hSw
      (try dsimp only at hSw)
      go_simp
      (try with_reducible rfl)
    (try simp only [Act.put]); (try simp only [List.setIfInBounds_toArray]); (try simp only [List.set_cons_succ]); (try simp only [List.set_cons_zero])
    refine wpAnyH_take (i := 17) (v := ?_) rfl (by kernel_rfl) (by kernel_rfl) (by kernel_rfl) (fun _ _ _ h => h) (Or.inl ⟨by kernel_rfl, ?h17⟩) hHeld ?_
    case h17 =>
      intro w' hSw
      (try dsimp only at hSw)
      go_simp
      (try with_reducible rfl)
    (try simp only [Act.put]); (try simp only [List.setIfInBounds_toArray]); (try simp only [List.set_cons_succ]); (try simp only [List.set_cons_zero])
    refine wpAnyH_take (i := 18) (v := ?_) rfl (by kernel_rfl) (by kernel_rfl) (by kernel_rfl) (fun _ _ _ h => h) (Or.inl ⟨by kernel_rfl, ?h18⟩) hHeld ?_
    case h18 =>
      intro w' hSw
      (try dsimp only at hSw)
      go_simp
      (try with_reducible rfl)
    (try simp only [Act.put]); (try simp only [List.setIfInBounds_toArray]); (try simp only [List.set_cons_succ]); (try simp only [List.set_cons_zero])
    refine wpAnyH_take (i := 19) (v := ?_) rfl (by kernel_rfl) (by kernel_rfl) (by kernel_rfl) (fun _ _ _ h => h) (Or.inl ⟨by kernel_rfl, ?h19⟩) hHeld ?_
    case h19 =>
      intro w' hSw
      (try dsimp only at hSw)
      go_simp
      (try with_reducible rfl)
    (try simp only [Act.put]); (try simp only [List.setIfInBounds_toArray]); (try simp only [List.set_cons_succ]); (try simp only [List.set_cons_zero])
    refine wpAnyH_take (i := 20) (v := ?_) rfl (by kernel_rfl) (by kernel_rfl) (by kernel_rfl) (fun _ _ _ h => h) (Or.inl ⟨by rfl, ?h20⟩) hHeld ?_
    case h20 =>
      intro w' hSw
      (try dsimp only at hSw)
      go_simp
      (try with_reducible rfl)
    (try simp only [Act.put]); (try simp only [List.setIfInBounds_toArray]); (try simp only [List.set_cons_succ]); (try simp only [List.set_cons_zero])
    refine wpAnyH_take (i := 21) (v := ?_) rfl (by kernel_rfl) (by kernel_rfl) (by kernel_rfl) (fun _ _ _ h => h) (Or.inl ⟨by rfl, ?h21⟩) hHeld ?_
    case h21 =>
      intro w' hSw
      (try dsimp only at hSw)
      go_simp
      (try with_reducible rfl)
    (try simp only [Act.put]); (try simp only [List.setIfInBounds_toArray]); (try simp only [List.set_cons_succ]); (try simp only [List.set_cons_zero])
    refine wpAnyH_take (i := 22) (v := ?_) rfl (by kernel_rfl) (by kernel_rfl) (by kernel_rfl) (fun _ _ _ h => h) (Or.inl ⟨by kernel_rfl, ?h22⟩) hHeld ?_
    case h22 =>
      intro w' hSw
      (try dsimp only at hSw)
      go_simp
      (try with_reducible rfl)
    (try simp only [Act.put]); (try simp only [List.setIfInBounds_toArray]); (try simp only [List.set_cons_succ]); (try simp only [List.set_cons_zero])
    refine wpAnyH_take (i := 24) (v := ?_) rfl (by kernel_rfl) (by kernel_rfl) (by kernel_rfl) (fun _ _ _ h => h) (Or.inl ⟨by kernel_rfl, ?h24⟩) hHeld ?_
    case h24 =>
      intro w' hSw
      (try dsimp only at hSw)
      go_simp
      (try with_reducible rfl)
    (try simp only [Act.put]); (try simp only [List.setIfInBounds_toArray]); (try simp only [List.set_cons_succ]); (try simp only [List.set_cons_zero])
    refine wpAnyH_take (i := 25) (v := ?_) rfl (by kernel_rfl) (by kernel_rfl) (by kernel_rfl) (fun _ _ _ h => h) (Or.inl ⟨by kernel_rfl, ?h25⟩) hHeld ?_
    case h25 =>
      intro w' hSw
      (try dsimp only at hSw)
      go_simp
      (try with_reducible rfl)
    (try simp only [Act.put]); (try simp only [List.setIfInBounds_toArray]); (try simp only [List.set_cons_succ]); (try simp only [List.set_cons_zero])
    refine wpAnyH_take (i := 26) (v := ?_) rfl (by kernel_rfl) (by kernel_rfl) (by kernel_rfl) (fun _ _ _ h => h) (Or.inl ⟨by kernel_rfl, ?h26⟩) hHeld ?_
    case h26 =>
      intro w' hSw
      (try dsimp only at hSw)
      go_simp
      (try with_reducible rfl)
    (try simp only [Act.put]); (try simp only [List.setIfInBounds_toArray]); (try simp only [List.set_cons_succ]); (try simp only [List.set_cons_zero])
    refine wpAnyH_take (i := 28) (v := ?_) rfl (by kernel_rfl) (by kernel_rfl) (by kernel_rfl) (fun _ _ _ h => h) (Or.inl ⟨by kernel_rfl, ?h28⟩) hHeld ?_
    case h28 =>
      intro w' hSw
      (try dsimp only at hSw)
      go_simp
      (try with_reducible rfl)
    (try simp only [Act.put]); (try simp only [List.setIfInBounds_toArray]); (try simp only [List.set_cons_succ]); (try simp only [List.set_cons_zero])
    refine wpAnyH_ready (rs := [23]) (by kernel_rfl) (by simp) ?_
    refine AllReadyH.cons rfl (fun K hK => ?_) (AllReadyH.nil)
    go_simp
    (refine (C20.out _ hHeld.bel).mono ?_)
    rintro e w63 ⟨a63, g63, c63, rfl, hsk, hle63, hb⟩
    have HK63 := Lib.hid hsk
    clear hsk
    have hS2 := hHeld.below hb
    clear hb
    refine hK.out _ _ hS2 (fun hHeld => ?_)
    clear hK K hS2
    (try simp only [Act.put]); (try simp only [List.setIfInBounds_toArray]); (try simp only [List.set_cons_succ]); (try simp only [List.set_cons_zero])
    refine wpAnyH_ready (rs := [27]) (by kernel_rfl) (by simp) ?_
    refine AllReadyH.cons rfl (fun K hK => ?_) (AllReadyH.nil)
    go_simp
    (refine (Steps44 sa sg 0 _ sl.length sl _ hHeld.2.2 (by omega)).mono ?_)
    rintro e w113 ⟨v113, rfl, hown, hb⟩
    obtain ⟨pa, pg, pc, rfl, hstk⟩ := stk_own122 hown
    have P63 := Lib.hid hstk
    have HK263 := Lib.hid (HK63.out.below hb)
    clear hown hstk
    have hS2 := hHeld.below hb
    clear hb
    refine hK.out _ _ hS2 (fun hHeld => ?_)
    clear hK K hS2
    (try simp only [Act.put]); (try simp only [List.setIfInBounds_toArray]); (try simp only [List.set_cons_succ]); (try simp only [List.set_cons_zero])
    refine wpAnyH_ready (rs := [29]) (by kernel_rfl) (by simp) ?_
    refine AllReadyH.cons rfl (fun K hK => ?_) (AllReadyH.nil)
    go_simp
    (refine (ProveAlign_good a63 g63 0 c63 n R _ HN.out HK263.out hle63 HT.out x y hx' hy' pa pg 0 pc sl.length sl P63.out (by omega) (mv : Int) HV.out).mono ?_)
    rintro e w363 ⟨rfl, hb⟩
    rw [PY.out]
    have hS2 := hHeld.below hb
    clear hb
    refine hK.out _ _ hS2 (fun hHeld => ?_)
    clear hK K hS2
    (try simp only [Act.put]); (try simp only [List.setIfInBounds_toArray]); (try simp only [List.set_cons_succ]); (try simp only [List.set_cons_zero])
    refine wpAnyH_take (i := 30) (v := ?_) rfl (by kernel_rfl) (by kernel_rfl) (by kernel_rfl) (fun _ _ _ h => h) (Or.inl ⟨by rfl, ?h30⟩) hHeld ?_
    case h30 =>
      intro w' hSw
      (try dsimp only at hSw)
      go_simp
      (try with_reducible rfl)
    (try simp only [Act.put]); (try simp only [List.setIfInBounds_toArray]); (try simp only [List.set_cons_succ]); (try simp only [List.set_cons_zero])
    refine wpAnyH_take (i := 31) (v := ?_) rfl (by kernel_rfl) (by kernel_rfl) (by kernel_rfl) (fun _ _ _ h => h) (Or.inl ⟨by rfl, ?h31⟩) hHeld ?_
    case h31 =>
      intro w' hSw
      (try dsimp only at hSw)
      go_simp
      (try with_reducible rfl)
    (try simp only [Act.put]); (try simp only [List.setIfInBounds_toArray]); (try simp only [List.set_cons_succ]); (try simp only [List.set_cons_zero])
    refine wpAnyH_take (i := 32) (v := ?_) rfl (by kernel_rfl) (by kernel_rfl) (by kernel_rfl) (fun _ _ _ h => h) (Or.inl ⟨by kernel_rfl, ?h32⟩) hHeld ?_
    case h32 =>
      intro w' hSw
      (try dsimp only at hSw)
      go_simp
      (try with_reducible rfl)
    (try simp only [Act.put]); (try simp only [List.setIfInBounds_toArray]); (try simp only [List.set_cons_succ]); (try simp only [List.set_cons_zero])
    refine wpAnyH_take (i := 34) (v := ?_) rfl (by kernel_rfl) (by kernel_rfl) (by kernel_rfl) (fun _ _ _ h => h) (Or.inl ⟨by kernel_rfl, ?h34⟩) hHeld ?_
    case h34 =>
      intro w' hSw
      (try dsimp only at hSw)
      go_simp
      (try with_reducible rfl)
    (try simp only [Act.put]); (try simp only [List.setIfInBounds_toArray]); (try simp only [List.set_cons_succ]); (try simp only [List.set_cons_zero])
    refine wpAnyH_take (i := 35) (v := ?_) rfl (by kernel_rfl) (by kernel_rfl) (by kernel_rfl) (fun _ _ _ h => h) (Or.inl ⟨by kernel_rfl, ?h35⟩) hHeld ?_
    case h35 =>
      intro w' hSw
      (try dsimp only at hSw)
      go_simp
      (try with_reducible rfl)
    (try simp only [Act.put]); (try simp only [List.setIfInBounds_toArray]); (try simp only [List.set_cons_succ]); (try simp only [List.set_cons_zero])
    refine wpAnyH_take (i := 36) (v := ?_) rfl (by kernel_rfl) (by kernel_rfl) (by kernel_rfl) (fun _ _ _ h => h) (Or.inl ⟨by kernel_rfl, ?h36⟩) hHeld ?_
    case h36 =>
      intro w' hSw
      (try dsimp only at hSw)
      go_simp
      (try with_reducible rfl)
    (try simp only [Act.put]); (try simp only [List.setIfInBounds_toArray]); (try simp only [List.set_cons_succ]); (try simp only [List.set_cons_zero])
    refine wpAnyH_take (i := 38) (v := ?_) rfl (by kernel_rfl) (by kernel_rfl) (by kernel_rfl) (fun _ _ _ h => h) (Or.inl ⟨by kernel_rfl, ?h38⟩) hHeld ?_
    case h38 =>
      intro w' hSw
      (try dsimp only at hSw)
      go_simp
      (try with_reducible rfl)
    (try simp only [Act.put]); (try simp only [List.setIfInBounds_toArray]); (try simp only [List.set_cons_succ]); (try simp only [List.set_cons_zero])
    refine wpAnyH_take (i := 39) (v := ?_) rfl (by kernel_rfl) (by kernel_rfl) (by kernel_rfl) (fun _ _ _ h => h) (Or.inl ⟨by kernel_rfl, ?h39⟩) hHeld ?_
    case h39 =>
      intro w' hSw
      (try dsimp only at hSw)
      go_simp
      (try with_reducible rfl)
    (try simp only [Act.put]); (try simp only [List.setIfInBounds_toArray]); (try simp only [List.set_cons_succ]); (try simp only [List.set_cons_zero])
    refine wpAnyH_ready (rs := [33]) (by kernel_rfl) (by simp) ?_
    refine AllReadyH.cons rfl (fun K hK => ?_) (AllReadyH.nil)
    go_simp
    (refine (C20.out _ hHeld.bel).mono ?_)
    rintro e w73 ⟨a73, g73, c73, rfl, hsk, hle73, hb⟩
    have HK73 := Lib.hid hsk
    clear hsk
    have hS2 := hHeld.below hb
    clear hb
    refine hK.out _ _ hS2 (fun hHeld => ?_)
    clear hK K hS2
    (try simp only [Act.put]); (try simp only [List.setIfInBounds_toArray]); (try simp only [List.set_cons_succ]); (try simp only [List.set_cons_zero])
    refine wpAnyH_ready (rs := [37]) (by kernel_rfl) (by simp) ?_
    refine AllReadyH.cons rfl (fun K hK => ?_) (AllReadyH.nil)
    go_simp
    (refine (Steps44 sa sg 0 _ sl.length sl _ hHeld.2.2 (by omega)).mono ?_)
    rintro e w123 ⟨v123, rfl, hown, hb⟩
    obtain ⟨pa, pg, pc, rfl, hstk⟩ := stk_own122 hown
    have P73 := Lib.hid hstk
    have HK273 := Lib.hid (HK73.out.below hb)
    clear hown hstk
    have hS2 := hHeld.below hb
    clear hb
    refine hK.out _ _ hS2 (fun hHeld => ?_)
    clear hK K hS2
    (try simp only [Act.put]); (try simp only [List.setIfInBounds_toArray]); (try simp only [List.set_cons_succ]); (try simp only [List.set_cons_zero])
    refine wpAnyH_ready (rs := [40]) (by kernel_rfl) (by simp) ?_
    refine AllReadyH.cons rfl (fun K hK => ?_) (AllReadyH.nil)
    go_simp
    (refine (ProveAlign_good a73 g73 0 c73 n R _ HN.out HK273.out hle73 HT.out x y hx' hy' pa pg 0 pc sl.length sl P73.out (by omega) mm HV.out).mono ?_)
    rintro e w373 ⟨rfl, hb⟩
    rw [PN.out]
    have hS2 := hHeld.below hb
    clear hb
    refine hK.out _ _ hS2 (fun hHeld => ?_)
    clear hK K hS2
    (try simp only [Act.put]); (try simp only [List.setIfInBounds_toArray]); (try simp only [List.set_cons_succ]); (try simp only [List.set_cons_zero])
    refine wpAnyH_take (i := 41) (v := ?_) rfl (by kernel_rfl) (by kernel_rfl) (by kernel_rfl) (fun _ _ _ h => h) (Or.inl ⟨by kernel_rfl, ?h41⟩) hHeld ?_
    case h41 =>
      intro w' hSw
      (try dsimp only at hSw)
      go_simp
      (try with_reducible rfl)
    (try simp only [Act.put]); (try simp only [List.setIfInBounds_toArray]); (try simp only [List.set_cons_succ]); (try simp only [List.set_cons_zero])
    refine wpAnyH_take (i := 42) (v := ?_) rfl (by kernel_rfl) (by kernel_rfl) (by kernel_rfl) (fun _ _ _ h => h) (Or.inl ⟨by rfl, ?h42⟩) hHeld ?_
    case h42 =>
      intro w' hSw
      (try dsimp only at hSw)
      go_simp
      (try with_reducible rfl)
    (try simp only [Act.put]); (try simp only [List.setIfInBounds_toArray]); (try simp only [List.set_cons_succ]); (try simp only [List.set_cons_zero])
    refine wpAnyH_take (i := 43) (v := ?_) rfl (by kernel_rfl) (by kernel_rfl) (by kernel_rfl) (fun _ _ _ h => h) (Or.inl ⟨by rfl, ?h43⟩) hHeld ?_
    case h43 =>
      intro w' hSw
      (try dsimp only at hSw)
      go_simp
      (try with_reducible rfl)
    (try simp only [Act.put]); (try simp only [List.setIfInBounds_toArray]); (try simp only [List.set_cons_succ]); (try simp only [List.set_cons_zero])
    refine wpAnyH_ready (rs := [44]) (by kernel_rfl) (by simp) ?_
    refine AllReadyH.cons rfl (fun K hK => ?_) (AllReadyH.nil)
    go_simp
    (refine (awake_any _).mono ?_)
    rintro e wA ⟨rfl, hb⟩
    have hS2 := hHeld.below hb
    clear hb
    refine hK.out _ _ hS2 (fun hHeld => ?_)
    clear hK K hS2
    (try simp only [Act.put]); (try simp only [List.setIfInBounds_toArray]); (try simp only [List.set_cons_succ]); (try simp only [List.set_cons_zero])
    refine wpAnyH_take (i := 45) (v := ?_) rfl (by kernel_rfl) (by kernel_rfl) (by kernel_rfl) (fun _ _ _ h => h) (Or.inl ⟨by rfl, ?h45⟩) hHeld ?_
    case h45 =>
      intro w' hSw
      (try dsimp only at hSw)
      go_simp
      (try with_reducible rfl)
    (try simp only [Act.put]); (try simp only [List.setIfInBounds_toArray]); (try simp only [List.set_cons_succ]); (try simp only [List.set_cons_zero])
    refine wpAnyH_ready (rs := [46]) (by kernel_rfl) (by simp) ?_
    refine AllReadyH.cons rfl (fun K hK => ?_) (AllReadyH.nil)
    go_simp
    refine hK.out _ _ hHeld (fun hHeld => ?_)
    clear hK K
    (try simp only [Act.put]); (try simp only [List.setIfInBounds_toArray]); (try simp only [List.set_cons_succ]); (try simp only [List.set_cons_zero])
    refine wpAnyH_done (by kernel_rfl) ?_ _
    have SA := Lib.hid hHeld.bel
    go_wp2_with fail
    go_ret
    exact ⟨rfl, SA.out⟩
end Go.Proofs.YtkdflgaahhnigaaGreat

namespace Go.Proofs.YtkdflgaahhnigaaGreat.nameCheapest
open Go.ChangeShapes Go.WideShapes Go.ChangeAt Go.RowKit Go.Joins Go.Deep
open Go.ChangeMaps (open_string)

theorem own : ownKnob Tryz.prog.godebug = none := by kernel_rfl
theorem laidOut : laidOutB Tryz.prog = true := by kernel_rfl

set_option maxRecDepth 100000 in
theorem lifted (os : Os) (started : os.Started) (H : Type) (enc : TypeId × Value → H) :
    ReturnsInHanded {} Tryz.checked os 16 .any (Rows.nameCheapestSpec.pre6 enc Tryz.prog Tryz.f16 Rows.nameCheapestRow.domain false) (Rows.nameCheapestSpec.post enc Tryz.prog Tryz.f16 false true false false) := by
  refine returnsInHanded_of_change (C := Tryz.checked) own started (by kernel_rfl) Tryz.func16
    (ChangeSpec.witness6 (enc := enc) (C := Tryz.checked) false ⟨#[], #[.agg #[.slice none 0 0, .string ⟨#[]⟩, .int .i64 0, .int .i64 0, .int .i64 0, .int .i64 0, .int .i64 0], .string ⟨#[]⟩, .string ⟨#[]⟩, .slice none 0 0], []⟩ 8 (by kernel_rfl) (by kernel_rfl) (by kernel_rfl) (by kernel_rfl)) ?_
  intro W base args ds gs before hval0 hW hcnd _
  have hval : ∀ (j : Nat) t v, Tryz.f16.params[j]? = some t → args[j]? = some v → Value.okWide Tryz.prog W .any base t v := hval0
  have hW' := hW
  obtain ⟨p, q, hA0, hV, rfl, hfz, hnd⟩ := hW
  have hA : DataW.TrodAll enc Tryz.prog W 0 (fun _ => true) true Tryz.f16.params.toList args.toList ds p := hA0
  rw [Tryz.params16] at hA hval
  obtain ⟨v0, vs0, d0, ds0, p0, q0, hargs, rfl, rfl, h0, r0⟩ := trodAll_cons hA
  obtain ⟨v1, vs1, d1, ds1, p1, q1, rfl, rfl, rfl, h1, r1⟩ := trodAll_cons r0
  obtain ⟨v2, vs2, d2, ds2, p2, q2, rfl, rfl, rfl, h2, r2⟩ := trodAll_cons r1
  obtain ⟨v3, vs3, d3, ds3, p3, q3, rfl, rfl, rfl, h3, r3⟩ := trodAll_cons r2
  obtain ⟨rfl, rfl, rfl⟩ := trodAll_nil r3
  obtain rfl : args = #[v0, v1, v2, v3] := by cases args; simp_all
  obtain ⟨rfl, rfl⟩ := trodVars_none hV
  have k0 := h0
  have lt0 : ∀ x ∈ p0, x.block < W.heap.size := by obtain ⟨m, hm⟩ := k0; exact DataW.trod_lt m _ _ _ hm
  obtain ⟨a0, n0, c0, g0, o0, R0, rfl, sk0, hc0⟩ := open_rules (hval 0 24 v0 rfl rfl) h0
  have k1 := h1
  have lt1 : ∀ x ∈ p1, x.block < W.heap.size := by obtain ⟨m, hm⟩ := k1; exact DataW.trod_lt m _ _ _ hm
  obtain ⟨s1, rfl, rfl, rfl, w1⟩ := open_string Tryz.underlying9 (hval 1 9 v1 rfl rfl) h1
  have k2 := h2
  have lt2 : ∀ x ∈ p2, x.block < W.heap.size := by obtain ⟨m, hm⟩ := k2; exact DataW.trod_lt m _ _ _ hm
  obtain ⟨s2, rfl, rfl, rfl, w2⟩ := open_string Tryz.underlying9 (hval 2 9 v2 rfl rfl) h2
  have k3 := h3
  have lt3 : ∀ x ∈ p3, x.block < W.heap.size := by obtain ⟨m, hm⟩ := k3; exact DataW.trod_lt m _ _ _ hm
  obtain ⟨a3, n3, c3, rfl⟩ := okWide_slice Tryz.underlying82 (hval 3 82 v3 rfl rfl)
  obtain ⟨g3, o3, l3, sk3, hc3⟩ := row_of_u16s h3
  clear hA0 hval0
  refine (NameCheapest_walk a0 g0 o0 c0 n0 R0 W sk0 hc0 s1 s2 a3 g3 o3 c3 n3 l3 sk3 hc3).mono fun e W' ⟨he, bel⟩ => ?_
  subst he
  exact ⟨_, rfl, _, _, _, [], _, [], hW', trodAll_mk1 (shut_bool Tryz.underlying4 _), (trodAll_cons_mk (Below.trod laidOut (by kernel_rfl) (of_decide_eq_true (by kernel_rfl)) k0 bel lt0) (trodAll_cons_mk (Below.trod laidOut (by kernel_rfl) (of_decide_eq_true (by kernel_rfl)) k1 bel lt1) (trodAll_cons_mk (Below.trod laidOut (by kernel_rfl) (of_decide_eq_true (by kernel_rfl)) k2 bel lt2) (trodAll_cons_mk (Below.trod laidOut (by kernel_rfl) (of_decide_eq_true (by kernel_rfl)) k3 bel lt3) trodAll_mk0)))), rfl, bel.frame _, fun h => by cases h⟩

theorem over : Rows.nameCheapestRow.holds Tryz.pinned (OpenSpec.ofChange Rows.nameCheapestSpec) :=
  OpenClaim.holds_of_wide 16 Tryz.f16 rfl rfl rfl rfl rfl rfl rfl ⟨rfl, rfl, rfl, rfl, rfl⟩ rfl rfl rfl rfl rfl (by kernel_rfl) Tryz.func16 (by kernel_rfl)
    (of_decide_eq_true (by kernel_rfl)) (by unfold Func.isWrapper; first | (rw [if_pos (by decide +kernel)]; kernel_rfl) | (rw [if_neg (by decide +kernel)]; exact ⟨rfl, rfl⟩))
    (fun os started H enc _ => lifted os started H enc)
end Go.Proofs.YtkdflgaahhnigaaGreat.nameCheapest
namespace Go.Proofs.YtkdflgaahhnigaaGreat
/-- THE STATEMENT -/
theorem nameCheapest_holds : Rows.NameCheapestSaid := nameCheapest.over
#print axioms nameCheapest_holds
end Go.Proofs.YtkdflgaahhnigaaGreat
