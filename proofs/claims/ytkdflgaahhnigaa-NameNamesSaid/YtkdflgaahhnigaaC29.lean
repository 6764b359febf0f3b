/- Texts of package name, for this seat. -/
import Derived.Test.YtkdflgaahhnigaaC27
set_option linter.unusedVariables false
set_option linter.unusedSimpArgs false
namespace Go.Proofs.Ytkdflgaahhnigaa
open Go.RowKit Go.Shelf
attribute [local go_sem] Oper.semAt_some

theorem arr57 {tm : Array Value} (h : tm.size = 57) : ∃ v0 v1 v2 v3 v4 v5 v6 v7 v8 v9 v10 v11 v12 v13 v14 v15 v16 v17 v18 v19 v20 v21 v22 v23 v24 v25 v26 v27 v28 v29 v30 v31 v32 v33 v34 v35 v36 v37 v38 v39 v40 v41 v42 v43 v44 v45 v46 v47 v48 v49 v50 v51 v52 v53 v54 v55 v56 : Value, tm = #[v0, v1, v2, v3, v4, v5, v6, v7, v8, v9, v10, v11, v12, v13, v14, v15, v16, v17, v18, v19, v20, v21, v22, v23, v24, v25, v26, v27, v28, v29, v30, v31, v32, v33, v34, v35, v36, v37, v38, v39, v40, v41, v42, v43, v44, v45, v46, v47, v48, v49, v50, v51, v52, v53, v54, v55, v56] := by
  obtain ⟨l⟩ := tm
  have h : l.length = 57 := h
  obtain ⟨v0, l0, e0, h0⟩ := lsplit h
  obtain ⟨v1, l1, e1, h1⟩ := lsplit h0
  obtain ⟨v2, l2, e2, h2⟩ := lsplit h1
  obtain ⟨v3, l3, e3, h3⟩ := lsplit h2
  obtain ⟨v4, l4, e4, h4⟩ := lsplit h3
  obtain ⟨v5, l5, e5, h5⟩ := lsplit h4
  obtain ⟨v6, l6, e6, h6⟩ := lsplit h5
  obtain ⟨v7, l7, e7, h7⟩ := lsplit h6
  obtain ⟨v8, l8, e8, h8⟩ := lsplit h7
  obtain ⟨v9, l9, e9, h9⟩ := lsplit h8
  obtain ⟨v10, l10, e10, h10⟩ := lsplit h9
  obtain ⟨v11, l11, e11, h11⟩ := lsplit h10
  obtain ⟨v12, l12, e12, h12⟩ := lsplit h11
  obtain ⟨v13, l13, e13, h13⟩ := lsplit h12
  obtain ⟨v14, l14, e14, h14⟩ := lsplit h13
  obtain ⟨v15, l15, e15, h15⟩ := lsplit h14
  obtain ⟨v16, l16, e16, h16⟩ := lsplit h15
  obtain ⟨v17, l17, e17, h17⟩ := lsplit h16
  obtain ⟨v18, l18, e18, h18⟩ := lsplit h17
  obtain ⟨v19, l19, e19, h19⟩ := lsplit h18
  obtain ⟨v20, l20, e20, h20⟩ := lsplit h19
  obtain ⟨v21, l21, e21, h21⟩ := lsplit h20
  obtain ⟨v22, l22, e22, h22⟩ := lsplit h21
  obtain ⟨v23, l23, e23, h23⟩ := lsplit h22
  obtain ⟨v24, l24, e24, h24⟩ := lsplit h23
  obtain ⟨v25, l25, e25, h25⟩ := lsplit h24
  obtain ⟨v26, l26, e26, h26⟩ := lsplit h25
  obtain ⟨v27, l27, e27, h27⟩ := lsplit h26
  obtain ⟨v28, l28, e28, h28⟩ := lsplit h27
  obtain ⟨v29, l29, e29, h29⟩ := lsplit h28
  obtain ⟨v30, l30, e30, h30⟩ := lsplit h29
  obtain ⟨v31, l31, e31, h31⟩ := lsplit h30
  obtain ⟨v32, l32, e32, h32⟩ := lsplit h31
  obtain ⟨v33, l33, e33, h33⟩ := lsplit h32
  obtain ⟨v34, l34, e34, h34⟩ := lsplit h33
  obtain ⟨v35, l35, e35, h35⟩ := lsplit h34
  obtain ⟨v36, l36, e36, h36⟩ := lsplit h35
  obtain ⟨v37, l37, e37, h37⟩ := lsplit h36
  obtain ⟨v38, l38, e38, h38⟩ := lsplit h37
  obtain ⟨v39, l39, e39, h39⟩ := lsplit h38
  obtain ⟨v40, l40, e40, h40⟩ := lsplit h39
  obtain ⟨v41, l41, e41, h41⟩ := lsplit h40
  obtain ⟨v42, l42, e42, h42⟩ := lsplit h41
  obtain ⟨v43, l43, e43, h43⟩ := lsplit h42
  obtain ⟨v44, l44, e44, h44⟩ := lsplit h43
  obtain ⟨v45, l45, e45, h45⟩ := lsplit h44
  obtain ⟨v46, l46, e46, h46⟩ := lsplit h45
  obtain ⟨v47, l47, e47, h47⟩ := lsplit h46
  obtain ⟨v48, l48, e48, h48⟩ := lsplit h47
  obtain ⟨v49, l49, e49, h49⟩ := lsplit h48
  obtain ⟨v50, l50, e50, h50⟩ := lsplit h49
  obtain ⟨v51, l51, e51, h51⟩ := lsplit h50
  obtain ⟨v52, l52, e52, h52⟩ := lsplit h51
  obtain ⟨v53, l53, e53, h53⟩ := lsplit h52
  obtain ⟨v54, l54, e54, h54⟩ := lsplit h53
  obtain ⟨v55, l55, e55, h55⟩ := lsplit h54
  obtain ⟨v56, l56, e56, h56⟩ := lsplit h55
  have e := List.eq_nil_of_length_eq_zero h56
  subst e
  subst e56
  subst e55
  subst e54
  subst e53
  subst e52
  subst e51
  subst e50
  subst e49
  subst e48
  subst e47
  subst e46
  subst e45
  subst e44
  subst e43
  subst e42
  subst e41
  subst e40
  subst e39
  subst e38
  subst e37
  subst e36
  subst e35
  subst e34
  subst e33
  subst e32
  subst e31
  subst e30
  subst e29
  subst e28
  subst e27
  subst e26
  subst e25
  subst e24
  subst e23
  subst e22
  subst e21
  subst e20
  subst e19
  subst e18
  subst e17
  subst e16
  subst e15
  subst e14
  subst e13
  subst e12
  subst e11
  subst e10
  subst e9
  subst e8
  subst e7
  subst e6
  subst e5
  subst e4
  subst e3
  subst e2
  subst e1
  subst e0
  exact ⟨v0, v1, v2, v3, v4, v5, v6, v7, v8, v9, v10, v11, v12, v13, v14, v15, v16, v17, v18, v19, v20, v21, v22, v23, v24, v25, v26, v27, v28, v29, v30, v31, v32, v33, v34, v35, v36, v37, v38, v39, v40, v41, v42, v43, v44, v45, v46, v47, v48, v49, v50, v51, v52, v53, v54, v55, v56, rfl⟩

theorem three_newC (w2 : World) (c1 c2 c3 : Array Value) (t1 t2 t3 : TypeId) : Blk (((w2.alloc (.cells c1 t1)).alloc (.cells c2 t2)).alloc (.cells c3 t3)) w2.heap.size c1 t1 ∧ Blk (((w2.alloc (.cells c1 t1)).alloc (.cells c2 t2)).alloc (.cells c3 t3)) (w2.heap.size + 1) c2 t2 ∧ Blk (((w2.alloc (.cells c1 t1)).alloc (.cells c2 t2)).alloc (.cells c3 t3)) (w2.heap.size + 1 + 1) c3 t3 ∧ (((w2.alloc (.cells c1 t1)).alloc (.cells c2 t2)).alloc (.cells c3 t3)).heap.size = w2.heap.size + 3 ∧ Below w2.heap.size w2 (((w2.alloc (.cells c1 t1)).alloc (.cells c2 t2)).alloc (.cells c3 t3)) := by
  have h1 := Blk.new w2 c1 t1
  have h2 := Blk.new (w2.alloc (.cells c1 t1)) c2 t2
  have h3 := Blk.new ((w2.alloc (.cells c1 t1)).alloc (.cells c2 t2)) c3 t3
  rw [World.size_alloc] at h2
  rw [World.size_alloc, World.size_alloc] at h3
  refine ⟨(h1.alloc _).alloc _, h2.alloc _, h3, by simp only [World.size_alloc], ?_⟩
  have b1 := (Below.refl w2.heap.size w2).alloc (Nat.le_refl _) (.cells c1 t1)
  have b2 := b1.alloc b1.size (.cells c2 t2)
  exact b2.alloc b2.size _
theorem three_newP (w2 : World) (c1 c2 : Array Value) (t1 t2 : TypeId) : Blk ((w2.alloc (.cells c1 t1)).alloc (.cells c2 t2)) w2.heap.size c1 t1 ∧ Blk ((w2.alloc (.cells c1 t1)).alloc (.cells c2 t2)) (w2.heap.size + 1) c2 t2 ∧ ((w2.alloc (.cells c1 t1)).alloc (.cells c2 t2)).heap.size = w2.heap.size + 2 ∧ Below w2.heap.size w2 ((w2.alloc (.cells c1 t1)).alloc (.cells c2 t2)) := by
  have h1 := Blk.new w2 c1 t1
  have h2 := Blk.new (w2.alloc (.cells c1 t1)) c2 t2
  rw [World.size_alloc] at h2
  refine ⟨h1.alloc _, h2, by simp only [World.size_alloc], ?_⟩
  have b1 := (Below.refl w2.heap.size w2).alloc (Nat.le_refl _) (.cells c1 t1)
  exact b1.alloc b1.size _
/-- the steps that are left -/
def muP (q : Nat) (a : Act) (_ : World) : Nat := match (a.tmps[30]? : Option Value) with
  | some (.int _ z) => q - z.toNat
  | _ => 0
theorem muP_eq {q j : Nat} {a : Act} {W : World} (h : a.tmps[30]? = some (.int .i64 (j : Int))) : muP q a W = q - j := by
  unfold muP
  rw [h]
  simp
/-- are they an alignment, at that cost -/
def pvB (R : RB) (x y : ByteArray) (l : List (Int × Int)) (cost : Int) : Bool := chkN R [x, y] == 0 && (decide (0 ≤ costsV R x y l) && decide (costsV R x y l ≤ cost))
theorem WS_end {R : RB} {x y : ByteArray} {l : List (Int × Int)} {i k t : Nat} (h : WS R x y l = some (i, k, t)) : costsV R x y l = if i < x.size ∨ k < y.size then -1 else (t : Int) := by
  unfold costsV Nm.costsR; unfold WS at h; rw [h]
def PvI (w : World) (Bb Bt Bc d mb : Nat) (a : Option Addr) (n c : Nat) (R : RB) (x y : ByteArray) (aq : Option Addr) (cq q : Nat) (l : List (Int × Int)) (cost : Int) (ac : Act) (W : World) : Prop :=
  ∃ (j i k t top : Nat) (ds : List Deferred), ac.tmps.size = 57 ∧ ac.tmps[4]? = some (.int .i64 cost) ∧ ac.tmps[11]? = some (.pointer (some ⟨d, 0, none⟩)) ∧ ac.tmps[12]? = some (.pointer (some ⟨Bt, 0, none⟩)) ∧ ac.tmps[13]? = some (.pointer (some ⟨Bc, 0, none⟩)) ∧ ac.tmps[28]? = some (.slice aq q cq) ∧ ac.tmps[29]? = some (.int .i64 (q : Int)) ∧ ac.tmps[30]? = some (.int .i64 (j : Int)) ∧ ac.defers = ds ∧
    j ≤ q ∧ i ≤ x.size ∧ k ≤ y.size ∧ t ≤ 100 * j ∧ Hid (WS R x y (l.take j) = some (i, k, t) ∧ PvS w Bb Bt Bc d mb a n c R x y t i k top ds W)
set_option maxRecDepth 100000 in
set_option maxHeartbeats 4000000 in
theorem ProveAlign_bad (a : Option Addr) (g o c n : Nat) (R : RB) (w : World) (hN : R.cls.length = n) (hk : SK w a g o R.cls) (hc : n ≤ c) (ht : Thn R) (x y : ByteArray) (hx : x.size ≤ 1000) (hy : y.size ≤ 1000) (aq : Option Addr) (gq oq cq q : Nat) (l : List (Int × Int)) (hst : StK w aq gq oq q l) (hq : q ≤ 1000) (cost : Int) (v : Nat) (hv : chkN R [x, y] = v) (h0 : v ≠ 0) : Calls Try.prog 11 #[rulesV a n c R.soft R.al R.ot R.sk R.ss R.db, .string x, .string y, .slice aq q cq, .int .i64 cost] w fun e w' => e = .returned (.bool (pvB R x y l cost)) ∧ Below w.heap.size w w' := by
  have CK := Lib.hid (fun W b (hW : Below w.heap.size w W) (hb : Blk W b #[.string x, .string y] 9) => check_any a g o c n R W hN (hk.below hW) hc ht (some ⟨b, 0, none⟩) b 0 2 2 [x, y] rfl (sk2 hb) (by omega) (fun s hs => by simp at hs; rcases hs with rfl | rfl <;> assumption))
  rw [hv] at CK
  have t0 : ((v : Int) == 0) = false := by simp; omega
  have t1 : ((v : Int) != 0) = true := by simp; omega
  have HPV := Lib.hid (show pvB R x y l cost = false by unfold pvB; rw [hv, beq_eq_false_iff_ne.2 h0]; rfl)
  clear hk ht hN hx hy hv h0 hst
  have s0 := (KS.start w).new (rulesC a n c R.soft R.al R.ot R.sk R.ss R.db) 27
  obtain ⟨kb0_0, kb0_1, kb0_2, kb0_3, kb0_4, kb0_5, kb0_6⟩ := (s0.blkAt 0 rfl).c7
  have S0 := Lib.hid s0
  clear s0
  rw [HPV.out]
  go_enter Try.func11, Try.ntmps11
  go_wp2_with fail
  go_step3
  go_wp2_with fail
  refine (CK.out _ (w.heap.size + 1) ((S0.out.bel).alloc S0.out.size _) (two_new w _ _ _ _).2.1).mono ?_
  rintro e w1 ⟨rfl, h1⟩
  clear kb0_0 kb0_1 kb0_2 kb0_3 kb0_4 kb0_5 kb0_6
  have s1 := (S0.out.alloc (.cells #[.string x, .string y] 9)).below h1
  have S1 := Lib.hid s1
  clear h1 s1
  go_wp2_with fail
  rw [Exit.noGoto_ret]
  go_ret
  exact ⟨rfl, S1.out.bel⟩
set_option maxRecDepth 100000 in
set_option maxHeartbeats 8000000 in
theorem ProveAlign_good (a : Option Addr) (g o c n : Nat) (R : RB) (w : World) (hN : R.cls.length = n) (hk : SK w a g o R.cls) (hc : n ≤ c) (ht : Thn R) (x y : ByteArray) (hx : x.size ≤ 1000) (hy : y.size ≤ 1000) (aq : Option Addr) (gq oq cq q : Nat) (l : List (Int × Int)) (hst : StK w aq gq oq q l) (hq : q ≤ 1000) (cost : Int) (hv : chkN R [x, y] = 0) : Calls Try.prog 11 #[rulesV a n c R.soft R.al R.ot R.sk R.ss R.db, .string x, .string y, .slice aq q cq, .int .i64 cost] w fun e w' => e = .returned (.bool (pvB R x y l cost)) ∧ Below w.heap.size w w' := by
  refine (callsIn_wide (n := 8)).1 ?_
  have CK := Lib.hid (fun W b (hW : Below w.heap.size w W) (hb : Blk W b #[.string x, .string y] 9) => check_any a g o c n R W hN (hk.below hW) hc ht (some ⟨b, 0, none⟩) b 0 2 2 [x, y] rfl (sk2 hb) (by omega) (fun s hs => by simp at hs; rcases hs with rfl | rfl <;> assumption))
  rw [hv] at CK
  obtain ⟨hg, hxy⟩ := chkN_ok hv
  obtain ⟨gx1, gx2⟩ := hxy x (by simp)
  obtain ⟨gy1, gy2⟩ := hxy y (by simp)
  have CD := Lib.hid (fun W (hW : Below w.heap.size w W) => duel_ok a g o c n R W hN (hk.below hW) hc ht hg x y)
  have HXY := Lib.hid (And.intro (name_of gx2 gx1) (name_of gy2 gy1))
  have H12 := Lib.hid (And.intro gx1 gy1)
  have HBD := Lib.hid (hg.bnd gx1 gy1)
  have HST := Lib.hid hst
  have HMM := Lib.hid hst.1
  have HPV := Lib.hid (show pvB R x y l cost = (decide (0 ≤ costsV R x y l) && decide (costsV R x y l ≤ cost)) by unfold pvB; rw [hv]; rfl)
  generalize hV : pvB R x y l cost = V
  have HV := Lib.hid (hV.symm.trans HPV.out)
  clear hk ht hN hx hy hv hg hxy gx1 gx2 gy1 gy2 hst hV HPV
  have s0 := (KS.start w).new (rulesC a n c R.soft R.al R.ot R.sk R.ss R.db) 27
  obtain ⟨kb0_0, kb0_1, kb0_2, kb0_3, kb0_4, kb0_5, kb0_6⟩ := (s0.blkAt 0 rfl).c7
  have S0 := Lib.hid s0
  clear s0
  refine callsIn_of_wp_marks Try.func11 rfl trivial ?_ rfl
  simp only [Try.ntmps11, List.size_toArray, List.length_cons, List.length_nil, Nat.reduceAdd, Nat.reduceSub, Array.replicate_succ, Array.replicate_zero, List.push_toArray, List.append_toArray, List.nil_append, List.cons_append]
  gi_wp2
  refine wpIn_scope_straight ?_
  gi_wp2_with (refine ⟨trivial, ?_⟩; gi_at_call 16; (with_reducible refine (callsIn_wide.2 (CK.out _ (w.heap.size + 1) ((S0.out.bel).alloc S0.out.size _) (two_new w _ _ _ _).2.1)).mono ?_); rintro e w1 ⟨rfl, h1⟩; clear kb0_0 kb0_1 kb0_2 kb0_3 kb0_4 kb0_5 kb0_6; have s1 := (S0.out.alloc (.cells #[.string x, .string y] 9)).below h1; obtain ⟨kb0_0, kb0_1, kb0_2, kb0_3, kb0_4, kb0_5, kb0_6⟩ := (s1.blkAt 0 rfl).c7; have S1 := Lib.hid s1; clear h1 s1)
  gi_wp2_with (refine ⟨trivial, ?_⟩; gi_at_call 17; (with_reducible refine (callsIn_wide.2 (CD.out _ S1.out.bel)).mono ?_); rintro e w2 ⟨d, mb, rfl, hd, hm, h1, h2, h3⟩; have S2 := Lib.hid (S1.out.below h3); have HD := Lib.hid hd; have HM := Lib.hid hm; have HM1 := Lib.hid h1; have HM2 := Lib.hid h2; clear kb0_0 kb0_1 kb0_2 kb0_3 kb0_4 kb0_5 kb0_6 hd hm h1 h2 h3)
  refine wpIn_label ?_
  gi_wp2
  obtain ⟨n1, n2, n4, n5⟩ := three_newP w2 #[.int .i64 0] #[.int .i64 0, .int .i64 0] 3 53
  have hs1 := S1.out.size
  have hs2 := S2.out.size
  have hd2 := HD.out.duel.lt
  have hm1 := HM1.out
  have hm3 := HM2.out
  have hA0 : PvS w (w2.heap.size + 2) w2.heap.size (w2.heap.size + 1) d mb a n c R x y 0 0 0 (w2.heap.size + 2) [] ((w2.alloc (.cells #[.int .i64 0] 3)).alloc (.cells #[.int .i64 0, .int .i64 0] 53)) :=
    ⟨n1, n2, HD.out.below n5, S2.out.bel.trans (n5.mono hs2), trivial, by omega, by omega⟩
  have hsd : PvB w (w2.heap.size + 2) w2.heap.size (w2.heap.size + 1) d := ⟨by omega, by omega, by omega, by omega, by omega, by omega⟩
  have HA0 := Lib.hid hA0
  have HSD := Lib.hid hsd
  clear hA0 hsd n1 n2 n4 n5 hs1 hs2 hd2 hm1 hm3 HD HM HM1 HM2
  refine wpIn_loop (PvI w (w2.heap.size + 2) w2.heap.size (w2.heap.size + 1) d mb a n c R x y aq cq q l cost) (muP q) ?start ?round
  case start => exact ⟨0, 0, 0, 0, w2.heap.size + 2, [], rfl, rfl, rfl, rfl, rfl, rfl, rfl, rfl, rfl, Nat.zero_le _, Nat.zero_le _, Nat.zero_le _, Nat.le_refl _, Lib.hid ⟨rfl, HA0.out⟩⟩
  case round =>
    clear HA0 S0 S1 S2 CK CD
    generalize w2.heap.size + 2 = Bb at *
    generalize w2.heap.size + 1 = Bc at *
    generalize w2.heap.size = Bt at *
    rintro ⟨tm, ds⟩ wr ⟨j, i, k, t, top, ds2, hsz, h4, h11, h12, h13, h28, h29, h30, hds, hj, lw2, lw3, ht, HP⟩
    have HMU := Lib.hid (muP_eq (q := q) (W := wr) h30)
    dsimp only at hsz h4 h11 h12 h13 h28 h29 h30 hds
    obtain ⟨v0, v1, v2, v3, v4, v5, v6, v7, v8, v9, v10, v11, v12, v13, v14, v15, v16, v17, v18, v19, v20, v21, v22, v23, v24, v25, v26, v27, v28, v29, v30, v31, v32, v33, v34, v35, v36, v37, v38, v39, v40, v41, v42, v43, v44, v45, v46, v47, v48, v49, v50, v51, v52, v53, v54, v55, v56, rfl⟩ := arr57 hsz
    obtain rfl : v4 = .int .i64 cost := Option.some.inj h4
    obtain rfl : v11 = .pointer (some ⟨d, 0, none⟩) := Option.some.inj h11
    obtain rfl : v12 = .pointer (some ⟨Bt, 0, none⟩) := Option.some.inj h12
    obtain rfl : v13 = .pointer (some ⟨Bc, 0, none⟩) := Option.some.inj h13
    obtain rfl : v28 = .slice aq q cq := Option.some.inj h28
    obtain rfl : v29 = .int .i64 (q : Int) := Option.some.inj h29
    obtain rfl : v30 = .int .i64 (j : Int) := Option.some.inj h30
    clear hsz h4 h11 h12 h13 h28 h29 h30
    subst hds
    by_cases hjq : j < q
    · have hne : l ≠ [] := by rintro rfl; have := HMM.out; simp at this; omega
      have e1 := HST.out.2.1 hne
      subst e1
      obtain ⟨⟨A, B⟩, hs⟩ : ∃ s, l[j]? = some s := ⟨_, List.getElem?_eq_getElem (by rw [HMM.out]; exact hjq)⟩
      have hcc := (HST.out.below HP.out.2.bel).2.2.1 j _ hs
      have kA := hcc.1
      have kB := hcc.2
      have HWS := Lib.hid (WS_snoc HP.out.1 hs)
      have hgl := (HST.out.below HP.out.2.bel).2.2.2 hne
      have pj0 : (0 : Int) ≤ (j : Int) := by omega
      have pj1 : (j : Int) < (q : Int) := by omega
      obtain ⟨c0, c1, _⟩ := HP.out.2.bc.c2
      have hbc := HP.out.2.bc.lt
      clear hs hcc hne
      gi_wp2_with (first
        | (refine ⟨trivial, ?_⟩; gi_at_call 26; (with_reducible refine (callsIn_wide.2 (steps_any _ _ _ _)).mono ?_); rintro e w6 ⟨rfl, rfl⟩))
      obtain ⟨g1, g2, g3, g4, g5⟩ := three_newC wr #[.int .i64 A, .int .i64 B] #[.pointer (some ⟨d, 0, none⟩)] #[.int .i64 i, .int .i64 k] 41 49 53
      have hA6 := HP.out.2.below g5
      have htp := HP.out.2.tp
      have hbb := HP.out.2.bb
      have hbl := HP.out.2.bel.size
      clear kA kB c0 c1 hbc hgl
      generalize hW0 : (((wr.alloc (.cells #[.int .i64 A, .int .i64 B] 41)).alloc (.cells #[.pointer (some ⟨d, 0, none⟩)] 49)).alloc (.cells #[.int .i64 i, .int .i64 k] 53)) = W0 at *
      clear hW0 g5
      generalize hBx : wr.heap.size = Bx at *
      clear hBx
      have HSDo := HSD.out
      have sd2 := HSDo.bt
      have sd3 := HSDo.bc
      have sd4 := HSDo.d
      clear HSDo
      refine wpIn_rangeFunc_ownH rfl (by omega) (gf := 48) (lb := #[.pointer (some ⟨Bx + 1, 0, none⟩), .pointer (some ⟨Bx + 1 + 1, 0, none⟩)]) rfl trivial (enters_of Try.func48 (by kernel_rfl) rfl)
        (steps_stops (fun _ => False) d (Bx + 1) (Bx + 1 + 1) i k a n c R.soft R.al.toNat R.ot.toNat R.sk.toNat R.ss.toNat R.db.toNat x y (sndR R) mb W0 lw2 lw3 HXY.out.1 HXY.out.2 (fun _ hk => hk.elim) (fun h => h) (fun h => h) (fun h => h) hA6.duel g2 g3 7)
        (fun h k => h.trans k) (fun W l ob ob' _ h hc _ => KpE.putObj l ob ob' h hc) (Below.refl _ _) (fun _ => rfl)
        (fun pre W => PvS w Bb Bt Bc d mb a n c R x y t i k top ds W ∧ (∀ u, u ∈ pre → u.1.1 ≠ (A, B)) ∧ Blk W Bx #[.int .i64 A, .int .i64 B] 41 ∧ Bx + 1 + 1 < W.heap.size)
        (fun c' pre W => c' = .exit 1 ∧ ∃ pre0 t', pre = pre0 ++ [t'] ∧ t'.1.1 = (A, B) ∧ PvS w Bb Bt Bc d mb a n c R x y (t + t'.1.2) (Nm.aft (i, k) t'.1.1).1 (Nm.aft (i, k) t'.1.1).2 top ds W)
        (fun st X Y row ⟨h1, h2, h3, h4⟩ hg hr => ⟨h1.own hg (B := W0.heap.size) (by omega) (by omega) hr, h2, h3.kept hg (fun e => by have := (hr _ e.symm).1; omega), Nat.lt_of_lt_of_le h4 hg.size⟩)
        (fun c' st X Y row ⟨e, p0, t', h1, h2, h3⟩ hg hr => ⟨e, p0, t', h1, h2, h3.own hg (B := W0.heap.size) (by omega) (by omega) hr⟩)
        ⟨hA6, fun u hu => (by simp at hu), g1, by omega⟩
        (fun t' a' W => ∃ Bs, Bx + 1 + 1 < Bs ∧ a'.tmps.size = 57 ∧ a'.tmps[12]? = some (.pointer (some ⟨Bt, 0, none⟩)) ∧ a'.tmps[13]? = some (.pointer (some ⟨Bc, 0, none⟩)) ∧ a'.tmps[15]? = some (.pointer (some ⟨Bx, 0, none⟩)) ∧ a'.tmps[16]? = some (.pointer (some ⟨Bs, 0, none⟩)) ∧ a'.tmps[17]? = some (.int .i64 (t'.1.2 : Nat)) ∧ a'.defers = [] ∧ Blk W Bs #[.int .i64 t'.1.1.1, .int .i64 t'.1.1.2] 41)
        (fun t' a' st X Y row hs hg hr => by
          obtain ⟨Bs, h0, h1, h2, h3, h4, h5, h6, h7, h8⟩ := hs
          refine ⟨Bs, h0, h1, h2, h3, h4, h5, h6, h7, h8.kept hg (fun e => ?_)⟩
          obtain ⟨ob, ho, hc⟩ := (hr Bs e.symm).2
          have h2' : X.heap[Bs]? = _ := h8
          rw [h2'] at ho; cases ho; cases hc)
        ?assign ?body ?done ?stop
      case assign =>
        rintro lp pre t' W K ⟨b1, b2, b3, hlW⟩ hK
        have HK := Lib.hid hK
        have HB1 := Lib.hid b1
        have HB2 := Lib.hid b2
        have HB3 := Lib.hid b3
        clear hK b1 b2 b3
        gi_wp2
        refine HK.out _ _ ?_ ?_ ?_ ?_
        · exact (KeepsOthers.alloc _ _).from _
        · exact KpE.below ((Below.refl _ _).alloc (Nat.le_refl _) _)
        · exact ⟨HB1.out.below ((Below.refl _ _).alloc (Nat.le_refl _) _), HB2.out, HB3.out.alloc _, by rw [World.size_alloc]; omega⟩
        · exact ⟨W.heap.size, hlW, rfl, rfl, rfl, rfl, rfl, rfl, rfl, Blk.new _ _ _⟩
      case body =>
        rintro lp pre t' ⟨tm, df⟩ W hl ⟨r, hr⟩ ⟨b1, b2, b3, b4⟩ ⟨Bs, hBs, hsz, h12, h13, h15, h16, h17, hdf, bs⟩ hlt
        dsimp only at hsz h12 h13 h15 h16 h17 hdf
        subst hdf
        obtain ⟨u0, u1, u2, u3, u4, u5, u6, u7, u8, u9, u10, u11, u12, u13, u14, u15, u16, u17, u18, u19, u20, u21, u22, u23, u24, u25, u26, u27, u28, u29, u30, u31, u32, u33, u34, u35, u36, u37, u38, u39, u40, u41, u42, u43, u44, u45, u46, u47, u48, u49, u50, u51, u52, u53, u54, u55, u56, rfl⟩ := arr57 hsz
        obtain rfl : u12 = .pointer (some ⟨Bt, 0, none⟩) := Option.some.inj h12
        obtain rfl : u13 = .pointer (some ⟨Bc, 0, none⟩) := Option.some.inj h13
        obtain rfl : u15 = .pointer (some ⟨Bx, 0, none⟩) := Option.some.inj h15
        obtain rfl : u16 = .pointer (some ⟨Bs, 0, none⟩) := Option.some.inj h16
        obtain rfl : u17 = .int .i64 (t'.1.2 : Nat) := Option.some.inj h17
        clear hsz h12 h13 h15 h16 h17
        have hmem : t'.1 ∈ stR R x y i k := t'.2
        obtain ⟨q1, q2, q3⟩ := aft_R hmem lw2 lw3
        have CA := Lib.hid (fun W => after_any R.soft R.al.toNat R.ot.toNat R.sk.toNat R.ss.toNat R.db.toNat x y (sndR R) i k t'.1 t'.2 lw2 lw3 (by have := H12.out.1; omega) (by have := H12.out.2; omega) W)
        have hm1 : t'.1.2 ≤ 100 := HBD.out.2.1 i k t'.1 t'.2
        obtain ⟨m, hmm⟩ : ∃ m, t'.1.2 = m := ⟨_, rfl⟩
        rw [hmm] at hm1 ⊢
        have HMM2 := Lib.hid hmm
        have HB1 := Lib.hid b1
        have HB2 := Lib.hid b2
        have HB3 := Lib.hid b3
        have HBS := Lib.hid bs
        have s0 := bs.c2.1
        have s1 := bs.c2.2.1
        have x0 := b3.c2.1
        have x1 := b3.c2.2.1
        have x2 := b1.bt.c1.1
        have y1 := b1.bc.c2.1
        have y2 := b1.bc.c2.2.1
        have HQ := Lib.hid (And.intro q1 (And.intro q2 q3))
        clear hmem q1 q2 q3 hmm b1 b2 b3 bs
        have hnorm : ∀ a' : Act, t'.1.1 ≠ (A, B) → ownPostG W0.heap.size (KpE fun _ => False) (fun pre W => PvS w Bb Bt Bc d mb a n c R x y t i k top ds W ∧ (∀ u, u ∈ pre → u.1.1 ≠ (A, B)) ∧ Blk W Bx #[.int .i64 A, .int .i64 B] 41 ∧ Bx + 1 + 1 < W.heap.size) (fun c' pre W => c' = .exit 1 ∧ ∃ pre0 t', pre = pre0 ++ [t'] ∧ t'.1.1 = (A, B) ∧ PvS w Bb Bt Bc d mb a n c R x y (t + t'.1.2) (Nm.aft (i, k) t'.1.1).1 (Nm.aft (i, k) t'.1.1).2 top ds W) (pre ++ [t']) W .normal a' W := fun a' hn => by
          refine ⟨KeepsFrom.refl _ _, KpE.below (Below.refl _ _), HB1.out, fun u hu => ?_, HB3.out, b4⟩
          rcases List.mem_append.1 hu with h | h
          · exact HB2.out u h
          · simp only [List.mem_singleton] at h
            rw [h]; exact hn
        have HNM := Lib.hid hnorm
        clear hnorm
        by_cases hA : t'.1.1.1 = A
        · by_cases hB : t'.1.1.2 = B
          · have HAB := Lib.hid (show t'.1.1 = (A, B) from Prod.ext hA hB)
            rw [← hA] at x0
            rw [← hB] at x1
            obtain ⟨tm2, htm⟩ : ∃ u, u = t + m := ⟨_, rfl⟩
            have ea : (t : Int) + (m : Int) = (tm2 : Int) := by omega
            have eb : IntKind.i64.wrap (tm2 : Int) = (tm2 : Int) := IntWalk.i64_in _ (by omega)
            have HTM := Lib.hid htm
            have hA5 := HB1.out.setT HSD.out tm2
            have HA5 := Lib.hid hA5
            have x3 := HB1.out.bt.c1.2
            have n1 : Bs ≠ Bt := blk_ne HBS.out HB1.out.bt (by decide)
            have n2 : Bt ≠ Bc := HSD.out.tc
            have n3 := n2.symm
            have n4 := n1.symm
            have n5 : Bs ≠ Bc := blk_ne HBS.out HB1.out.bc (by decide)
            have n6 := n5.symm
            clear hA hB htm hA5
            gi_wp2_with (refine ⟨trivial, ?_⟩; gi_at_call 27; (with_reducible refine (callsIn_round (CA.out _)).mono ?_); rintro e w7 ⟨rfl, hb7⟩; have hA7 := HA5.out.below hb7; have HA7 := Lib.hid hA7; have HB7 := Lib.hid hb7; obtain ⟨z1, z2, z3, z4⟩ := hA7.bc.c2; clear hA7 hb7)
            have hfin := HA7.out.setC HSD.out (Nm.aft (i, k) t'.1.1).1 (Nm.aft (i, k) t'.1.1).2
            rw [HTM.out, ← HMM2.out] at hfin
            exact ⟨((KeepsOthers.setCell _ _ _).from _).trans ((keepsBelow HB7.out).trans (((KeepsOthers.setCell _ _ _).from _).trans ((KeepsOthers.setCell _ _ _).from _))), rfl, pre, t', rfl, HAB.out, hfin⟩
          · have hne : t'.1.1 ≠ (A, B) := fun h => hB (by rw [h])
            have HNE := Lib.hid hne
            clear hne
            gi_wp2
            exact HNM.out _ HNE.out
        · have hne : t'.1.1 ≠ (A, B) := fun h => hA (by rw [h])
          have HNE := Lib.hid hne
          clear hne
          gi_wp2
          exact HNM.out _ HNE.out
      case done =>
        rintro D ys W hD hys ⟨hA, hF, _⟩ hDW
        have hv : V = false := by
          have h1 : costsV R x y l = -1 := WS_none (j := j) (by
            rw [HWS.out]
            refine step1_out (fun t ht => ?_) _
            have hm : t ∈ ys.map (·.1) := by rw [hys]; exact ht
            obtain ⟨u, hu, rfl⟩ := List.mem_map.1 hm
            exact hF u hu)
          rw [HV.out, h1]; rfl
        subst hv
        have HA := Lib.hid (hA.mark (by omega) (by omega) hDW)
        clear hA hF hys hDW
        gi_wp2
        rw [Exit.noGoto_ret]
        refine leaves_marks (by simp) _ _ _ HA.out.marks (fun W' hb' hk' => ?_)
        exact ⟨_, results_tmp rfl _ _ _, rfl, HA.out.bel.trans (hb'.mono (by omega))⟩
      case stop =>
        rintro D c' pre W hD hSp ⟨rfl, pre0, t', rfl, hAB, hA⟩ hDW
        have hst : pre0.map (·.1) ++ [t'.1] <+: stR R x y i k := by
          have h : (pre0 ++ [t']).map (·.1) <+: stR R x y i k := hSp
          rwa [List.map_append] at h
        have hmem : t'.1 ∈ stR R x y i k := t'.2
        have hq3 := aft_R hmem lw2 lw3
        have hm1 : t'.1.2 ≤ 100 := HBD.out.2.1 i k t'.1 t'.2
        have hws : WS R x y (l.take (j + 1)) = some ((Nm.aft (i, k) t'.1.1).1, (Nm.aft (i, k) t'.1.1).2, t + t'.1.2) := by
          rw [HWS.out, ← hAB]
          exact step1_in (t := t'.1) (by rw [← stR_eq]; exact hmem) t
        have hA9 := hA.mark (by omega) (by omega) hDW
        have HA9 := Lib.hid hA9
        have HW9 := Lib.hid hws
        have HQ := Lib.hid hq3
        obtain ⟨t2, ht2⟩ : ∃ u, u = t + t'.1.2 := ⟨_, rfl⟩
        have HT2 := Lib.hid (show t2 ≤ 100 * (j + 1) by omega)
        clear hA hA9 hws hSp hAB hDW hst hmem hq3
        simp only [← ht2] at HA9 HW9
        clear ht2 hm1
        generalize (Nm.aft (i, k) t'.1.1).1 = i' at *
        generalize (Nm.aft (i, k) t'.1.1).2 = k' at *
        obtain ⟨j2, hj2⟩ : ∃ u, u = j + 1 := ⟨_, rfl⟩
        have ea : (j : Int) + 1 = (j2 : Int) := by omega
        have eb : IntKind.i64.wrap (j2 : Int) = (j2 : Int) := IntWalk.i64_in _ (by omega)
        rw [← hj2] at HW9 HT2
        have HJ := Lib.hid hj2
        clear hj2
        gi_wp2
        refine ⟨⟨j2, i', k', t2, W.heap.size, _, rfl, rfl, rfl, rfl, rfl, rfl, rfl, rfl, rfl, by have := HJ.out; omega, HQ.out.1, HQ.out.2.1, HT2.out, Lib.hid ⟨HW9.out, HA9.out⟩⟩, ?_⟩
        rw [HMU.out, muP_eq (j := j2) rfl]
        have := HJ.out
        omega
    · have hj2 : j = q := by omega
      have hws := HP.out.1
      rw [List.take_of_length_le (by rw [HMM.out]; omega)] at hws
      have hcv := WS_end hws
      have pj1 : ¬ (j : Int) < (q : Int) := by omega
      have CO := Lib.hid (over_any d a n c R.soft R.al.toNat R.ot.toNat R.sk.toNat R.ss.toNat R.db.toNat x y (sndR R) mb wr HP.out.2.duel.duel i k lw2 lw3)
      have k12 := HP.out.2.bt.c1.1
      obtain ⟨c0, c1, _⟩ := HP.out.2.bc.c2
      clear hj2 hws
      have sd2 := HSD.out.bt
      by_cases hov : i = x.size ∧ k = y.size
      · rw [decide_eq_true hov] at CO
        rw [if_neg (by omega)] at hcv
        by_cases hle : (t : Int) ≤ cost
        · have hv : V = true := by rw [HV.out, hcv]; simp [hle]
          subst hv
          clear hov hcv
          gi_wp2_with (refine ⟨trivial, ?_⟩; gi_at_call 25; (with_reducible refine (callsIn_wide.2 CO.out).mono ?_); rintro e w5 ⟨rfl, hb⟩; have HA := Lib.hid (HP.out.2.below hb); clear hb k12; have k12 := HA.out.bt.c1.1)
          rw [Exit.noGoto_ret]
          refine leaves_marks (by simp) _ _ _ HA.out.marks (fun W' hb' hk' => ?_)
          refine ⟨_, results_tmp rfl _ _ _, ?_, HA.out.bel.trans (hb'.mono (by omega))⟩
          first | rfl | exact congrArg (fun b => Ending.returned (Value.bool b)) (decide_eq_true (p := (t : Int) ≤ cost) (by omega)) | exact congrArg (fun b => Ending.returned (Value.bool b)) (decide_eq_false (p := (t : Int) ≤ cost) (by omega))
        · have hv : V = false := by rw [HV.out, hcv]; simp [hle]
          subst hv
          clear hov hcv
          gi_wp2_with (refine ⟨trivial, ?_⟩; gi_at_call 25; (with_reducible refine (callsIn_wide.2 CO.out).mono ?_); rintro e w5 ⟨rfl, hb⟩; have HA := Lib.hid (HP.out.2.below hb); clear hb k12; have k12 := HA.out.bt.c1.1)
          rw [Exit.noGoto_ret]
          refine leaves_marks (by simp) _ _ _ HA.out.marks (fun W' hb' hk' => ?_)
          refine ⟨_, results_tmp rfl _ _ _, ?_, HA.out.bel.trans (hb'.mono (by omega))⟩
          first | rfl | exact congrArg (fun b => Ending.returned (Value.bool b)) (decide_eq_true (p := (t : Int) ≤ cost) (by omega)) | exact congrArg (fun b => Ending.returned (Value.bool b)) (decide_eq_false (p := (t : Int) ≤ cost) (by omega))
      · rw [decide_eq_false hov] at CO
        rw [if_pos (by omega)] at hcv
        have hv : V = false := by rw [HV.out, hcv]; rfl
        subst hv
        clear hov hcv
        gi_wp2_with (refine ⟨trivial, ?_⟩; gi_at_call 25; (with_reducible refine (callsIn_wide.2 CO.out).mono ?_); rintro e w5 ⟨rfl, hb⟩; have HA := Lib.hid (HP.out.2.below hb); clear hb k12; have k12 := HA.out.bt.c1.1)
        rw [Exit.noGoto_ret]
        refine leaves_marks (by simp) _ _ _ HA.out.marks (fun W' hb' hk' => ?_)
        refine ⟨_, results_tmp rfl _ _ _, ?_, HA.out.bel.trans (hb'.mono (by omega))⟩
        first | rfl | exact congrArg (fun b => Ending.returned (Value.bool b)) (decide_eq_true (p := (t : Int) ≤ cost) (by omega)) | exact congrArg (fun b => Ending.returned (Value.bool b)) (decide_eq_false (p := (t : Int) ≤ cost) (by omega))
end Go.Proofs.Ytkdflgaahhnigaa
