/- Texts of package name, for this seat. -/
import Derived.Test.YtkdflgaahhnigaaC24
import Derived.Lib.SmallJoins
import Derived.Lib.BufferWrite
set_option linter.unusedVariables false
set_option linter.unusedSimpArgs false
namespace Go.Proofs.Ytkdflgaahhnigaa
open Go.RowKit Go.Shelf
attribute [local go_sem] Oper.semAt_some

theorem arr56 {tm : Array Value} (h : tm.size = 56) : ∃ v0 v1 v2 v3 v4 v5 v6 v7 v8 v9 v10 v11 v12 v13 v14 v15 v16 v17 v18 v19 v20 v21 v22 v23 v24 v25 v26 v27 v28 v29 v30 v31 v32 v33 v34 v35 v36 v37 v38 v39 v40 v41 v42 v43 v44 v45 v46 v47 v48 v49 v50 v51 v52 v53 v54 v55 : Value, tm = #[v0, v1, v2, v3, v4, v5, v6, v7, v8, v9, v10, v11, v12, v13, v14, v15, v16, v17, v18, v19, v20, v21, v22, v23, v24, v25, v26, v27, v28, v29, v30, v31, v32, v33, v34, v35, v36, v37, v38, v39, v40, v41, v42, v43, v44, v45, v46, v47, v48, v49, v50, v51, v52, v53, v54, v55] := by
  obtain ⟨l⟩ := tm
  have h : l.length = 56 := h
  obtain ⟨v0, l0, e0, h0⟩ := lsplit h
  obtain ⟨v1, l1, e1, h1⟩ := lsplit h0
  obtain ⟨v2, l2, e2, h2⟩ := lsplit h1
  obtain ⟨v3, l3, e3, h3⟩ := lsplit h2
  obtain ⟨v4, l4, e4, h4⟩ := lsplit h3
  obtain ⟨v5, l5, e5, h5⟩ := lsplit h4
  obtain ⟨v6, l6, e6, h6⟩ := lsplit h5
  obtain ⟨v7, l7, e7, h7⟩ := lsplit h6
  obtain ⟨v8, l8, e8, h8⟩ := lsplit h7
  obtain ⟨v9, l9, e9, h9⟩ := lsplit h8
  obtain ⟨v10, l10, e10, h10⟩ := lsplit h9
  obtain ⟨v11, l11, e11, h11⟩ := lsplit h10
  obtain ⟨v12, l12, e12, h12⟩ := lsplit h11
  obtain ⟨v13, l13, e13, h13⟩ := lsplit h12
  obtain ⟨v14, l14, e14, h14⟩ := lsplit h13
  obtain ⟨v15, l15, e15, h15⟩ := lsplit h14
  obtain ⟨v16, l16, e16, h16⟩ := lsplit h15
  obtain ⟨v17, l17, e17, h17⟩ := lsplit h16
  obtain ⟨v18, l18, e18, h18⟩ := lsplit h17
  obtain ⟨v19, l19, e19, h19⟩ := lsplit h18
  obtain ⟨v20, l20, e20, h20⟩ := lsplit h19
  obtain ⟨v21, l21, e21, h21⟩ := lsplit h20
  obtain ⟨v22, l22, e22, h22⟩ := lsplit h21
  obtain ⟨v23, l23, e23, h23⟩ := lsplit h22
  obtain ⟨v24, l24, e24, h24⟩ := lsplit h23
  obtain ⟨v25, l25, e25, h25⟩ := lsplit h24
  obtain ⟨v26, l26, e26, h26⟩ := lsplit h25
  obtain ⟨v27, l27, e27, h27⟩ := lsplit h26
  obtain ⟨v28, l28, e28, h28⟩ := lsplit h27
  obtain ⟨v29, l29, e29, h29⟩ := lsplit h28
  obtain ⟨v30, l30, e30, h30⟩ := lsplit h29
  obtain ⟨v31, l31, e31, h31⟩ := lsplit h30
  obtain ⟨v32, l32, e32, h32⟩ := lsplit h31
  obtain ⟨v33, l33, e33, h33⟩ := lsplit h32
  obtain ⟨v34, l34, e34, h34⟩ := lsplit h33
  obtain ⟨v35, l35, e35, h35⟩ := lsplit h34
  obtain ⟨v36, l36, e36, h36⟩ := lsplit h35
  obtain ⟨v37, l37, e37, h37⟩ := lsplit h36
  obtain ⟨v38, l38, e38, h38⟩ := lsplit h37
  obtain ⟨v39, l39, e39, h39⟩ := lsplit h38
  obtain ⟨v40, l40, e40, h40⟩ := lsplit h39
  obtain ⟨v41, l41, e41, h41⟩ := lsplit h40
  obtain ⟨v42, l42, e42, h42⟩ := lsplit h41
  obtain ⟨v43, l43, e43, h43⟩ := lsplit h42
  obtain ⟨v44, l44, e44, h44⟩ := lsplit h43
  obtain ⟨v45, l45, e45, h45⟩ := lsplit h44
  obtain ⟨v46, l46, e46, h46⟩ := lsplit h45
  obtain ⟨v47, l47, e47, h47⟩ := lsplit h46
  obtain ⟨v48, l48, e48, h48⟩ := lsplit h47
  obtain ⟨v49, l49, e49, h49⟩ := lsplit h48
  obtain ⟨v50, l50, e50, h50⟩ := lsplit h49
  obtain ⟨v51, l51, e51, h51⟩ := lsplit h50
  obtain ⟨v52, l52, e52, h52⟩ := lsplit h51
  obtain ⟨v53, l53, e53, h53⟩ := lsplit h52
  obtain ⟨v54, l54, e54, h54⟩ := lsplit h53
  obtain ⟨v55, l55, e55, h55⟩ := lsplit h54
  have e := List.eq_nil_of_length_eq_zero h55
  subst e
  subst e55
  subst e54
  subst e53
  subst e52
  subst e51
  subst e50
  subst e49
  subst e48
  subst e47
  subst e46
  subst e45
  subst e44
  subst e43
  subst e42
  subst e41
  subst e40
  subst e39
  subst e38
  subst e37
  subst e36
  subst e35
  subst e34
  subst e33
  subst e32
  subst e31
  subst e30
  subst e29
  subst e28
  subst e27
  subst e26
  subst e25
  subst e24
  subst e23
  subst e22
  subst e21
  subst e20
  subst e19
  subst e18
  subst e17
  subst e16
  subst e15
  subst e14
  subst e13
  subst e12
  subst e11
  subst e10
  subst e9
  subst e8
  subst e7
  subst e6
  subst e5
  subst e4
  subst e3
  subst e2
  subst e1
  subst e0
  exact ⟨v0, v1, v2, v3, v4, v5, v6, v7, v8, v9, v10, v11, v12, v13, v14, v15, v16, v17, v18, v19, v20, v21, v22, v23, v24, v25, v26, v27, v28, v29, v30, v31, v32, v33, v34, v35, v36, v37, v38, v39, v40, v41, v42, v43, v44, v45, v46, v47, v48, v49, v50, v51, v52, v53, v54, v55, rfl⟩

/-- within a round -/
structure AlR (w : World) (Bb Bd Bo d mb : Nat) (a : Option Addr) (n c : Nat) (R : RB) (x y : ByteArray) (v : Value) (l : List (Int × Int)) (Bc i j top : Nat) (ds : List Deferred) (Wr : World) (BE Bs : Nat) (t1 t2 : Int) (W : World) : Prop where
  al : AlS w Bb Bd Bo d mb a n c R x y v l Bc i j top ds W
  bs : Blk W Bs #[.int .i64 t1, .int .i64 t2] 41
  kf : KeepsFrom BE Wr W
  kp : KpE (fun k => k = mb) Wr W
section
variable {w W W' Wr : World} {Bb Bd Bo d mb : Nat} {a : Option Addr} {n c : Nat} {R : RB} {x y : ByteArray} {v : Value} {l : List (Int × Int)} {Bc i j top BE Bs : Nat} {ds : List Deferred} {t1 t2 : Int}
theorem AlR.below (h : AlR w Bb Bd Bo d mb a n c R x y v l Bc i j top ds Wr BE Bs t1 t2 W) (hb : Below W.heap.size W W') : AlR w Bb Bd Bo d mb a n c R x y v l Bc i j top ds Wr BE Bs t1 t2 W' := ⟨h.al.below hb, h.bs.b hb, h.kf.trans (keepsBelow hb), h.kp.trans (KpE.below hb)⟩
theorem AlR.after (h : AlR w Bb Bd Bo d mb a n c R x y v l Bc i j top ds Wr BE Bs t1 t2 W) (hm : Memo W' mb (cR R x y)) (hg : W.grownBy W' (some mb)) (hmb : w.heap.size ≤ mb) (hB : mb < BE) : AlR w Bb Bd Bo d mb a n c R x y v l Bc i j top ds Wr BE Bs t1 t2 W' :=
  ⟨h.al.after hm hg hmb, h.bs.kept hg (by have := h.bs.ne_memo h.al.memo; simpa using this), h.kf.trans (KeepsFrom.of_grownBy hg (fun r e => by cases e; exact hB)), h.kp.trans (KpE.grown hg (fun r e => by cases e; rfl))⟩
end
def cellN (W : World) (b k : Nat) : Nat := match W.cell? ⟨b, k, none⟩ with
  | some (.int _ z) => z.toNat
  | _ => 0
/-- the letters that are left -/
def muA (N : Nat) (a : Act) (W : World) : Nat := match (a.tmps[11]? : Option Value) with
  | some (.pointer (some ad)) => N - (cellN W ad.block 0 + cellN W ad.block 1)
  | _ => 0
theorem muA_eq {N : Nat} {a : Act} {W : World} {b i j : Nat} (h : a.tmps[11]? = some (.pointer (some ⟨b, 0, none⟩))) (hb : Blk W b #[.int .i64 i, .int .i64 j] 53) : muA N a W = N - (i + j) := by
  have h0 : W.cell? ⟨b, 0, none⟩ = some (.int .i64 i) := hb.cell 0
  have h1 : W.cell? ⟨b, 1, none⟩ = some (.int .i64 j) := hb.cell 1
  unfold muA cellN
  rw [h]
  simp only [h0, h1, Int.toNat_natCast]
/-- three blocks more -/
theorem three_newA (w2 : World) (c1 c2 c3 : Array Value) (t1 t2 t3 : TypeId) : Blk (((w2.alloc (.cells c1 t1)).alloc (.cells c2 t2)).alloc (.cells c3 t3)) w2.heap.size c1 t1 ∧ Blk (((w2.alloc (.cells c1 t1)).alloc (.cells c2 t2)).alloc (.cells c3 t3)) (w2.heap.size + 1) c2 t2 ∧ Blk (((w2.alloc (.cells c1 t1)).alloc (.cells c2 t2)).alloc (.cells c3 t3)) (w2.heap.size + 2) c3 t3 ∧ (((w2.alloc (.cells c1 t1)).alloc (.cells c2 t2)).alloc (.cells c3 t3)).heap.size = w2.heap.size + 3 ∧ Below w2.heap.size w2 (((w2.alloc (.cells c1 t1)).alloc (.cells c2 t2)).alloc (.cells c3 t3)) := by
  have h1 := Blk.new w2 c1 t1
  have h2 := Blk.new (w2.alloc (.cells c1 t1)) c2 t2
  have h3 := Blk.new ((w2.alloc (.cells c1 t1)).alloc (.cells c2 t2)) c3 t3
  rw [World.size_alloc] at h2
  rw [World.size_alloc, World.size_alloc] at h3
  refine ⟨(h1.alloc _).alloc _, h2.alloc _, h3, by simp only [World.size_alloc], ?_⟩
  have b1 := (Below.refl w2.heap.size w2).alloc (Nat.le_refl _) (.cells c1 t1)
  have b2 := b1.alloc b1.size (.cells c2 t2)
  exact b2.alloc b2.size _
def AlI (w : World) (Bb Bd Bo d mb : Nat) (a : Option Addr) (n c : Nat) (R : RB) (x y : ByteArray) (ac : Act) (W : World) : Prop :=
  ∃ (v : Value) (l : List (Int × Int)) (Bc i j top : Nat) (ds : List Deferred), ac.tmps.size = 56 ∧ ac.tmps[9]? = some (.pointer (some ⟨Bd, 0, none⟩)) ∧ ac.tmps[10]? = some (.pointer (some ⟨Bo, 0, none⟩)) ∧ ac.tmps[11]? = some (.pointer (some ⟨Bc, 0, none⟩)) ∧ ac.defers = ds ∧
    Hid (AlS w Bb Bd Bo d mb a n c R x y v l Bc i j top ds W ∧ AlnR R x y l i j)
def AlP (R : RB) (x y : ByteArray) (w : World) (e : Ending) (w' : World) : Prop := ∃ (v : Value) (l : List (Int × Int)), e = .returned (.tuple #[v, .int .i64 0]) ∧ w'.ownsRow w.heap.size 41 2 v l.length (stepsV l) ∧ AlnR R x y l x.size y.size ∧ Below w.heap.size w w'
set_option maxRecDepth 100000 in
set_option maxHeartbeats 4000000 in
theorem Align_bad (a : Option Addr) (g o c n : Nat) (R : RB) (w : World) (hN : R.cls.length = n) (hk : SK w a g o R.cls) (hc : n ≤ c) (ht : Thn R) (x y : ByteArray) (hx : x.size ≤ 1000) (hy : y.size ≤ 1000) (v : Nat) (hv : chkN R [x, y] = v) (h0 : v ≠ 0) : Calls Try.prog 9 #[rulesV a n c R.soft R.al R.ot R.sk R.ss R.db, .string x, .string y] w fun e w' => e = .returned (.tuple #[.slice none 0 0, .int .i64 (v : Nat)]) ∧ Below w.heap.size w w' := by
  have CK := Lib.hid (fun W b (hW : Below w.heap.size w W) (hb : Blk W b #[.string x, .string y] 9) => check_any a g o c n R W hN (hk.below hW) hc ht (some ⟨b, 0, none⟩) b 0 2 2 [x, y] rfl (sk2 hb) (by omega) (fun s hs => by simp at hs; rcases hs with rfl | rfl <;> assumption))
  rw [hv] at CK
  have t0 : ((v : Int) == 0) = false := by simp; omega
  have t1 : ((v : Int) != 0) = true := by simp; omega
  clear hk ht hN hx hy hv h0
  have s0 := (KS.start w).new (rulesC a n c R.soft R.al R.ot R.sk R.ss R.db) 27
  obtain ⟨kb0_0, kb0_1, kb0_2, kb0_3, kb0_4, kb0_5, kb0_6⟩ := (s0.blkAt 0 rfl).c7
  have S0 := Lib.hid s0
  clear s0
  go_enter Try.func9, Try.ntmps9
  go_wp2_with fail
  refine (CK.out _ (w.heap.size + 1) ((S0.out.bel).alloc S0.out.size _) (two_new w _ _ _ _).2.1).mono ?_
  rintro e w1 ⟨rfl, h1⟩
  clear kb0_0 kb0_1 kb0_2 kb0_3 kb0_4 kb0_5 kb0_6
  have s1 := (S0.out.alloc (.cells #[.string x, .string y] 9)).below h1
  have S1 := Lib.hid s1
  clear h1 s1
  go_wp2_with fail
  go_ret2
  exact ⟨rfl, S1.out.bel⟩
set_option maxRecDepth 100000 in
set_option maxHeartbeats 8000000 in
theorem Align_good (a : Option Addr) (g o c n : Nat) (R : RB) (w : World) (hN : R.cls.length = n) (hk : SK w a g o R.cls) (hc : n ≤ c) (ht : Thn R) (x y : ByteArray) (hx : x.size ≤ 1000) (hy : y.size ≤ 1000) (hv : chkN R [x, y] = 0) : Calls Try.prog 9 #[rulesV a n c R.soft R.al R.ot R.sk R.ss R.db, .string x, .string y] w (AlP R x y w) := by
  refine (callsIn_wide (n := 8)).1 ?_
  have CK := Lib.hid (fun W b (hW : Below w.heap.size w W) (hb : Blk W b #[.string x, .string y] 9) => check_any a g o c n R W hN (hk.below hW) hc ht (some ⟨b, 0, none⟩) b 0 2 2 [x, y] rfl (sk2 hb) (by omega) (fun s hs => by simp at hs; rcases hs with rfl | rfl <;> assumption))
  rw [hv] at CK
  obtain ⟨hg, hxy⟩ := chkN_ok hv
  obtain ⟨gx1, gx2⟩ := hxy x (by simp)
  obtain ⟨gy1, gy2⟩ := hxy y (by simp)
  have CD := Lib.hid (fun W (hW : Below w.heap.size w W) => duel_ok a g o c n R W hN (hk.below hW) hc ht hg x y)
  have CC := Lib.hid (fun d mb i j W hi hj (hm : Memo W mb (cR R x y)) (hd : DuelR W d a n c R x y mb) => cost_ok hg gx2 gx1 gy2 gy1 d i j a n c mb hi hj W hm hd)
  have HXY := Lib.hid (And.intro (name_of gx2 gx1) (name_of gy2 gy1))
  have H12 := Lib.hid (And.intro gx1 gy1)
  have HBD := Lib.hid (hg.bnd gx1 gy1)
  obtain ⟨i0, hi0, hz0, hz1, hz2⟩ := info_parts tInfo122
  have HI := Lib.hid (And.intro hi0 (And.intro hz0 (And.intro hz1 hz2)))
  clear hi0 hz0 hz1 hz2
  clear hk ht hN hx hy hv hg hxy gx1 gx2 gy1 gy2
  have s0 := (KS.start w).new (rulesC a n c R.soft R.al R.ot R.sk R.ss R.db) 27
  obtain ⟨kb0_0, kb0_1, kb0_2, kb0_3, kb0_4, kb0_5, kb0_6⟩ := (s0.blkAt 0 rfl).c7
  have S0 := Lib.hid s0
  clear s0
  refine callsIn_of_wp_marks Try.func9 rfl trivial ?_ rfl
  simp only [Try.ntmps9, List.size_toArray, List.length_cons, List.length_nil, Nat.reduceAdd, Nat.reduceSub, Array.replicate_succ, Array.replicate_zero, List.push_toArray, List.append_toArray, List.nil_append, List.cons_append]
  gi_wp2_with (refine ⟨trivial, ?_⟩; gi_at_call 16; (with_reducible refine (callsIn_wide.2 (CK.out _ (w.heap.size + 1) ((S0.out.bel).alloc S0.out.size _) (two_new w _ _ _ _).2.1)).mono ?_); rintro e w1 ⟨rfl, h1⟩; clear kb0_0 kb0_1 kb0_2 kb0_3 kb0_4 kb0_5 kb0_6; have s1 := (S0.out.alloc (.cells #[.string x, .string y] 9)).below h1; obtain ⟨kb0_0, kb0_1, kb0_2, kb0_3, kb0_4, kb0_5, kb0_6⟩ := (s1.blkAt 0 rfl).c7; have S1 := Lib.hid s1; clear h1 s1)
  gi_wp2_with (refine ⟨trivial, ?_⟩; gi_at_call 17; (with_reducible refine (callsIn_wide.2 (CD.out _ S1.out.bel)).mono ?_); rintro e w2 ⟨d, mb, rfl, hd, hm, h1, h2, h3⟩; have S2 := Lib.hid (S1.out.below h3); have HD := Lib.hid hd; have HM := Lib.hid hm; have HM1 := Lib.hid h1; have HM2 := Lib.hid h2; clear kb0_0 kb0_1 kb0_2 kb0_3 kb0_4 kb0_5 kb0_6 hd hm h1 h2 h3)
  obtain ⟨n1, n2, n3, n4, n5⟩ := three_newA w2 #[.pointer (some ⟨d, 0, none⟩)] #[.slice none 0 0] #[.int .i64 0, .int .i64 0] 49 35 53
  have hs1 := S1.out.size
  have hs2 := S2.out.size
  have hd2 := HD.out.duel.lt
  have hm2 := HM.out.lt
  have hm1 := HM1.out
  have hm3 := HM2.out
  have hA0 : AlS w (w2.heap.size + 2) w2.heap.size (w2.heap.size + 1) d mb a n c R x y (.slice none 0 0) [] (w2.heap.size + 2) 0 0 (w2.heap.size + 3) [] (((w2.alloc (.cells #[.pointer (some ⟨d, 0, none⟩)] 49)).alloc (.cells #[.slice none 0 0] 35)).alloc (.cells #[.int .i64 0, .int .i64 0] 53)) :=
    ⟨n1, n2, n3, World.ownsRow_nil _ _ _ _, HD.out.below n5, HM.out.below n5 hm2, S2.out.bel.trans (n5.mono hs2), by omega, by omega, trivial, by omega, by omega⟩
  have hsd : AlB w (w2.heap.size + 2) w2.heap.size (w2.heap.size + 1) d mb := ⟨by omega, by omega, by omega, by omega, by omega, by omega⟩
  have HA0 := Lib.hid hA0
  have HSD := Lib.hid hsd
  clear hA0 hsd n1 n2 n3 n4 n5 hs1 hs2 hd2 hm2 hm1 hm3 HD HM HM1 HM2
  refine wpIn_loop (AlI w (w2.heap.size + 2) w2.heap.size (w2.heap.size + 1) d mb a n c R x y) (muA (x.size + y.size)) ?start ?round
  case start => exact ⟨_, [], w2.heap.size + 2, 0, 0, w2.heap.size + 3, [], rfl, rfl, rfl, rfl, rfl, Lib.hid ⟨HA0.out, .nil R x y⟩⟩
  case round =>
    clear HA0 S0 S1 S2 CK CD
    generalize w2.heap.size + 2 = Bb at *
    generalize w2.heap.size + 1 = Bo at *
    generalize w2.heap.size = Bd at *
    rintro ⟨tm, ds⟩ wr ⟨v, l, Bc, i, j, top, ds2, hsz, h9, h10, h11, hds, HP⟩
    have HMU := Lib.hid (muA_eq (N := x.size + y.size) h11 HP.out.1.bc)
    dsimp only at hsz h9 h10 h11 hds
    obtain ⟨v0, v1, v2, v3, v4, v5, v6, v7, v8, v9, v10, v11, v12, v13, v14, v15, v16, v17, v18, v19, v20, v21, v22, v23, v24, v25, v26, v27, v28, v29, v30, v31, v32, v33, v34, v35, v36, v37, v38, v39, v40, v41, v42, v43, v44, v45, v46, v47, v48, v49, v50, v51, v52, v53, v54, v55, rfl⟩ := arr56 hsz
    obtain rfl : v9 = .pointer (some ⟨Bd, 0, none⟩) := Option.some.inj h9
    obtain rfl : v10 = .pointer (some ⟨Bo, 0, none⟩) := Option.some.inj h10
    obtain rfl : v11 = .pointer (some ⟨Bc, 0, none⟩) := Option.some.inj h11
    clear hsz h9 h10 h11
    subst hds
    obtain ⟨lw1, lw2, lw3⟩ := len_way HP.out.2.1
    have k9 := HP.out.1.bd.c1.1
    obtain ⟨c0, c1, _⟩ := HP.out.1.bc.c2
    have CO := Lib.hid (over_any d a n c R.soft R.al.toNat R.ot.toNat R.sk.toNat R.ss.toNat R.db.toNat x y (sndR R) mb wr HP.out.1.duel.duel i j lw2 lw3)
    by_cases hov : i = x.size ∧ j = y.size
    · rw [decide_eq_true hov] at CO
      have HOV := Lib.hid hov
      clear hov
      gi_wp2_with (refine ⟨trivial, ?_⟩; gi_at_call 25; (with_reducible refine (callsIn_wide.2 CO.out).mono ?_); rintro e w5 ⟨rfl, hb⟩; have HA := Lib.hid (HP.out.1.below hb); clear hb; have k10 := HA.out.bo.c1.1)
      refine leaves_marks (by simp) _ top _ HA.out.marks (fun W' hb' hk' => ?_)
      refine ⟨_, results_tmp2 rfl _ _ _, v, l, rfl, ?_, ?_, ?_⟩
      · exact Joins.ownsRow_le (ownsRow_kp HA.out.row hk') (Nat.le_trans HSD.out.bd.1 (Nat.le_of_lt HSD.out.bd.2))
      · have h := HP.out.2
        rwa [HOV.out.1, HOV.out.2] at h
      · exact HA.out.bel.trans (hb'.mono (Nat.le_trans HSD.out.bd.1 (Nat.le_of_lt HSD.out.bd.2)))
    · rw [decide_eq_false hov] at CO
      have hno : i < x.size ∨ j < y.size := by omega
      have HNO := Lib.hid hno
      clear hov hno
      gi_wp2_with (first
        | (refine ⟨trivial, ?_⟩; gi_at_call 25; (with_reducible refine (callsIn_wide.2 CO.out).mono ?_); rintro e w5 ⟨rfl, hb⟩; have HA := Lib.hid (HP.out.1.below hb); clear hb k9 c0 c1; have k9 := HA.out.bd.c1.1; obtain ⟨c0, c1, _⟩ := HA.out.bc.c2)
        | (refine ⟨trivial, ?_⟩; gi_at_call 26; (with_reducible refine (callsIn_wide.2 (steps_any _ _ _ _)).mono ?_); rintro e w6 ⟨rfl, rfl⟩))
      obtain ⟨g1, g2, _, g4⟩ := two_new w5 #[.pointer (some ⟨d, 0, none⟩)] #[.int .i64 i, .int .i64 j] 49 53
      have hA6 := (HA.out.below ((Below.refl _ w5).alloc (Nat.le_refl _) (.cells #[.pointer (some ⟨d, 0, none⟩)] 49))).below ((Below.refl _ _).alloc (Nat.le_refl _) (.cells #[.int .i64 i, .int .i64 j] 53))
      have htp := HA.out.tp
      have hbb := HA.out.bb
      have hlv : ∀ k, v.ownBlock = some k → k < w5.heap.size := fun k e => (HA.out.row.lt k e).2
      have HLV := Lib.hid hlv
      clear k9 c0 c1 hlv HA
      generalize hW0 : ((w5.alloc (.cells #[.pointer (some ⟨d, 0, none⟩)] 49)).alloc (.cells #[.int .i64 i, .int .i64 j] 53)) = W0 at *
      clear hW0
      generalize w5.heap.size = B1 at *
      have g4a := Nat.le_of_eq g4
      have g4b := Nat.le_of_eq g4.symm
      clear g4
      have HSDo := HSD.out
      have sd1 := HSDo.mb
      have sd2 := HSDo.bd
      have sd3 := HSDo.bo
      have hEd : ¬ d = mb := hA6.duel.ne_memo hA6.memo
      clear HSDo
      refine wpIn_rangeFunc_ownH rfl (by omega) (gf := 48) (lb := #[.pointer (some ⟨B1, 0, none⟩), .pointer (some ⟨B1 + 1, 0, none⟩)]) rfl trivial (enters_of Try.func48 (by kernel_rfl) rfl)
        (steps_stops (fun k => k = mb) d B1 (B1 + 1) i j a n c R.soft R.al.toNat R.ot.toNat R.sk.toNat R.ss.toNat R.db.toNat x y (sndR R) mb W0 lw2 lw3 HXY.out.1 HXY.out.2 (fun k hk => by subst hk; omega) hEd (by omega) (by omega) hA6.duel g1 g2 7)
        (fun h k => h.trans k) (fun W l ob ob' _ h hc _ => KpE.putObj l ob ob' h hc) (Below.refl _ _) (fun _ => rfl)
        (fun pre W => AlS w Bb Bd Bo d mb a n c R x y v l Bc i j top ds W ∧ (∀ u, u ∈ pre → u.1.2 + cR R x y (Nm.aft (i, j) u.1.1).1 (Nm.aft (i, j) u.1.1).2 ≠ cR R x y i j) ∧ B1 + 1 < W.heap.size)
        (fun c' pre W => c' = .exit 2 ∧ ∃ pre0 t v', pre = pre0 ++ [t] ∧ (∀ u, u ∈ pre0 → u.1.2 + cR R x y (Nm.aft (i, j) u.1.1).1 (Nm.aft (i, j) u.1.1).2 ≠ cR R x y i j) ∧ t.1.2 + cR R x y (Nm.aft (i, j) t.1.1).1 (Nm.aft (i, j) t.1.1).2 = cR R x y i j ∧ AlS w Bb Bd Bo d mb a n c R x y v' (l ++ [t.1.1]) Bc (Nm.aft (i, j) t.1.1).1 (Nm.aft (i, j) t.1.1).2 top ds W)
        (fun st X Y row ⟨h1, h2, h3⟩ hg hr => ⟨h1.own hg (B := W0.heap.size) (by omega) (by omega) (by omega) hr, h2, Nat.lt_of_lt_of_le h3 hg.size⟩)
        (fun c' st X Y row ⟨e, p0, t, v', h1, h2, h3, h4⟩ hg hr => ⟨e, p0, t, v', h1, h2, h3, h4.own hg (B := W0.heap.size) (by omega) (by omega) (by omega) hr⟩)
        ⟨hA6, fun u hu => (by simp at hu), by omega⟩
        (fun t a' W => ∃ Bs, B1 + 1 < Bs ∧ a'.tmps.size = 56 ∧ a'.tmps[9]? = some (.pointer (some ⟨Bd, 0, none⟩)) ∧ a'.tmps[10]? = some (.pointer (some ⟨Bo, 0, none⟩)) ∧ a'.tmps[11]? = some (.pointer (some ⟨Bc, 0, none⟩)) ∧ a'.tmps[12]? = some (.pointer (some ⟨Bs, 0, none⟩)) ∧ a'.tmps[13]? = some (.int .i64 (t.1.2 : Nat)) ∧ a'.defers = [] ∧ Blk W Bs #[.int .i64 t.1.1.1, .int .i64 t.1.1.2] 41)
        (fun t a' st X Y row hs hg hr => by
          obtain ⟨Bs, h0, h1, h2, h3, h4, h5, h6, h7, h8⟩ := hs
          refine ⟨Bs, h0, h1, h2, h3, h4, h5, h6, h7, h8.kept hg (fun e => ?_)⟩
          obtain ⟨ob, ho, hc⟩ := (hr Bs e.symm).2
          have h2' : X.heap[Bs]? = _ := h8
          rw [h2'] at ho; cases ho; cases hc)
        ?assign ?body ?done ?stop
      case assign =>
        rintro lp pre t W K ⟨b1, b2, hlW⟩ hK
        have HK := Lib.hid hK
        have HB1 := Lib.hid b1
        have HB2 := Lib.hid b2
        clear hK b1 b2
        gi_wp2
        refine HK.out _ _ ?_ ?_ ?_ ?_
        · exact (KeepsOthers.alloc _ _).from _
        · exact KpE.below ((Below.refl _ _).alloc (Nat.le_refl _) _)
        · exact ⟨HB1.out.below ((Below.refl _ _).alloc (Nat.le_refl _) _), HB2.out, by rw [World.size_alloc]; omega⟩
        · exact ⟨W.heap.size, hlW, rfl, rfl, rfl, rfl, rfl, rfl, rfl, Blk.new _ _ _⟩
      case body =>
        rintro lp pre t ⟨tm, df⟩ W hl ⟨r, hr⟩ ⟨b1, b2, b3⟩ ⟨Bs, hBs, hsz, h9, h10, h11, h12, h13, hdf, bs⟩ hlt
        dsimp only at hsz h9 h10 h11 h12 h13 hdf
        subst hdf
        obtain ⟨u0, u1, u2, u3, u4, u5, u6, u7, u8, u9, u10, u11, u12, u13, u14, u15, u16, u17, u18, u19, u20, u21, u22, u23, u24, u25, u26, u27, u28, u29, u30, u31, u32, u33, u34, u35, u36, u37, u38, u39, u40, u41, u42, u43, u44, u45, u46, u47, u48, u49, u50, u51, u52, u53, u54, u55, rfl⟩ := arr56 hsz
        obtain rfl : u9 = .pointer (some ⟨Bd, 0, none⟩) := Option.some.inj h9
        obtain rfl : u10 = .pointer (some ⟨Bo, 0, none⟩) := Option.some.inj h10
        obtain rfl : u11 = .pointer (some ⟨Bc, 0, none⟩) := Option.some.inj h11
        obtain rfl : u12 = .pointer (some ⟨Bs, 0, none⟩) := Option.some.inj h12
        obtain rfl : u13 = .int .i64 (t.1.2 : Nat) := Option.some.inj h13
        clear hsz h9 h10 h11 h12 h13
        have hmem : t.1 ∈ stR R x y i j := t.2
        obtain ⟨q1, q2, q3⟩ := aft_R hmem lw2 lw3
        have CA := Lib.hid (fun W => after_any R.soft R.al.toNat R.ot.toNat R.sk.toNat R.ss.toNat R.db.toNat x y (sndR R) i j t.1 t.2 lw2 lw3 (by have := H12.out.1; omega) (by have := H12.out.2; omega) W)
        have CI := Lib.hid (fun W (hm : Memo W mb (cR R x y)) (hd : DuelR W d a n c R x y mb) => CC.out d mb (Nm.aft (i, j) t.1.1).1 (Nm.aft (i, j) t.1.1).2 W q1 q2 hm hd)
        have CJ := Lib.hid (fun W (hm : Memo W mb (cR R x y)) (hd : DuelR W d a n c R x y mb) => CC.out d mb i j W lw2 lw3 hm hd)
        have hm1 : t.1.2 ≤ 100 := HBD.out.2.1 i j t.1 t.2
        have hc1 : cR R x y (Nm.aft (i, j) t.1.1).1 (Nm.aft (i, j) t.1.1).2 ≤ 2400 := HBD.out.1 _ _
        have hc2 : cR R x y i j ≤ 2400 := HBD.out.1 _ _
        obtain ⟨cv, hcv⟩ : ∃ cv, cR R x y (Nm.aft (i, j) t.1.1).1 (Nm.aft (i, j) t.1.1).2 = cv := ⟨_, rfl⟩
        obtain ⟨cw, hcw⟩ : ∃ cw, cR R x y i j = cw := ⟨_, rfl⟩
        obtain ⟨m, hmm⟩ : ∃ m, t.1.2 = m := ⟨_, rfl⟩
        simp only [hcv] at CI hc1
        simp only [hcw] at CJ hc2
        rw [hmm] at hm1 ⊢
        obtain ⟨tb, d1⟩ : ∃ tb : Bool, (((m : Int) + (cv : Int)) == (cw : Int)) = tb := ⟨_, rfl⟩
        have d2 : decide ((m : Int) + (cv : Int) = (cw : Int)) = tb := d1
        have d3 : decide (m + cv = cw) = tb := by rw [← d2, decide_eq_decide]; omega
        have d4 : (m + cv == cw) = tb := d3
        have e1 : IntKind.i64.wrap ((m : Int) + (cv : Int)) = (m : Int) + (cv : Int) := by rw [IntWalk.i64_in _ (by omega)]
        have hmbw : w.heap.size ≤ mb := sd1.1
        have hmbB : mb < W0.heap.size := by omega
        have HSV := Lib.hid (And.intro hcv (And.intro hcw (And.intro hmm d1)))
        have HB2 := Lib.hid b2
        have R0 : ∀ W', AlR w Bb Bd Bo d mb a n c R x y v l Bc i j top ds W W0.heap.size Bs t.1.1.1 t.1.1.2 W' → W'.cell? ⟨Bd, 0, none⟩ = some (.pointer (some ⟨d, 0, none⟩)) := fun W' h => h.al.bd.cell 0
        have R1 : ∀ W', AlR w Bb Bd Bo d mb a n c R x y v l Bc i j top ds W W0.heap.size Bs t.1.1.1 t.1.1.2 W' → W'.cell? ⟨Bc, 0, none⟩ = some (.int .i64 i) := fun W' h => h.al.bc.cell 0
        have R2 : ∀ W', AlR w Bb Bd Bo d mb a n c R x y v l Bc i j top ds W W0.heap.size Bs t.1.1.1 t.1.1.2 W' → W'.cell? ⟨Bc, 1, none⟩ = some (.int .i64 j) := fun W' h => h.al.bc.cell 1
        have R3 : ∀ W', AlR w Bb Bd Bo d mb a n c R x y v l Bc i j top ds W W0.heap.size Bs t.1.1.1 t.1.1.2 W' → W'.cell? ⟨Bs, 0, none⟩ = some (.int .i64 t.1.1.1) := fun W' h => h.bs.cell 0
        have R4 : ∀ W', AlR w Bb Bd Bo d mb a n c R x y v l Bc i j top ds W W0.heap.size Bs t.1.1.1 t.1.1.2 W' → W'.cell? ⟨Bs, 1, none⟩ = some (.int .i64 t.1.1.2) := fun W' h => h.bs.cell 1
        have hS0 : AlR w Bb Bd Bo d mb a n c R x y v l Bc i j top ds W W0.heap.size Bs t.1.1.1 t.1.1.2 W := ⟨b1, bs, KeepsFrom.refl _ _, KpE.below (Below.refl _ _)⟩
        have hS1 := hS0.below (Below.refl _ W).drew
        clear hcv hcw hmm b1 b2 bs hmem q1 q2 q3 hm1 hc1 hc2 hS0
        gi_wp2_with fail
        refine wpIn_mono (wpIn_region_round (S := (AlR w Bb Bd Bo d mb a n c R x y v l Bc i j top ds W W0.heap.size Bs t.1.1.1 t.1.1.2)) (Q := fun e a2 W2 => e = .normal ∧ a2.tmps.size = 56 ∧ a2.tmps[9]? = some (.pointer (some ⟨Bd, 0, none⟩)) ∧ a2.tmps[10]? = some (.pointer (some ⟨Bo, 0, none⟩)) ∧ a2.tmps[11]? = some (.pointer (some ⟨Bc, 0, none⟩)) ∧ a2.tmps[12]? = some (.pointer (some ⟨Bs, 0, none⟩)) ∧ a2.tmps[46]? = some (.bool tb) ∧ a2.defers = [] ∧ AlR w Bb Bd Bo d mb a n c R x y v l Bc i j top ds W W0.heap.size Bs t.1.1.1 t.1.1.2 W2) (by kernel_rfl) (by kernel_rfl) (fun ⟨_, _, h⟩ => (by cases h.1)) hS1 (fun hHeld => ?_)) ?_
        · clear hS1
          refine wpAnyH_take (i := 0) (v := ?_) rfl (by kernel_rfl) (by kernel_rfl) (by kernel_rfl) (fun _ _ _ h => (by cases h.1)) (Or.inl ⟨by rfl, ?h0⟩) hHeld ?_
          case h0 =>
            intro w' hSw
            (try dsimp only at hSw)
            go_simp
            (try with_reducible rfl)
          (try simp only [Act.put]); (try simp only [List.setIfInBounds_toArray]); (try simp only [List.set_cons_succ]); (try simp only [List.set_cons_zero])
          refine wpAnyH_take (i := 1) (v := ?_) rfl (by kernel_rfl) (by kernel_rfl) (by kernel_rfl) (fun _ _ _ h => (by cases h.1)) (Or.inl ⟨by rfl, ?h1⟩) hHeld ?_
          case h1 =>
            intro w' hSw
            (try dsimp only at hSw)
            go_simp
            (try with_reducible rfl)
          (try simp only [Act.put]); (try simp only [List.setIfInBounds_toArray]); (try simp only [List.set_cons_succ]); (try simp only [List.set_cons_zero])
          refine wpAnyH_take (i := 2) (v := ?_) rfl (by kernel_rfl) (by kernel_rfl) (by kernel_rfl) (fun _ _ _ h => (by cases h.1)) (Or.inl ⟨by rfl, ?h2⟩) hHeld ?_
          case h2 =>
            intro w' hSw
            (try dsimp only at hSw)
            go_simp
            (try with_reducible rfl)
          (try simp only [Act.put]); (try simp only [List.setIfInBounds_toArray]); (try simp only [List.set_cons_succ]); (try simp only [List.set_cons_zero])
          refine wpAnyH_take (i := 3) (v := ?_) rfl (by kernel_rfl) (by kernel_rfl) (by kernel_rfl) (fun _ _ _ h => (by cases h.1)) (Or.inl ⟨by rfl, ?h3⟩) hHeld ?_
          case h3 =>
            intro w' hSw
            (try dsimp only at hSw)
            go_simp
            (try with_reducible rfl)
          (try simp only [Act.put]); (try simp only [List.setIfInBounds_toArray]); (try simp only [List.set_cons_succ]); (try simp only [List.set_cons_zero])
          refine wpAnyH_take (i := 7) (v := ?_) rfl (by kernel_rfl) (by kernel_rfl) (by kernel_rfl) (fun _ _ _ h => (by cases h.1)) (Or.inl ⟨by rfl, ?h7⟩) hHeld ?_
          case h7 =>
            intro w' hSw
            (try dsimp only at hSw)
            go_simp
            (try with_reducible rfl)
          (try simp only [Act.put]); (try simp only [List.setIfInBounds_toArray]); (try simp only [List.set_cons_succ]); (try simp only [List.set_cons_zero])
          refine wpAnyH_take (i := 8) (v := ?_) rfl (by kernel_rfl) (by kernel_rfl) (by kernel_rfl) (fun _ _ _ h => (by cases h.1)) (Or.inl ⟨by rfl, ?h8⟩) hHeld ?_
          case h8 =>
            intro w' hSw
            (try dsimp only at hSw)
            go_simp
            (try with_reducible rfl)
          (try simp only [Act.put]); (try simp only [List.setIfInBounds_toArray]); (try simp only [List.set_cons_succ]); (try simp only [List.set_cons_zero])
          refine wpAnyH_ready (rs := [4]) (by kernel_rfl) (by simp) ?_
          refine AllReadyH.cons rfl (fun K hK => ?_) (AllReadyH.nil)
          go_simp
          (with_reducible refine (CA.out _).mono ?_)
          rintro e wn ⟨rfl, hb⟩
          have hSn := hHeld.below hb
          clear hb hHeld
          refine hK.out _ _ hSn (fun hHeld => ?_)
          clear hK K hSn
          (try simp only [Act.put]); (try simp only [List.setIfInBounds_toArray]); (try simp only [List.set_cons_succ]); (try simp only [List.set_cons_zero])
          refine wpAnyH_ready (rs := [5]) (by kernel_rfl) (by simp) ?_
          refine AllReadyH.cons rfl (fun K hK => ?_) (AllReadyH.nil)
          go_simp
          (with_reducible refine (CI.out _ hHeld.al.memo hHeld.al.duel).mono ?_)
          rintro e wn ⟨rfl, hm, hg⟩
          have hSn := hHeld.after hm hg hmbw hmbB
          clear hm hg hHeld
          refine hK.out _ _ hSn (fun hHeld => ?_)
          clear hK K hSn
          (try simp only [Act.put]); (try simp only [List.setIfInBounds_toArray]); (try simp only [List.set_cons_succ]); (try simp only [List.set_cons_zero])
          refine wpAnyH_take (i := 6) (v := ?_) rfl (by kernel_rfl) (by kernel_rfl) (by kernel_rfl) (fun _ _ _ h => (by cases h.1)) (Or.inl ⟨by rfl, ?h6⟩) hHeld ?_
          case h6 =>
            intro w' hSw
            (try dsimp only at hSw)
            go_simp
            (try with_reducible rfl)
          (try simp only [Act.put]); (try simp only [List.setIfInBounds_toArray]); (try simp only [List.set_cons_succ]); (try simp only [List.set_cons_zero])
          refine wpAnyH_ready (rs := [9]) (by kernel_rfl) (by simp) ?_
          refine AllReadyH.cons rfl (fun K hK => ?_) (AllReadyH.nil)
          go_simp
          (with_reducible refine (CJ.out _ hHeld.al.memo hHeld.al.duel).mono ?_)
          rintro e wn ⟨rfl, hm, hg⟩
          have hSn := hHeld.after hm hg hmbw hmbB
          clear hm hg hHeld
          refine hK.out _ _ hSn (fun hHeld => ?_)
          clear hK K hSn
          (try simp only [Act.put]); (try simp only [List.setIfInBounds_toArray]); (try simp only [List.set_cons_succ]); (try simp only [List.set_cons_zero])
          refine wpAnyH_take (i := 10) (v := ?_) rfl (by kernel_rfl) (by kernel_rfl) (by kernel_rfl) (fun _ _ _ h => (by cases h.1)) (Or.inl ⟨by rfl, ?h10⟩) hHeld ?_
          case h10 =>
            intro w' hSw
            (try dsimp only at hSw)
            go_simp
            (try with_reducible rfl)
          (try simp only [Act.put]); (try simp only [List.setIfInBounds_toArray]); (try simp only [List.set_cons_succ]); (try simp only [List.set_cons_zero])
          refine wpAnyH_done (by kernel_rfl) ?_ _
          exact ⟨rfl, rfl, rfl, rfl, rfl, rfl, rfl, rfl, hHeld⟩
        clear R0 R1 R2 R3 R4 CI CJ hS1 d1 d2 d3 d4 e1
        rintro e ⟨tm2, df2⟩ W2 ⟨rfl, hsz, h9, h10, h11, h12, h46, hdf, hR⟩
        dsimp only at hsz h9 h10 h11 h12 h46 hdf
        subst hdf
        obtain ⟨z0, z1, z2, z3, z4, z5, z6, z7, z8, z9, z10, z11, z12, z13, z14, z15, z16, z17, z18, z19, z20, z21, z22, z23, z24, z25, z26, z27, z28, z29, z30, z31, z32, z33, z34, z35, z36, z37, z38, z39, z40, z41, z42, z43, z44, z45, z46, z47, z48, z49, z50, z51, z52, z53, z54, z55, rfl⟩ := arr56 hsz
        obtain rfl : z9 = .pointer (some ⟨Bd, 0, none⟩) := Option.some.inj h9
        obtain rfl : z10 = .pointer (some ⟨Bo, 0, none⟩) := Option.some.inj h10
        obtain rfl : z11 = .pointer (some ⟨Bc, 0, none⟩) := Option.some.inj h11
        obtain rfl : z12 = .pointer (some ⟨Bs, 0, none⟩) := Option.some.inj h12
        obtain rfl : z46 = .bool tb := Option.some.inj h46
        clear hsz h9 h10 h11 h12 h46
        have HR := Lib.hid hR
        clear hR
        cases tb with
        | false =>
          gi_wp2
          refine ⟨HR.out.kf, HR.out.kp, HR.out.al, fun u hu => ?_, Nat.lt_of_lt_of_le b3 HR.out.kf.size⟩
          rcases List.mem_append.1 hu with h | h
          · exact HB2.out u h
          · simp only [List.mem_singleton] at h
            subst h
            have h5 := HSV.out.2.2.2
            rw [HSV.out.1, HSV.out.2.1, HSV.out.2.2.1]
            intro e
            rw [beq_eq_false_iff_ne] at h5
            omega
        | true =>
          have hA2 := HR.out.al.below ((Below.refl _ W2).alloc (Nat.le_refl _) (.cells #[.int .i64 t.1.1.1, .int .i64 t.1.1.2] 41))
          have HA2 := Lib.hid hA2
          have k10 := HR.out.al.bo.c1.1
          have s0 := HR.out.bs.c2.1
          have s1 := HR.out.bs.c2.2.1
          have hlen : l.length ≤ 24 := by have := H12.out; omega
          have hbW := hA2.bb
          have hi := HI.out.1
          have hz0 := HI.out.2.1
          have hz1 := HI.out.2.2.1
          have hz2 := HI.out.2.2.2
          have hneBs : ∀ k, v.ownBlock = some k → k ≠ Bs := fun k e => by have := HLV.out k e; omega
          have HNB := Lib.hid hneBs
          clear hA2 hneBs
          gi_wp2_with (first
            | (gi_at_builtin; refine wpListIn_append_own _ rfl _ _ 35 rfl Bb 41 i0 _ 2 16 Try.underlying35 hi hz0 hz1 hz2 rfl (by decide) _ _ _ rfl HA2.out.row ⟨W2.heap.size, 0, none⟩ 1 1 [.int .i64 t.1.1.1, .int .i64 t.1.1.2] rfl rfl (news_two (by simp) (by simp)) (by simp [Value.oneCell']) (by unfold maxLen; omega) (by omega) hbW ?_; intro v' w5 hown hgrow _; obtain ⟨gq, cq, rfl⟩ := Joins.ownsRow_form hown (by omega); have hA5 := HA2.out.app HSD.out hown hgrow; have HA5 := Lib.hid hA5; obtain ⟨x1, x2, x3⟩ := HA2.out.grow HSD.out hgrow; have y1 := x1.c1; obtain ⟨y1, y2⟩ := y1; have y3 := x2.c2.1; have y4 := x2.c2.2.1; have y5 := (HR.out.bs.alloc (.cells #[.int .i64 t.1.1.1, .int .i64 t.1.1.2] 41)).kept hgrow (fun e => HNB.out _ e.symm rfl); have Y5 := Lib.hid y5; have y6 := y5.c2.1; have y7 := y5.c2.2.1; have y8 : Bc ≠ Bo := blk_ne x2 x1 (by decide); have y9 : Bs ≠ Bo := blk_ne y5 x1 (by decide); have y10 := y8.symm; have y11 := y9.symm; have HG := Lib.hid hgrow; clear hown hgrow hA5 x1 x2 x3 y5 k10 s0 s1)
            | (refine ⟨trivial, ?_⟩; gi_at_call 27; (with_reducible refine (callsIn_round (CA.out _)).mono ?_); rintro e w7 ⟨rfl, hb7⟩; have hA7 := HA5.out.below hb7; have HA7 := Lib.hid hA7; have HB7 := Lib.hid hb7; obtain ⟨y1, y2, y3, y4⟩ := hA7.bc.c2; clear hA7 hb7))
          have hcc := HSV.out.2.2.2
          have hcst : t.1.2 + cR R x y (Nm.aft (i, j) t.1.1).1 (Nm.aft (i, j) t.1.1).2 = cR R x y i j := by
            rw [HSV.out.1, HSV.out.2.1, HSV.out.2.2.1]
            rw [beq_iff_eq] at hcc
            omega
          have hW0 : ∀ k, v.ownBlock = some k → k < W0.heap.size := fun k e => by have := HLV.out k e; omega
          have hkf : KeepsFrom W0.heap.size W2 w7 := ((KeepsOthers.alloc _ _).from _).trans ((KeepsFrom.of_grownBy HG.out hW0).trans (((KeepsOthers.setCell _ _ _).from _).trans (keepsBelow HB7.out)))
          have n1 := blk_ne HA7.out.bd HA7.out.bc (by decide)
          refine ⟨HR.out.kf.trans (hkf.trans (((KeepsOthers.setCell _ _ _).from _).trans ((KeepsOthers.setCell _ _ _).from _))), rfl, pre, t, .slice (some ⟨gq, 0, none⟩) (l.length + 1) cq, rfl, HB2.out, hcst, ?_⟩
          exact HA7.out.setC (row := some Bc) ((Lib.grownBy_setCell _ _ _ _).trans' (Lib.grownBy_setCell _ _ _ _)) (fun r e => by cases e; rfl) ((HA7.out.bc.set 0 _).set 1 _) n1 y10
      case done =>
        rintro D ys W hD hys ⟨_, hF, _⟩ _
        obtain ⟨t, ht, hc⟩ := way_some lw2 lw3 HNO.out
        have hm : t ∈ ys.map (·.1) := by rw [hys]; exact ht
        obtain ⟨u, hu, rfl⟩ := List.mem_map.1 hm
        exact absurd hc (hF u hu)
      case stop =>
        rintro D c' pre W hD hSp ⟨rfl, pre0, t, v', rfl, hF, hc, hA⟩ hDW
        have hst : pre0.map (·.1) ++ [t.1] <+: stR R x y i j := by
          have h : (pre0 ++ [t]).map (·.1) <+: stR R x y i j := hSp
          rwa [List.map_append] at h
        have hmem : t.1 ∈ stR R x y i j := t.2
        have hq := aft_R hmem lw2 lw3
        have hal := HP.out.2.step hst (fun u hu => by obtain ⟨u', hu', rfl⟩ := List.mem_map.1 hu; exact hF u' hu') hc
        obtain ⟨c0, c1, _⟩ := hA.bc.c2
        have hA9 := (hA.mark (by omega) (by omega) hDW).newC
        have HA9 := Lib.hid hA9
        have HAL := Lib.hid hal
        have HQ := Lib.hid hq
        clear hA hA9 hal hSp hF hc hDW hst hmem hq
        generalize (Nm.aft (i, j) t.1.1).1 = i' at *
        generalize (Nm.aft (i, j) t.1.1).2 = j' at *
        generalize t.1.1 = st at *
        gi_wp2
        refine ⟨⟨v', l ++ [st], W.heap.size, i', j', W.heap.size, _, rfl, rfl, rfl, rfl, rfl, Lib.hid ⟨HA9.out, HAL.out⟩⟩, ?_⟩
        rw [HMU.out, muA_eq rfl HA9.out.bc]
        have := HQ.out
        omega
end Go.Proofs.Ytkdflgaahhnigaa
