/- sheet: Together, of two entries of a census that is consistent. -/
import Derived.Test.YtdfebccmjbocjaaGreatDoorYd
set_option linter.unusedVariables false
set_option linter.unusedSimpArgs false
namespace Go.Proofs.YtdfebccmjbocjaaGreatDoor
open Go.RowKit Go.Shelf
def TogPost (es : List Ent) (sm ap : List (Nat × Nat)) (om nu : Nat × Nat) (p : Nat × Nat) (w : World) (x : Ending) (w' : World) : Prop :=
  ∃ m1 L1 m2 L2, ReadOf es (sm ++ [p]) ap m1 L1 ∧ ReadOf es sm (ap ++ [p]) m2 L2 ∧ x = .returned (.tuple #[.bool (consB om nu m1 L1), .bool (!consB om nu m2 L2), .int .i64 0]) ∧ Below w.heap.size w w'
theorem CenOk.same {es : List Ent} {sm ap : List (Nat × Nat)} {om nu : Nat × Nat} (h : CenOk es sm ap om nu) {p : Nat × Nat} (h5 : sm.length ≤ 5) (h1 : p.1 < es.length) (h2 : p.2 < es.length) (hne : p.1 ≠ p.2) : CenOk es (sm ++ [p]) ap om nu :=
  ⟨h.n10, by simp; omega, h.a6, h.ent, fun q hq => by
    rcases List.mem_append.1 hq with hq | hq
    · exact h.sm q hq
    · simp at hq; subst hq; exact ⟨⟨h1, h2⟩, hne⟩, h.ap, h.om, h.nu⟩
theorem CenOk.apart {es : List Ent} {sm ap : List (Nat × Nat)} {om nu : Nat × Nat} (h : CenOk es sm ap om nu) {p : Nat × Nat} (h5 : ap.length ≤ 5) (h1 : p.1 < es.length) (h2 : p.2 < es.length) (hne : p.1 ≠ p.2) : CenOk es sm (ap ++ [p]) om nu :=
  ⟨h.n10, h.s6, by simp; omega, h.ent, h.sm, fun q hq => by
    rcases List.mem_append.1 hq with hq | hq
    · exact h.ap q hq
    · simp at hq; subst hq; exact ⟨⟨h1, h2⟩, hne⟩, h.om, h.nu⟩
set_option maxRecDepth 100000 in
set_option maxHeartbeats 8000000 in
theorem Together_ok (e s a : Loc) (es : List Ent) (sm ap : List (Nat × Nat)) (om nu : Nat × Nat) (p : Nat × Nat) (w : World) (hA : CenAt w e s a es sm ap) (hC : CenOk es sm ap om nu) (hT : ∀ m Lw, ReadOf es sm ap m Lw → consB om nu m Lw = true)
    (hs : s.a = none ∨ s.a = some ⟨s.b, s.o, none⟩) (ha : a.a = none ∨ a.a = some ⟨a.b, a.o, none⟩) (h5 : sm.length ≤ 5) (h5a : ap.length ≤ 5) (hp1 : p.1 < es.length) (hp2 : p.2 < es.length) (hne : p.1 ≠ p.2) :
    Calls Tryz.prog 17 #[cenL e s a es sm ap om nu, .int .i64 (p.1 : Int), .int .i64 (p.2 : Int)] w (TogPost es sm ap om nu p w) := by
  have s0 := (KS.start w).new (cenA (.slice e.a es.length e.c) (.slice s.a sm.length s.c) (.slice a.a ap.length a.c) (om.1 : Int) (om.2 : Int) (nu.1 : Int) (nu.2 : Int)) 54
  obtain ⟨q0, q1, q2, q3, q4, q5, q6⟩ := (s0.blkAt 0 rfl).c7
  have H0 := Lib.hid s0
  have HA := Lib.hid (hA.below s0.bel)
  have A0 := Lib.hid (fun W => within_s (p.1 : Int) 0 ((es.length : Int) - 1) W)
  have A1 := Lib.hid (fun W => within_s (p.2 : Int) 0 ((es.length : Int) - 1) W)
  have E0 : inB (p.1 : Int) 0 ((es.length : Int) - 1) = true := by simp [inB]; omega
  have E1 : inB (p.2 : Int) 0 ((es.length : Int) - 1) = true := by simp [inB]; omega
  rw [E0] at A0
  rw [E1] at A1
  have t1 : ((p.1 : Int) == (p.2 : Int)) = false := by simp; omega
  have n10 := hC.n10
  have TR := Lib.hid (fun W (hW : CenAt W e s a es sm ap) => tried_ok e s a es sm ap om nu W hW hC hT)
  have WS := Lib.hid (fun W (hW : CenAt W e s a es sm ap) => with_same e s a es sm ap om nu p W hW.s hs (by omega))
  have WA := Lib.hid (fun W (hW : CenAt W e s a es sm ap) => with_apart e s a es sm ap om nu p W hW.a ha (by omega))
  have CS := Lib.hid (fun W z (hW : CenAt W e s a es sm ap) (hz : SlP W z (sm ++ [p])) => cons_any e z a es (sm ++ [p]) ap om nu W ⟨hW.e, hz, hW.a, hW.gt, hW.one⟩ (hC.same h5 hp1 hp2 hne))
  have CA := Lib.hid (fun W z (hW : CenAt W e s a es sm ap) (hz : SlP W z (ap ++ [p])) => cons_any e s z es sm (ap ++ [p]) om nu W ⟨hW.e, hW.s, hz, hW.gt, hW.one⟩ (hC.apart h5a hp1 hp2 hne))
  clear hA hC hT s0 hs ha h5 h5a hp1 hp2 hne E0 E1
  go_enter Tryz.func17, Tryz.ntmps17
  go_wp2_with fail
  clear q0 q1 q2 q3 q4 q5 q6
  obtain ⟨W1, hW1⟩ : ∃ W1, W1 = w.alloc (.cells (cenA (.slice e.a es.length e.c) (.slice s.a sm.length s.c) (.slice a.a ap.length a.c) (om.1 : Int) (om.2 : Int) (nu.1 : Int) (nu.2 : Int)) 54) := ⟨_, rfl⟩
  rw [← hW1] at H0 HA
  change Code.wp _ _ _ _ (w.alloc (.cells (cenA (.slice e.a es.length e.c) (.slice s.a sm.length s.c) (.slice a.a ap.length a.c) (om.1 : Int) (om.2 : Int) (nu.1 : Int) (nu.2 : Int)) 54))
  rw [← hW1]
  clear hW1
  have H1 := Lib.hid H0.out.drew
  have HA1 := Lib.hid (HA.out.below (Below.refl _ _).drew)
  clear HA H0
  have hS := H1.out
  have c0 : ∀ W, KS w [(w.heap.size, (cenA (.slice e.a es.length e.c) (.slice s.a sm.length s.c) (.slice a.a ap.length a.c) (om.1 : Int) (om.2 : Int) (nu.1 : Int) (nu.2 : Int)), 54)] W → W.cell? ⟨w.heap.size, 0, none⟩ = some (.slice e.a es.length e.c) := fun W h => (h.blkAt 0 rfl).c7.1
  have c1 : ∀ W, KS w [(w.heap.size, (cenA (.slice e.a es.length e.c) (.slice s.a sm.length s.c) (.slice a.a ap.length a.c) (om.1 : Int) (om.2 : Int) (nu.1 : Int) (nu.2 : Int)), 54)] W → W.cell? ⟨w.heap.size, 1, none⟩ = some (.slice s.a sm.length s.c) := fun W h => (h.blkAt 0 rfl).c7.2.1
  have c2 : ∀ W, KS w [(w.heap.size, (cenA (.slice e.a es.length e.c) (.slice s.a sm.length s.c) (.slice a.a ap.length a.c) (om.1 : Int) (om.2 : Int) (nu.1 : Int) (nu.2 : Int)), 54)] W → W.cell? ⟨w.heap.size, 2, none⟩ = some (.slice a.a ap.length a.c) := fun W h => (h.blkAt 0 rfl).c7.2.2.1
  have c3 : ∀ W, KS w [(w.heap.size, (cenA (.slice e.a es.length e.c) (.slice s.a sm.length s.c) (.slice a.a ap.length a.c) (om.1 : Int) (om.2 : Int) (nu.1 : Int) (nu.2 : Int)), 54)] W → W.cell? ⟨w.heap.size, 3, none⟩ = some (.int .i64 (om.1 : Int)) := fun W h => (h.blkAt 0 rfl).c7.2.2.2.1
  have c4 : ∀ W, KS w [(w.heap.size, (cenA (.slice e.a es.length e.c) (.slice s.a sm.length s.c) (.slice a.a ap.length a.c) (om.1 : Int) (om.2 : Int) (nu.1 : Int) (nu.2 : Int)), 54)] W → W.cell? ⟨w.heap.size, 4, none⟩ = some (.int .i64 (om.2 : Int)) := fun W h => (h.blkAt 0 rfl).c7.2.2.2.2.1
  have c5 : ∀ W, KS w [(w.heap.size, (cenA (.slice e.a es.length e.c) (.slice s.a sm.length s.c) (.slice a.a ap.length a.c) (om.1 : Int) (om.2 : Int) (nu.1 : Int) (nu.2 : Int)), 54)] W → W.cell? ⟨w.heap.size, 5, none⟩ = some (.int .i64 (nu.1 : Int)) := fun W h => (h.blkAt 0 rfl).c7.2.2.2.2.2.1
  have c6 : ∀ W, KS w [(w.heap.size, (cenA (.slice e.a es.length e.c) (.slice s.a sm.length s.c) (.slice a.a ap.length a.c) (om.1 : Int) (om.2 : Int) (nu.1 : Int) (nu.2 : Int)), 54)] W → W.cell? ⟨w.heap.size, 6, none⟩ = some (.int .i64 (nu.2 : Int)) := fun W h => (h.blkAt 0 rfl).c7.2.2.2.2.2.2
  have cl : ∀ W, KS w [(w.heap.size, (cenA (.slice e.a es.length e.c) (.slice s.a sm.length s.c) (.slice a.a ap.length a.c) (om.1 : Int) (om.2 : Int) (nu.1 : Int) (nu.2 : Int)), 54)] W → w.heap.size < W.heap.size := fun W h => (h.blkAt 0 rfl).lt
  refine wp_joinZ (ι := Nat) (f := fun aa g => ((((((((((((((aa.put (some 14) (.tuple #[.pointer (some ⟨g, 0, none⟩), .int .i64 0])).put (some 15) ((cenL e s a es sm ap om nu))).put (some 16) (.int .i64 (p.1 : Int))).put (some 17) ((.int .i64 ((es.length : Int) - 1)))).put (some 18) (.bool true)).put (some 19) (.bool true)).put (some 20) (.int .i64 (p.2 : Int))).put (some 21) ((.int .i64 ((es.length : Int) - 1)))).put (some 22) (.bool true)).put (some 23) (.bool true)).put (some 24) (.tuple #[.pointer (some ⟨g, 0, none⟩), .int .i64 0])).put (some 25) (.pointer (some ⟨g, 0, none⟩))).put (some 26) (.int .i64 0)).put (some 8) (.int .i64 0))) (mid := fun _ W' => KS w [(w.heap.size, (cenA (.slice e.a es.length e.c) (.slice s.a sm.length s.c) (.slice a.a ap.length a.c) (om.1 : Int) (om.2 : Int) (nu.1 : Int) (nu.2 : Int)), 54)] W' ∧ CenAt W' e s a es sm ap) ?_ ?_
  · refine wp_region_held_drew (S := KS w [(w.heap.size, (cenA (.slice e.a es.length e.c) (.slice s.a sm.length s.c) (.slice a.a ap.length a.c) (om.1 : Int) (om.2 : Int) (nu.1 : Int) (nu.2 : Int)), 54)]) (by kernel_rfl) hS (fun hHeld => ?_)
    clear hS
    refine wpAnyH_take (i := 0) (v := ?_) rfl (by kernel_rfl) (by kernel_rfl) (by kernel_rfl) (fun _ _ _ h => (by cases h.1)) (Or.inl ⟨by rfl, ?h0⟩) hHeld ?_
    case h0 =>
      intro w' hSw
      (try dsimp only at hSw)
      go_simp
      (try with_reducible rfl)
    (try simp only [Act.put]); (try simp only [List.setIfInBounds_toArray]); (try simp only [List.set_cons_succ]); (try simp only [List.set_cons_zero])
    refine wpAnyH_take (i := 1) (v := ?_) rfl (by kernel_rfl) (by kernel_rfl) (by kernel_rfl) (fun _ _ _ h => (by cases h.1)) (Or.inl ⟨by rfl, ?h1⟩) hHeld ?_
    case h1 =>
      intro w' hSw
      (try dsimp only at hSw)
      go_simp
      (try with_reducible rfl)
    (try simp only [Act.put]); (try simp only [List.setIfInBounds_toArray]); (try simp only [List.set_cons_succ]); (try simp only [List.set_cons_zero])
    refine wpAnyH_take (i := 2) (v := ?_) rfl (by kernel_rfl) (by kernel_rfl) (by kernel_rfl) (fun _ _ _ h => (by cases h.1)) (Or.inl ⟨by rfl, ?h2⟩) hHeld ?_
    case h2 =>
      intro w' hSw
      (try dsimp only at hSw)
      go_simp
      (try with_reducible rfl)
    (try simp only [Act.put]); (try simp only [List.setIfInBounds_toArray]); (try simp only [List.set_cons_succ]); (try simp only [List.set_cons_zero])
    refine wpAnyH_ready (rs := [3]) (by kernel_rfl) (by simp) ?_
    refine AllReadyH.cons rfl (fun K hK => ?_) (AllReadyH.nil)
    go_simp
    refine (A0.out _).mono ?_
    rintro x wn ⟨rfl, rfl⟩
    refine hK.out _ _ hHeld (fun hHeld => ?_)
    clear hK K
    (try simp only [Act.put]); (try simp only [List.setIfInBounds_toArray]); (try simp only [List.set_cons_succ]); (try simp only [List.set_cons_zero])
    refine wpAnyH_take (i := 4) (v := ?_) rfl (by kernel_rfl) (by kernel_rfl) (by kernel_rfl) (fun _ _ _ h => (by cases h.1)) (Or.inl ⟨by rfl, ?h4⟩) hHeld ?_
    case h4 =>
      intro w' hSw
      (try dsimp only at hSw)
      go_simp
      (try with_reducible rfl)
    (try simp only [Act.put]); (try simp only [List.setIfInBounds_toArray]); (try simp only [List.set_cons_succ]); (try simp only [List.set_cons_zero])
    refine wpAnyH_take (i := 5) (v := ?_) rfl (by kernel_rfl) (by kernel_rfl) (by kernel_rfl) (fun _ _ _ h => (by cases h.1)) (Or.inl ⟨by kernel_rfl, ?h5⟩) hHeld ?_
    case h5 =>
      intro w' hSw
      (try dsimp only at hSw)
      go_simp
      (try with_reducible rfl)
    (try simp only [Act.put]); (try simp only [List.setIfInBounds_toArray]); (try simp only [List.set_cons_succ]); (try simp only [List.set_cons_zero])
    refine wpAnyH_take (i := 6) (v := ?_) rfl (by kernel_rfl) (by kernel_rfl) (by kernel_rfl) (fun _ _ _ h => (by cases h.1)) (Or.inl ⟨by kernel_rfl, ?h6⟩) hHeld ?_
    case h6 =>
      intro w' hSw
      (try dsimp only at hSw)
      go_simp
      (try with_reducible rfl)
    (try simp only [Act.put]); (try simp only [List.setIfInBounds_toArray]); (try simp only [List.set_cons_succ]); (try simp only [List.set_cons_zero])
    refine wpAnyH_ready (rs := [7]) (by kernel_rfl) (by simp) ?_
    refine AllReadyH.cons rfl (fun K hK => ?_) (AllReadyH.nil)
    go_simp
    refine (A1.out _).mono ?_
    rintro x wn ⟨rfl, rfl⟩
    refine hK.out _ _ hHeld (fun hHeld => ?_)
    clear hK K
    (try simp only [Act.put]); (try simp only [List.setIfInBounds_toArray]); (try simp only [List.set_cons_succ]); (try simp only [List.set_cons_zero])
    refine wpAnyH_take (i := 8) (v := ?_) rfl (by kernel_rfl) (by kernel_rfl) (by kernel_rfl) (fun _ _ _ h => (by cases h.1)) (Or.inl ⟨by rfl, ?h8⟩) hHeld ?_
    case h8 =>
      intro w' hSw
      (try dsimp only at hSw)
      go_simp
      (try with_reducible rfl)
    (try simp only [Act.put]); (try simp only [List.setIfInBounds_toArray]); (try simp only [List.set_cons_succ]); (try simp only [List.set_cons_zero])
    refine wpAnyH_ready (rs := [9]) (by kernel_rfl) (by simp) ?_
    refine AllReadyH.cons rfl (fun K hK => ?_) (AllReadyH.nil)
    go_simp
    refine (TR.out _ HA1.out).mono ?_
    rintro x wn ⟨g, ad, m, c, Lw, rfl, hP, hR, hm, hb⟩
    have H2 := Lib.hid (H1.out.below hb)
    have HA2 := Lib.hid (HA1.out.below hb)
    refine hK.out _ _ (hHeld.below hb) (fun hHeld => ?_)
    clear hK K hb hP hR hm
    (try simp only [Act.put]); (try simp only [List.setIfInBounds_toArray]); (try simp only [List.set_cons_succ]); (try simp only [List.set_cons_zero])
    refine wpAnyH_take (i := 10) (v := ?_) rfl (by kernel_rfl) (by kernel_rfl) (by kernel_rfl) (fun _ _ _ h => (by cases h.1)) (Or.inl ⟨by rfl, ?h10⟩) hHeld ?_
    case h10 =>
      intro w' hSw
      (try dsimp only at hSw)
      go_simp
      (try with_reducible rfl)
    (try simp only [Act.put]); (try simp only [List.setIfInBounds_toArray]); (try simp only [List.set_cons_succ]); (try simp only [List.set_cons_zero])
    refine wpAnyH_take (i := 11) (v := ?_) rfl (by kernel_rfl) (by kernel_rfl) (by kernel_rfl) (fun _ _ _ h => (by cases h.1)) (Or.inl ⟨by rfl, ?h11⟩) hHeld ?_
    case h11 =>
      intro w' hSw
      (try dsimp only at hSw)
      go_simp
      (try with_reducible rfl)
    (try simp only [Act.put]); (try simp only [List.setIfInBounds_toArray]); (try simp only [List.set_cons_succ]); (try simp only [List.set_cons_zero])
    refine wpAnyH_take (i := 12) (v := ?_) rfl (by kernel_rfl) (by kernel_rfl) (by kernel_rfl) (fun _ _ _ h => (by cases h.1)) (Or.inl ⟨by rfl, ?h12⟩) hHeld ?_
    case h12 =>
      intro w' hSw
      (try dsimp only at hSw)
      go_simp
      (try with_reducible rfl)
    (try simp only [Act.put]); (try simp only [List.setIfInBounds_toArray]); (try simp only [List.set_cons_succ]); (try simp only [List.set_cons_zero])
    refine wpAnyH_ready (rs := [13]) (by kernel_rfl) (by simp) ?_
    refine AllReadyH.cons rfl (fun K hK => ?_) (AllReadyH.nil)
    go_simp
    refine hK.out _ _ hHeld (fun hHeld => ?_)
    clear hK K
    (try simp only [Act.put]); (try simp only [List.setIfInBounds_toArray]); (try simp only [List.set_cons_succ]); (try simp only [List.set_cons_zero])
    refine wpAnyH_done (by kernel_rfl) ?_ _
    exact ⟨rfl, g, rfl, H2.out, HA2.out⟩
  rintro g W2 ⟨hS2, hA2⟩
  simp only [Act.put, List.setIfInBounds_toArray, List.set_cons_zero, List.set_cons_succ]
  clear hS H1 HA1 A0 A1 TR
  have HS2 := Lib.hid hS2
  have HA := Lib.hid hA2
  clear hA2
  go_wp2_with fail
  have hSd := HS2.out.drew
  have HA := Lib.hid (HA.out.below (Below.refl _ _).drew)
  clear hS2
  refine wp_joinZ (ι := Act) (f := fun _ bb => bb) (mid := fun bb W' => ∃ m1 L1 m2 L2, ReadOf es (sm ++ [p]) ap m1 L1 ∧ ReadOf es sm (ap ++ [p]) m2 L2 ∧ bb.tmps[6]? = some (.bool (consB om nu m1 L1)) ∧ bb.tmps[7]? = some (.bool (!consB om nu m2 L2)) ∧ bb.tmps[8]? = some (.int .i64 0) ∧ bb.defers = [] ∧ Below w.heap.size w W') ?_ ?_
  · refine wp_region_held_drew (S := KS w [(w.heap.size, (cenA (.slice e.a es.length e.c) (.slice s.a sm.length s.c) (.slice a.a ap.length a.c) (om.1 : Int) (om.2 : Int) (nu.1 : Int) (nu.2 : Int)), 54)]) (by kernel_rfl) hSd (fun hHeld => ?_)
    clear hSd
    refine wpAnyH_take (i := 0) (v := ?_) rfl (by kernel_rfl) (by kernel_rfl) (by kernel_rfl) (fun _ _ _ h => (by cases h.1)) (Or.inl ⟨by rfl, ?h0⟩) hHeld ?_
    case h0 =>
      intro w' hSw
      (try dsimp only at hSw)
      go_simp
      (try with_reducible rfl)
    (try simp only [Act.put]); (try simp only [List.setIfInBounds_toArray]); (try simp only [List.set_cons_succ]); (try simp only [List.set_cons_zero])
    refine wpAnyH_take (i := 1) (v := ?_) rfl (by kernel_rfl) (by kernel_rfl) (by kernel_rfl) (fun _ _ _ h => (by cases h.1)) (Or.inl ⟨by rfl, ?h1⟩) hHeld ?_
    case h1 =>
      intro w' hSw
      (try dsimp only at hSw)
      go_simp
      (try with_reducible rfl)
    (try simp only [Act.put]); (try simp only [List.setIfInBounds_toArray]); (try simp only [List.set_cons_succ]); (try simp only [List.set_cons_zero])
    refine wpAnyH_take (i := 2) (v := ?_) rfl (by kernel_rfl) (by kernel_rfl) (by kernel_rfl) (fun _ _ _ h => (by cases h.1)) (Or.inl ⟨by rfl, ?h2⟩) hHeld ?_
    case h2 =>
      intro w' hSw
      (try dsimp only at hSw)
      go_simp
      (try with_reducible rfl)
    (try simp only [Act.put]); (try simp only [List.setIfInBounds_toArray]); (try simp only [List.set_cons_succ]); (try simp only [List.set_cons_zero])
    refine wpAnyH_take (i := 5) (v := ?_) rfl (by kernel_rfl) (by kernel_rfl) (by kernel_rfl) (fun _ _ _ h => (by cases h.1)) (Or.inl ⟨by rfl, ?h5⟩) hHeld ?_
    case h5 =>
      intro w' hSw
      (try dsimp only at hSw)
      go_simp
      (try with_reducible rfl)
    (try simp only [Act.put]); (try simp only [List.setIfInBounds_toArray]); (try simp only [List.set_cons_succ]); (try simp only [List.set_cons_zero])
    refine wpAnyH_take (i := 6) (v := ?_) rfl (by kernel_rfl) (by kernel_rfl) (by kernel_rfl) (fun _ _ _ h => (by cases h.1)) (Or.inl ⟨by rfl, ?h6⟩) hHeld ?_
    case h6 =>
      intro w' hSw
      (try dsimp only at hSw)
      go_simp
      (try with_reducible rfl)
    (try simp only [Act.put]); (try simp only [List.setIfInBounds_toArray]); (try simp only [List.set_cons_succ]); (try simp only [List.set_cons_zero])
    refine wpAnyH_take (i := 7) (v := ?_) rfl (by kernel_rfl) (by kernel_rfl) (by kernel_rfl) (fun _ _ _ h => (by cases h.1)) (Or.inl ⟨by rfl, ?h7⟩) hHeld ?_
    case h7 =>
      intro w' hSw
      (try dsimp only at hSw)
      go_simp
      (try with_reducible rfl)
    (try simp only [Act.put]); (try simp only [List.setIfInBounds_toArray]); (try simp only [List.set_cons_succ]); (try simp only [List.set_cons_zero])
    refine wpAnyH_ready (rs := [3]) (by kernel_rfl) (by simp) ?_
    refine AllReadyH.cons rfl (fun K hK => ?_) (AllReadyH.nil)
    go_simp
    refine (WS.out _ HA.out).mono ?_
    rintro x wn ⟨z1, hb, rfl, hz⟩
    have HZ1 := Lib.hid hz
    clear hz
    have HA := Lib.hid (HA.out.below hb)
    refine hK.out _ _ (hHeld.below hb) (fun hHeld => ?_)
    clear hK K hb
    (try simp only [Act.put]); (try simp only [List.setIfInBounds_toArray]); (try simp only [List.set_cons_succ]); (try simp only [List.set_cons_zero])
    refine wpAnyH_ready (rs := [4]) (by kernel_rfl) (by simp) ?_
    refine AllReadyH.cons rfl (fun K hK => ?_) (AllReadyH.nil)
    go_simp
    refine (CS.out _ z1 HA.out HZ1.out).mono ?_
    rintro x wn ⟨m1, L1, hr, rfl, hb⟩
    have HR1 := Lib.hid hr
    clear hr
    have HA := Lib.hid (HA.out.below hb)
    refine hK.out _ _ (hHeld.below hb) (fun hHeld => ?_)
    clear hK K hb
    (try simp only [Act.put]); (try simp only [List.setIfInBounds_toArray]); (try simp only [List.set_cons_succ]); (try simp only [List.set_cons_zero])
    refine wpAnyH_ready (rs := [8]) (by kernel_rfl) (by simp) ?_
    refine AllReadyH.cons rfl (fun K hK => ?_) (AllReadyH.nil)
    go_simp
    refine (WA.out _ HA.out).mono ?_
    rintro x wn ⟨z2, hb, rfl, hz⟩
    have HZ2 := Lib.hid hz
    clear hz
    have HA := Lib.hid (HA.out.below hb)
    refine hK.out _ _ (hHeld.below hb) (fun hHeld => ?_)
    clear hK K hb
    (try simp only [Act.put]); (try simp only [List.setIfInBounds_toArray]); (try simp only [List.set_cons_succ]); (try simp only [List.set_cons_zero])
    refine wpAnyH_ready (rs := [9]) (by kernel_rfl) (by simp) ?_
    refine AllReadyH.cons rfl (fun K hK => ?_) (AllReadyH.nil)
    go_simp
    refine (CA.out _ z2 HA.out HZ2.out).mono ?_
    rintro x wn ⟨m2, L2, hr, rfl, hb⟩
    have HR2 := Lib.hid hr
    clear hr
    have HA := Lib.hid (HA.out.below hb)
    refine hK.out _ _ (hHeld.below hb) (fun hHeld => ?_)
    clear hK K hb
    (try simp only [Act.put]); (try simp only [List.setIfInBounds_toArray]); (try simp only [List.set_cons_succ]); (try simp only [List.set_cons_zero])
    refine wpAnyH_take (i := 10) (v := ?_) rfl (by kernel_rfl) (by kernel_rfl) (by kernel_rfl) (fun _ _ _ h => (by cases h.1)) (Or.inl ⟨by rfl, ?h10⟩) hHeld ?_
    case h10 =>
      intro w' hSw
      (try dsimp only at hSw)
      go_simp
      (try with_reducible rfl)
    (try simp only [Act.put]); (try simp only [List.setIfInBounds_toArray]); (try simp only [List.set_cons_succ]); (try simp only [List.set_cons_zero])
    refine wpAnyH_ready (rs := [11]) (by kernel_rfl) (by simp) ?_
    refine AllReadyH.cons rfl (fun K hK => ?_) (AllReadyH.nil)
    go_simp
    refine hK.out _ _ hHeld (fun hHeld => ?_)
    clear hK K
    (try simp only [Act.put]); (try simp only [List.setIfInBounds_toArray]); (try simp only [List.set_cons_succ]); (try simp only [List.set_cons_zero])
    refine wpAnyH_ready (rs := [12]) (by kernel_rfl) (by simp) ?_
    refine AllReadyH.cons rfl (fun K hK => ?_) (AllReadyH.nil)
    go_simp
    refine hK.out _ _ hHeld (fun hHeld => ?_)
    clear hK K
    (try simp only [Act.put]); (try simp only [List.setIfInBounds_toArray]); (try simp only [List.set_cons_succ]); (try simp only [List.set_cons_zero])
    refine wpAnyH_ready (rs := [13]) (by kernel_rfl) (by simp) ?_
    refine AllReadyH.cons rfl (fun K hK => ?_) (AllReadyH.nil)
    go_simp
    refine hK.out _ _ hHeld (fun hHeld => ?_)
    clear hK K
    (try simp only [Act.put]); (try simp only [List.setIfInBounds_toArray]); (try simp only [List.set_cons_succ]); (try simp only [List.set_cons_zero])
    refine wpAnyH_done (by kernel_rfl) ?_ _
    exact ⟨rfl, _, rfl, m1, L1, m2, L2, HR1.out, HR2.out, rfl, rfl, rfl, rfl, hHeld.bel⟩
  rintro ⟨tm, df⟩ W3 ⟨m1, L1, m2, L2, hr1, hr2, t6, t7, t8, td, hbel⟩
  dsimp only at t6 t7 t8 td
  subst td
  have HB := Lib.hid hbel
  have HR1 := Lib.hid hr1
  have HR2 := Lib.hid hr2
  clear hbel hr1 hr2 c0 c1 c2 c3 c4 c5 c6 cl hSd
  go_wp2_with fail
  refine bodyPost_ret (v := .tuple #[.bool (consB om nu m1 L1), .bool (!consB om nu m2 L2), .int .i64 0]) (by simp [results, Tryz.results17, go_sem, t6, t7, t8]) rfl ⟨m1, L1, m2, L2, HR1.out, HR2.out, rfl, HB.out⟩
end Go.Proofs.YtdfebccmjbocjaaGreatDoor
