/- sheet: Persons, of a census that is consistent. -/
import Derived.Test.YtdfebccmjbocjaaGreatDoorYb
set_option linter.unusedVariables false
set_option linter.unusedSimpArgs false
namespace Go.Proofs.YtdfebccmjbocjaaGreatDoor
open Go.RowKit Go.Shelf
section
variable {w W W' : World} {bs bs' : List (Nat × Array Value × TypeId)} {b b' : Nat} {cs : Array Value} {t t' : TypeId}
theorem KS.kz (h : KS w bs W) (i : Nat) (hx : bs[i]? = some (b, cs, t)) (hsub : ∀ x, x ∈ bs' → x ∈ bs) (hne : ∀ x, x ∈ bs' → x.1 ≠ b) (hb : w.heap.size ≤ b) : KZ w bs' b cs t W :=
  ⟨h.sub hsub, h.blkAt i hx, hne, hb⟩
/-- two ranges that are stored one behind the other -/
structure P23 (w : World) (bs : List (Nat × Array Value × TypeId)) (b b' : Nat) (W : World) : Prop where
  one : KZ w ((b', #[.int .i64 0, .int .i64 0], 48) :: bs) b #[.int .i64 0, .int .i64 0] 48 W
theorem P23.below (h : P23 w bs b b' W) (hb : Below W.heap.size W W') : P23 w bs b b' W' := ⟨h.one.below hb⟩
theorem P23.drew (h : P23 w bs b b' W) : P23 w bs b b' W.drew := ⟨h.one.drew⟩
theorem P23.ks (h : P23 w bs b b' W) : KS w bs W := h.one.ks.sub (fun _ hx => List.mem_cons_of_mem _ hx)
theorem P23.kz {x y : Value} (hne : ∀ z, z ∈ bs → z.1 ≠ b') (hb : w.heap.size ≤ b') (h : P23 w bs b b' W) : KZ w bs b' #[.int .i64 0, .int .i64 0] 48 ((W.setCell ⟨b, 0, none⟩ x).setCell ⟨b, 1, none⟩ y) :=
  (h.one.keep2 (x' := x) (y' := y)).kz 0 rfl (fun _ hx => List.mem_cons_of_mem _ hx) hne hb
theorem P23.keep1 {x y : Value} (h : P23 w bs b b' W) : KS w bs ((W.setCell ⟨b, 0, none⟩ x).setCell ⟨b, 1, none⟩ y) := (h.one.keep2 (x' := x) (y' := y)).sub (fun _ hx => List.mem_cons_of_mem _ hx)
theorem P23.keep2 {x y x' y' : Value} (hne : ∀ z, z ∈ bs → z.1 ≠ b') (hb : w.heap.size ≤ b') (h : P23 w bs b b' W) : KS w bs ((((W.setCell ⟨b, 0, none⟩ x).setCell ⟨b, 1, none⟩ y).setCell ⟨b', 0, none⟩ x').setCell ⟨b', 1, none⟩ y') := (h.kz (x := x) (y := y) hne hb).keep2
theorem P23.fin {x y x' y' : Value} (hne : ∀ z, z ∈ bs → z.1 ≠ b') (hb : w.heap.size ≤ b') (h : P23 w bs b b' W) :
    Blk ((((W.setCell ⟨b, 0, none⟩ x).setCell ⟨b, 1, none⟩ y).setCell ⟨b', 0, none⟩ x').setCell ⟨b', 1, none⟩ y') b #[x, y] 48 ∧ Blk ((((W.setCell ⟨b, 0, none⟩ x).setCell ⟨b, 1, none⟩ y).setCell ⟨b', 0, none⟩ x').setCell ⟨b', 1, none⟩ y') b' #[x', y'] 48 ∧ Below w.heap.size w ((((W.setCell ⟨b, 0, none⟩ x).setCell ⟨b, 1, none⟩ y).setCell ⟨b', 0, none⟩ x').setCell ⟨b', 1, none⟩ y') := by
  have hbb : b' ≠ b := h.one.2.2.1 _ (List.mem_cons_self ..)
  have k1 := h.one.set2 (x' := x) (y' := y)
  have k2 : KZ w [(b, #[x, y], 48)] b' #[.int .i64 0, .int .i64 0] 48 ((W.setCell ⟨b, 0, none⟩ x).setCell ⟨b, 1, none⟩ y) := k1.kz 1 rfl (fun z hz => by simp at hz; subst hz; exact List.mem_cons_self ..) (fun z hz => by simp at hz; subst hz; exact hbb.symm) hb
  have k3 := k2.set2 (x' := x') (y' := y')
  exact ⟨k3.blkAt 1 rfl, k3.blkAt 0 rfl, k3.bel⟩
end
/-- what Persons() answers -/
def PersPost (es : List Ent) (sm ap : List (Nat × Nat)) (om nu : Nat × Nat) (w : World) (x : Ending) (w' : World) : Prop :=
  ∃ m Lw, ReadOf es sm ap m Lw ∧ x = .returned (.tuple #[rngV (pLo om nu Lw) (pHi om nu m), rngV (max (om.1 : Int) ((nu.1 : Int) - pHi om nu m)) (min (om.2 : Int) ((nu.2 : Int) - pLo om nu Lw)), .int .i64 0]) ∧ Below w.heap.size w w'
set_option maxRecDepth 100000 in
set_option maxHeartbeats 6400000 in
theorem Persons_ok (e s a : Loc) (es : List Ent) (sm ap : List (Nat × Nat)) (om nu : Nat × Nat) (w : World) (hA : CenAt w e s a es sm ap) (hC : CenOk es sm ap om nu) (hT : ∀ m Lw, ReadOf es sm ap m Lw → consB om nu m Lw = true) :
    Calls Tryz.prog 13 #[cenL e s a es sm ap om nu] w (PersPost es sm ap om nu w) := by
  have s0 := (((KS.start w).new (cenA (.slice e.a es.length e.c) (.slice s.a sm.length s.c) (.slice a.a ap.length a.c) (om.1 : Int) (om.2 : Int) (nu.1 : Int) (nu.2 : Int)) 54).new #[.int .i64 0, .int .i64 0] 48).new #[.int .i64 0, .int .i64 0] 48
  simp only [World.size_alloc] at s0
  obtain ⟨q0, q1, q2, q3, q4, q5, q6⟩ := (s0.blkAt 2 rfl).c7
  have TR := Lib.hid (tried_ok e s a es sm ap om nu _ (hA.below s0.bel) hC hT)
  have HC := Lib.hid hC
  have HT := Lib.hid hT
  have H0 := Lib.hid s0
  have RG := Lib.hid hC.small
  clear hA hC s0 hT
  obtain ⟨ea, eb, eo, ec⟩ := e
  obtain ⟨sa, sb, so, sc⟩ := s
  obtain ⟨aa0, ab, ao, ac⟩ := a
  obtain ⟨ol, oh⟩ := om
  obtain ⟨nl, nh⟩ := nu
  go_enter Tryz.func13, Tryz.ntmps13
  go_wp2_with (first
    | (go_at_call 34; (with_reducible refine TR.out.mono ?_); rintro e w' ⟨g, ad, m, c, Lw, rfl, hP, hR, hm, hb⟩; have PP := Lib.hid (persons_of HC.out hm hP); have RR := Lib.hid hR; have HM := Lib.hid hm; have hk := H0.out.below hb; obtain ⟨q0, q1, q2, q3, q4, q5, q6⟩ := (hk.blkAt 2 rfl).c7; replace H0 := Lib.hid hk; clear hk hP hR hm hb)
    | (go_at_call 35; (with_reducible refine PP.out.mono ?_); rintro e w' ⟨⟨lo, hi, rfl, hd, hv⟩, hb⟩; rw [HT.out _ _ RR.out] at hd; have HD := Lib.hid hd; have HV := Lib.hid hv; have hk := H0.out.below hb; replace H0 := Lib.hid hk; clear q0 q1 q2 q3 q4 q5 q6 hk hd hv hb))
  have hk := H0.out.new #[.int .i64 lo, .int .i64 hi] 48
  have hl := H0.out.lt 0 rfl
  have hsz := H0.out.size
  obtain ⟨BS, hBS⟩ : ∃ BS : List (Nat × Array Value × TypeId), BS = [(w.heap.size, cenA (.slice ea es.length ec) (.slice sa sm.length sc) (.slice aa0 ap.length ac) (ol : Int) (oh : Int) (nl : Int) (nh : Int), 54), (w'.heap.size, #[.int .i64 lo, .int .i64 hi], 48)] := ⟨_, rfl⟩
  have hne : ∀ z, z ∈ BS → z.1 ≠ w.heap.size + 1 + 1 := fun z hz => by
    rw [hBS] at hz; simp only [List.mem_cons, List.not_mem_nil, or_false] at hz
    rcases hz with rfl | rfl <;> (intro e; simp only at e; omega)
  have hP : P23 w BS (w.heap.size + 1) (w.heap.size + 1 + 1) (w'.alloc (.cells #[.int .i64 lo, .int .i64 hi] 48)) := ⟨hk.kz 2 rfl (fun x hx => by
      rw [hBS] at hx; simp only [List.mem_cons, List.not_mem_nil, or_false] at hx
      rcases hx with rfl | rfl | rfl <;> simp) (fun x hx => by
      rw [hBS] at hx; simp only [List.mem_cons, List.not_mem_nil, or_false] at hx
      rcases hx with rfl | rfl | rfl <;> (intro e; simp only at e; omega)) (by omega)⟩
  have hS := hP.ks
  have k3 : ∀ W, KS w BS W → W.cell? ⟨w.heap.size, 3, none⟩ = some (.int .i64 (ol : Int)) := fun W h => by rw [hBS] at h; exact (h.blkAt 0 rfl).c7.2.2.2.1
  have k4 : ∀ W, KS w BS W → W.cell? ⟨w.heap.size, 4, none⟩ = some (.int .i64 (oh : Int)) := fun W h => by rw [hBS] at h; exact (h.blkAt 0 rfl).c7.2.2.2.2.1
  have k5 : ∀ W, KS w BS W → W.cell? ⟨w.heap.size, 5, none⟩ = some (.int .i64 (nl : Int)) := fun W h => by rw [hBS] at h; exact (h.blkAt 0 rfl).c7.2.2.2.2.2.1
  have k6 : ∀ W, KS w BS W → W.cell? ⟨w.heap.size, 6, none⟩ = some (.int .i64 (nh : Int)) := fun W h => by rw [hBS] at h; exact (h.blkAt 0 rfl).c7.2.2.2.2.2.2
  have k7 : ∀ W, KS w BS W → W.cell? ⟨w'.heap.size, 0, none⟩ = some (.int .i64 lo) := fun W h => by rw [hBS] at h; exact (h.blkAt 1 rfl).cell 0
  have k8 : ∀ W, KS w BS W → W.cell? ⟨w'.heap.size, 1, none⟩ = some (.int .i64 hi) := fun W h => by rw [hBS] at h; exact (h.blkAt 1 rfl).cell 1
  have l0 : ∀ W, KS w BS W → w.heap.size < W.heap.size := fun W h => by rw [hBS] at h; exact (h.blkAt 0 rfl).lt
  have l1 : ∀ W, KS w BS W → w'.heap.size < W.heap.size := fun W h => by rw [hBS] at h; exact (h.blkAt 1 rfl).lt
  have p0 : ∀ W, P23 w BS (w.heap.size + 1) (w.heap.size + 1 + 1) W → W.cell? ⟨w.heap.size + 1, 0, none⟩ = some (.int .i64 0) := fun W h => h.one.c0
  have p1 : ∀ W, P23 w BS (w.heap.size + 1) (w.heap.size + 1 + 1) W → W.cell? ⟨w.heap.size + 1, 1, none⟩ = some (.int .i64 0) := fun W h => h.one.c1
  have p2 : ∀ W, P23 w BS (w.heap.size + 1) (w.heap.size + 1 + 1) W → W.frozen? ⟨w.heap.size + 1, 0, none⟩ = false := fun W h => h.one.f 0
  have p3 : ∀ W, P23 w BS (w.heap.size + 1) (w.heap.size + 1 + 1) W → W.frozen? ⟨w.heap.size + 1, 1, none⟩ = false := fun W h => h.one.f 1
  have p4 : ∀ W, P23 w BS (w.heap.size + 1) (w.heap.size + 1 + 1) W → W.cell? ⟨w.heap.size + 1 + 1, 0, none⟩ = some (.int .i64 0) := fun W h => (h.one.ks.blkAt 0 rfl).cell 0
  have p5 : ∀ W, P23 w BS (w.heap.size + 1) (w.heap.size + 1 + 1) W → W.cell? ⟨w.heap.size + 1 + 1, 1, none⟩ = some (.int .i64 0) := fun W h => (h.one.ks.blkAt 0 rfl).cell 1
  have p6 : ∀ W, P23 w BS (w.heap.size + 1) (w.heap.size + 1 + 1) W → W.frozen? ⟨w.heap.size + 1 + 1, 0, none⟩ = false := fun W h => (h.one.ks.blkAt 0 rfl).frozen 0
  have p7 : ∀ W, P23 w BS (w.heap.size + 1) (w.heap.size + 1 + 1) W → W.frozen? ⟨w.heap.size + 1 + 1, 1, none⟩ = false := fun W h => (h.one.ks.blkAt 0 rfl).frozen 1
  clear hBS
  obtain ⟨L, e1, e2, e3⟩ : Lw < 1024 ∧ (lo = pLo (ol, oh) (nl, nh) Lw ∧ hi = pHi (ol, oh) (nl, nh) m) ∧ (-1000 ≤ lo ∧ lo ≤ 2000 ∧ -1000 ≤ hi ∧ hi ≤ 1000) := by
    have h := HT.out _ _ RR.out
    have hL : Lw < 1024 := by
      unfold consB at h; rw [Bool.and_eq_true] at h; exact of_decide_eq_true h.1
    have hv := HV.out hL
    obtain ⟨g1, g2, g3, g4, g5, g6, g7, g8⟩ := RG.out
    have hm := HM.out
    refine ⟨hL, hv, ?_⟩
    rw [hv.1, hv.2]
    simp only [pLo, pHi]
    omega
  generalize hx : max (ol : Int) ((nl : Int) - hi) = x
  generalize hy : min (oh : Int) ((nh : Int) - lo) = y
  have CC := Lib.hid (fun W => cut_s (ol : Int) (oh : Int) ((nl : Int) - hi) ((nh : Int) - lo) W)
  rw [hx, hy] at CC
  have hw1 : IntKind.i64.wrap ((nl : Int) - hi) = (nl : Int) - hi := IntWalk.i64_in _ (by obtain ⟨g1, g2, g3, g4, g5, g6, g7, g8⟩ := RG.out; omega)
  have hw2 : IntKind.i64.wrap ((nh : Int) - lo) = (nh : Int) - lo := IntWalk.i64_in _ (by obtain ⟨g1, g2, g3, g4, g5, g6, g7, g8⟩ := RG.out; omega)
  rw [← hw1, ← hw2] at CC
  clear hw1 hw2
  have HX := Lib.hid hx
  have HY := Lib.hid hy
  have HE := Lib.hid e1
  have NE := Lib.hid hne
  have HN2 : Hid (w.heap.size ≤ w.heap.size + 1 + 1) := Lib.hid (by omega)
  have SM := RG.out
  obtain ⟨g1, g2, g3, g4, g5, g6, g7, g8⟩ := SM
  clear hx hy L e1 hne hk hl hsz PP HV HD
  refine wp_joinZ (ι := Act) (f := fun _ a => a) (mid := fun a' W' => a'.tmps[2]? = some (.pointer (some ⟨w.heap.size + 1, 0, none⟩)) ∧ a'.tmps[3]? = some (.pointer (some ⟨w.heap.size + 1 + 1, 0, none⟩)) ∧ a'.tmps[4]? = some (.int .i64 0) ∧ a'.defers = [] ∧ (Blk W' (w.heap.size + 1) #[.int .i64 lo, .int .i64 hi] 48 ∧ Blk W' (w.heap.size + 1 + 1) #[.int .i64 x, .int .i64 y] 48 ∧ Below w.heap.size w W')) ?_ ?_
  · go_region_held3 (KS w BS)
      (first | assumption | exact KS.drew (by assumption) | exact P23.ks (by assumption) | exact P23.keep1 (by assumption) | exact P23.keep2 NE.out HN2.out (by assumption) | exact (P23.keep1 (by assumption)).drew | exact (P23.keep2 NE.out HN2.out (by assumption)).drew | exact P23.keep1 (P23.drew (by assumption)) | exact P23.keep2 NE.out HN2.out (P23.drew (by assumption)) | go_keep)
      (first | (go_at_call 36; (with_reducible refine (CC.out _).mono ?_); rintro e wn ⟨rfl, hb⟩; have hSn := KS.below (w := w) (bs := BS) (by first | assumption | exact KS.drew (by assumption)) hb; have hPn := P23.below (w := w) (bs := BS) (b := w.heap.size + 1) (b' := w.heap.size + 1 + 1) (by first | assumption | exact P23.drew (by assumption)) hb; clear hb))
    all_goals exact ⟨rfl, _, rfl, rfl, rfl, rfl, rfl, by first | exact P23.fin NE.out HN2.out (by assumption) | exact P23.fin NE.out HN2.out (P23.drew (by assumption))⟩
  rintro a' W' ⟨t2, t3, t4, td, hb2, hb3, hb⟩
  obtain ⟨tm, df⟩ := a'
  simp only at t2 t3 t4 td
  subst td
  have c0 := hb2.cell 0
  have c1 := hb2.cell 1
  have d0 := hb3.cell 0
  have d1 := hb3.cell 1
  have z2 := hb2.lt
  have z3 := hb3.lt
  have FB := Lib.hid hb
  clear hb2 hb3 hb k3 k4 k5 k6 k7 k8 l0 l1 p0 p1 p2 p3 p4 p5 p6 p7 CC hP hS
  go_wp2_with fail
  refine bodyPost_ret (v := .tuple #[rngV lo hi, rngV x y, .int .i64 0]) (by simp [results, Tryz.results13, go_sem, t2, t3, t4, c0, c1, d0, d1, z2, z3]) rfl ⟨m, Lw, RR.out, ?_, FB.out⟩
  rw [← HX.out, ← HY.out, ← HE.out.1, ← HE.out.2]
end Go.Proofs.YtdfebccmjbocjaaGreatDoor
