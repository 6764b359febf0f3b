/- sheet: whether a census is consistent; tried. -/
import Derived.Test.YtdfebccmjbocjaaGreatDoorYa
import Derived.Test.YtdfebccmjbocjaaGreatDoorZv
set_option linter.unusedVariables false
set_option linter.unusedSimpArgs false
namespace Go.Proofs.YtdfebccmjbocjaaGreatDoor
open Go.RowKit Go.Shelf
theorem CenOk.small {es : List Ent} {sm ap : List (Nat × Nat)} {om nu : Nat × Nat} (h : CenOk es sm ap om nu) : SmallR (om.1 : Int) (om.2 : Int) (nu.1 : Int) (nu.2 : Int) := by
  have := h.om
  have := h.nu
  unfold SmallR
  omega
theorem read_ok (e s a : Loc) (es : List Ent) (sm ap : List (Nat × Nat)) (om nu : Nat × Nat) (w : World) (hA : CenAt w e s a es sm ap) (hC : CenOk es sm ap om nu) :
    Calls Tryz.prog 66 #[cenL e s a es sm ap om nu] w (ReadPost e s a es sm ap (om.1 : Int) (om.2 : Int) (nu.1 : Int) (nu.2 : Int) w) :=
  read_any e s a es sm ap _ _ _ _ w hA.e hA.s hA.a hC.n10 hC.s6 hC.a6 (fun p hp => (hC.sm p hp).1) (fun p hp => by have := (hC.ap p hp).1; have := hC.n10; omega) hA.gt hA.one
/-- what persons() answers -/
theorem persons_of {e s a : Loc} {es : List Ent} {sm ap : List (Nat × Nat)} {om nu : Nat × Nat} {W : World} {g m c Lw : Nat} {ad : Option Addr} (hC : CenOk es sm ap om nu) (hm : m ≤ 10)
    (h : PW W g (.slice e.a es.length e.c) (.slice s.a sm.length s.c) (.slice a.a ap.length a.c) (om.1 : Int) (om.2 : Int) (nu.1 : Int) (nu.2 : Int) ad m c Lw) :
    Calls Tryz.prog 35 #[.pointer (some ⟨g, 0, none⟩)] W fun x w' => (∃ lo hi : Int, x = .returned (rngV lo hi) ∧ decide (lo ≤ hi) = consB om nu m Lw ∧ (Lw < 1024 → lo = pLo om nu Lw ∧ hi = pHi om nu m)) ∧ Below W.heap.size W w' := by
  by_cases hL : Lw < 1024
  · refine (persons_some g _ _ _ _ _ _ _ ad m c Lw hm hL hC.small W h).mono ?_
    rintro x w' ⟨rfl, hb⟩
    exact ⟨⟨_, _, rfl, by unfold consB; rw [decide_eq_true hL, Bool.true_and]; rfl, fun _ => ⟨rfl, rfl⟩⟩, hb⟩
  · refine (persons_none g _ _ _ _ _ _ _ ad m c Lw hm (by omega) W h).mono ?_
    rintro x w' ⟨rfl, hb⟩
    exact ⟨⟨1, 0, rfl, by unfold consB; rw [decide_eq_false hL]; rfl, fun h => absurd h hL⟩, hb⟩
def ConsPost (es : List Ent) (sm ap : List (Nat × Nat)) (om nu : Nat × Nat) (w : World) (x : Ending) (w' : World) : Prop :=
  ∃ m Lw, ReadOf es sm ap m Lw ∧ x = .returned (.bool (consB om nu m Lw)) ∧ Below w.heap.size w w'
set_option maxRecDepth 100000 in
set_option maxHeartbeats 3200000 in
theorem cons_any (e s a : Loc) (es : List Ent) (sm ap : List (Nat × Nat)) (om nu : Nat × Nat) (w : World) (hA : CenAt w e s a es sm ap) (hC : CenOk es sm ap om nu) :
    Calls Tryz.prog 48 #[cenL e s a es sm ap om nu] w (ConsPost es sm ap om nu w) := by
  obtain ⟨CV, hCV⟩ : ∃ CV, CV = cenA (.slice e.a es.length e.c) (.slice s.a sm.length s.c) (.slice a.a ap.length a.c) (om.1 : Int) (om.2 : Int) (nu.1 : Int) (nu.2 : Int) := ⟨_, rfl⟩
  have s0 := (KS.start w).new (cenA (.slice e.a es.length e.c) (.slice s.a sm.length s.c) (.slice a.a ap.length a.c) (om.1 : Int) (om.2 : Int) (nu.1 : Int) (nu.2 : Int)) 54
  obtain ⟨q0, q1, q2, q3, q4, q5, q6⟩ := (s0.blkAt 0 rfl).c7
  have RD := Lib.hid (read_ok e s a es sm ap om nu _ (hA.below s0.bel) hC)
  have HC := Lib.hid hC
  have B0 := Lib.hid s0.bel
  clear hA hC s0 hCV
  obtain ⟨ea, eb, eo, ec⟩ := e
  obtain ⟨sa, sb, so, sc⟩ := s
  obtain ⟨aa0, ab, ao, ac⟩ := a
  obtain ⟨ol, oh⟩ := om
  obtain ⟨nl, nh⟩ := nu
  go_enter Tryz.func48, Tryz.ntmps48
  go_wp2_with (first
    | (go_at_call 66; (with_reducible refine RD.out.mono ?_); rintro e w' ⟨g, ad, m, c, Lw, rfl, hP, hR, hm, hb⟩; have PP := Lib.hid (persons_of HC.out hm hP); have RR := Lib.hid hR; have HB := Lib.hid (B0.out.trans (hb.mono B0.out.size)); clear hP hR hm hb)
    | (go_at_call 35; (with_reducible refine PP.out.mono ?_); rintro e w' ⟨⟨lo, hi, rfl, hd, _⟩, hb⟩; have HD := Lib.hid hd; have HB2 := Lib.hid (HB.out.trans (hb.mono HB.out.size)); clear hd hb))
  go_ret
  exact ⟨_, _, RR.out, ret_bool HD.out, HB2.out.alloc HB2.out.size _⟩
/-- what tried() leaves of a census that is consistent -/
def TriedPost (e s a : Loc) (es : List Ent) (sm ap : List (Nat × Nat)) (om nu : Nat × Nat) (w : World) (x : Ending) (w' : World) : Prop :=
  ∃ (g : Nat) (ad : Option Addr) (m c Lw : Nat), x = .returned (.tuple #[.pointer (some ⟨g, 0, none⟩), .int .i64 0]) ∧ PW w' g (.slice e.a es.length e.c) (.slice s.a sm.length s.c) (.slice a.a ap.length a.c) (om.1 : Int) (om.2 : Int) (nu.1 : Int) (nu.2 : Int) ad m c Lw ∧ ReadOf es sm ap m Lw ∧ m ≤ 10 ∧ Below w.heap.size w w'
set_option maxRecDepth 100000 in
set_option maxHeartbeats 3200000 in
theorem tried_ok (e s a : Loc) (es : List Ent) (sm ap : List (Nat × Nat)) (om nu : Nat × Nat) (w : World) (hA : CenAt w e s a es sm ap) (hC : CenOk es sm ap om nu) (hT : ∀ m Lw, ReadOf es sm ap m Lw → consB om nu m Lw = true) :
    Calls Tryz.prog 34 #[cenL e s a es sm ap om nu, .bool true] w (TriedPost e s a es sm ap om nu w) := by
  have s0 := (KS.start w).new (cenA (.slice e.a es.length e.c) (.slice s.a sm.length s.c) (.slice a.a ap.length a.c) (om.1 : Int) (om.2 : Int) (nu.1 : Int) (nu.2 : Int)) 54
  obtain ⟨q0, q1, q2, q3, q4, q5, q6⟩ := (s0.blkAt 0 rfl).c7
  have CK := Lib.hid (fun W (hW : Below w.heap.size w W) => check_ok e s a es sm ap om nu W (hA.below hW) hC)
  have RD := Lib.hid (fun W (hW : Below w.heap.size w W) => read_ok e s a es sm ap om nu W (hA.below hW) hC)
  have HC := Lib.hid hC
  have HT := Lib.hid hT
  have H0 := Lib.hid s0
  clear hA hC s0 hT
  obtain ⟨ea, eb, eo, ec⟩ := e
  obtain ⟨sa, sb, so, sc⟩ := s
  obtain ⟨aa0, ab, ao, ac⟩ := a
  obtain ⟨ol, oh⟩ := om
  obtain ⟨nl, nh⟩ := nu
  go_enter Tryz.func34, Tryz.ntmps34
  go_wp2_with (first
    | (go_at_call 39; (with_reducible refine (CK.out _ H0.out.bel).mono ?_); rintro e w' ⟨rfl, hb⟩; have hk := H0.out.below hb; obtain ⟨q0, q1, q2, q3, q4, q5, q6⟩ := (hk.blkAt 0 rfl).c7; replace H0 := Lib.hid hk; clear hk hb)
    | (go_at_call 66; (with_reducible refine (RD.out _ H0.out.bel).mono ?_); rintro e w' ⟨g, ad, m, c, Lw, rfl, hP, hR, hm, hb⟩; have PP := Lib.hid (persons_of HC.out hm hP); have PX := Lib.hid hP; have RR := Lib.hid hR; have HM := Lib.hid hm; have HB := Lib.hid (H0.out.bel.trans (hb.mono H0.out.size)); clear hP hR hm hb)
    | (go_at_call 35; (with_reducible refine PP.out.mono ?_); rintro e w' ⟨⟨lo, hi, rfl, hd, _⟩, hb⟩; rw [HT.out _ _ RR.out] at hd; have hle : ¬ hi < lo := (by have := of_decide_eq_true hd; omega); have HB2 := Lib.hid (HB.out.trans (hb.mono HB.out.size)); have PY := Lib.hid (PX.out.below hb); clear hd hb))
  go_ret2
  exact ⟨g, ad, m, c, Lw, rfl, PY.out.below ((Below.refl _ _).alloc (Nat.le_refl _) _), RR.out, HM.out, HB2.out.alloc HB2.out.size _⟩
end Go.Proofs.YtdfebccmjbocjaaGreatDoor
