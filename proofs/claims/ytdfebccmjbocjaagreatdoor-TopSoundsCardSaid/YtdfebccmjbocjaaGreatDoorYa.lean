/- sheet: whether a range, an entry, a pair, a census is valid (at valid ones). -/
import Derived.Test.YtdfebccmjbocjaaGreatDoorZn
import Derived.Test.YtdfebccmjbocjaaGreatDoorZk
import Derived.Test.YtdfebccmjbocjaaGreatDoorZg
set_option linter.unusedVariables false
set_option linter.unusedSimpArgs false
namespace Go.Proofs.YtdfebccmjbocjaaGreatDoor
open Go.RowKit Go.Shelf
set_option maxRecDepth 100000 in
set_option maxHeartbeats 1600000 in
theorem rvalid_ok (lo hi m : Int) (h0 : 0 ≤ lo) (h1 : lo ≤ hi) (h2 : hi ≤ m) (w : World) : Calls Tryz.prog 73 #[rngV lo hi, .int .i64 m] w fun x w' => x = .returned (.bool true) ∧ Below w.heap.size w w' := by
  have B0 : Below w.heap.size w (w.alloc (.cells #[.int .i64 lo, .int .i64 hi] 48)) := (Below.refl _ _).alloc (Nat.le_refl _) _
  have BB := Lib.hid B0
  clear B0
  go_enter Tryz.func73, Tryz.ntmps73
  go_wp2_with fail
  go_ret
  exact ⟨rfl, BB.out⟩
set_option maxRecDepth 100000 in
set_option maxHeartbeats 1600000 in
theorem evalid_ok (e : Ent) (h0 : e.s ≤ 9) (h1 : e.x ≤ 1) (h2 : e.k ≤ 99) (h3 : e.lo ≤ e.hi) (h4 : e.hi ≤ 120) (w : World) : Calls Tryz.prog 72 #[entV e] w fun x w' => x = .returned (.bool true) ∧ Below w.heap.size w w' := by
  obtain ⟨e0, e1, e2, e3, e4⟩ := e
  simp only at *
  have A0 := Lib.hid (fun W => within_s (e0 : Int) 0 9 W)
  have A1 := Lib.hid (fun W => within_s (e1 : Int) 0 1 W)
  have A2 := Lib.hid (fun W => within_s (e2 : Int) 0 99 W)
  have E0 : inB (e0 : Int) 0 9 = true := by simp [inB]; omega
  have E1 : inB (e1 : Int) 0 1 = true := by simp [inB]; omega
  have E2 : inB (e2 : Int) 0 99 = true := by simp [inB]; omega
  rw [E0] at A0
  rw [E1] at A1
  rw [E2] at A2
  have A3 := Lib.hid (fun W => rvalid_ok (e3 : Int) (e4 : Int) 120 (by omega) (by omega) (by omega) W)
  have B0 : Below w.heap.size w (w.alloc (.cells (entA ⟨e0, e1, e2, e3, e4⟩) 82)) := (Below.refl _ _).alloc (Nat.le_refl _) _
  have BB := Lib.hid B0
  clear B0 h0 h1 h2 h3 h4 E0 E1 E2
  go_enter Tryz.func72, Tryz.ntmps72
  go_wp2_with (first
    | (go_at_call 40; (with_reducible refine (A0.out _).mono ?_); rintro e w' ⟨rfl, rfl⟩)
    | (go_at_call 40; (with_reducible refine (A1.out _).mono ?_); rintro e w' ⟨rfl, rfl⟩)
    | (go_at_call 40; (with_reducible refine (A2.out _).mono ?_); rintro e w' ⟨rfl, rfl⟩)
    | (go_at_call 73; (with_reducible refine (A3.out _).mono ?_); rintro e w' ⟨rfl, hb⟩; have HB := Lib.hid hb; clear hb))
  go_ret
  exact ⟨rfl, BB.out.trans (HB.out.mono BB.out.size)⟩
set_option maxRecDepth 100000 in
set_option maxHeartbeats 1600000 in
theorem pair_ok (n c : Nat) (ad : Option Addr) (s a : Value) (ol oh nl nh : Int) (p : Nat × Nat) (h0 : p.1 < n) (h1 : p.2 < n) (h2 : p.1 ≠ p.2) (hn : n ≤ 1000) (w : World) : Calls Tryz.prog 70 #[cenV (.slice ad n c) s a ol oh nl nh, prV p] w fun x w' => x = .returned (.bool true) ∧ Below w.heap.size w w' := by
  obtain ⟨p0, p1⟩ := p
  simp only at *
  have A0 := Lib.hid (fun W => within_s (p0 : Int) 0 ((n : Int) - 1) W)
  have A1 := Lib.hid (fun W => within_s (p1 : Int) 0 ((n : Int) - 1) W)
  have E0 : inB (p0 : Int) 0 ((n : Int) - 1) = true := by simp [inB]; omega
  have E1 : inB (p1 : Int) 0 ((n : Int) - 1) = true := by simp [inB]; omega
  rw [E0] at A0
  rw [E1] at A1
  have t1 : ((p0 : Int) != (p1 : Int)) = true := by simp; omega
  obtain ⟨c1, c2, B2, hz⟩ := two_new w (cenA (.slice ad n c) s a ol oh nl nh) (prA (p0, p1)) 54 113
  have k0 := c1.cell 0
  have BB := Lib.hid B2
  clear c1 c2 B2 hz h0 h1 h2 E0 E1
  go_enter Tryz.func70, Tryz.ntmps70
  go_wp2_with (first
    | (go_at_call 40; (with_reducible refine (A0.out _).mono ?_); rintro e w' ⟨rfl, rfl⟩)
    | (go_at_call 40; (with_reducible refine (A1.out _).mono ?_); rintro e w' ⟨rfl, rfl⟩))
  go_ret
  exact ⟨rfl, BB.out⟩
/-- a census, as it lies -/
abbrev cenL (e s a : Loc) (es : List Ent) (sm ap : List (Nat × Nat)) (om nu : Nat × Nat) : Value := cenV (.slice e.a es.length e.c) (.slice s.a sm.length s.c) (.slice a.a ap.length a.c) (om.1 : Int) (om.2 : Int) (nu.1 : Int) (nu.2 : Int)
structure CenAt (W : World) (e s a : Loc) (es : List Ent) (sm ap : List (Nat × Nat)) : Prop where
  e : SlE W e es
  s : SlP W s sm
  a : SlP W a ap
  gt : GT W
  one : 1 < W.heap.size
theorem CenAt.below {W W' : World} {e s a : Loc} {es : List Ent} {sm ap : List (Nat × Nat)} (h : CenAt W e s a es sm ap) (hb : Below W.heap.size W W') : CenAt W' e s a es sm ap :=
  ⟨h.e.below hb, h.s.below hb, h.a.below hb, h.gt.below hb h.one, Nat.lt_of_lt_of_le h.one hb.size⟩
theorem all_true {α : Type} (l : List α) : l.all (fun _ => true) = true := by simp
set_option maxRecDepth 100000 in
set_option maxHeartbeats 3200000 in
theorem check_ok (e s a : Loc) (es : List Ent) (sm ap : List (Nat × Nat)) (om nu : Nat × Nat) (w : World) (hA : CenAt w e s a es sm ap) (hC : CenOk es sm ap om nu) :
    Calls Tryz.prog 39 #[cenL e s a es sm ap om nu] w fun x w' => x = .returned (.int .i64 0) ∧ Below w.heap.size w w' := by
  obtain ⟨ea, eb, eo, ec⟩ := e
  obtain ⟨sa, sb, so, sc⟩ := s
  obtain ⟨aa0, ab, ao, ac⟩ := a
  obtain ⟨ol, oh⟩ := om
  obtain ⟨nl, nh⟩ := nu
  obtain ⟨hn, h6, ha6, hE, hS, hP, ⟨o1, o2⟩, ⟨u1, u2⟩⟩ := hC
  simp only at *
  have AE := Lib.hid (fun W (hW : Below w.heap.size w W) => (allE 72 #[] #[] ea eb eo ec es.length es (fun _ => true) W rfl (hA.below hW).e.at_ (hA.below hW).e.lt (by omega) (hA.below hW).e.cells
    (fun bx W' _ hBk x hx W'' hb'' => clos_valid x bx W'' (hBk.b hb'') (fun W3 _ => evalid_ok x (hE x hx).1 (hE x hx).2.1 (hE x hx).2.2.1 (hE x hx).2.2.2.1 (hE x hx).2.2.2.2 W3))))
  have AS := Lib.hid (fun W (hW : Below w.heap.size w W) => (allP 70 #[cenV (.slice ea es.length ec) (.slice sa sm.length sc) (.slice aa0 ap.length ac) ol oh nl nh] #[] sa sb so sc sm.length sm (fun _ => true) W rfl (hA.below hW).s.at_ (hA.below hW).s.lt (by omega) (hA.below hW).s.cells
    (fun bx W' _ hBk x hx W'' hb'' => clos_pair _ x bx W'' (hBk.b hb'') (fun W3 _ => pair_ok es.length ec ea _ _ _ _ _ _ x (hS x hx).1.1 (hS x hx).1.2 (hS x hx).2 (by omega) W3))))
  have AP := Lib.hid (fun W (hW : Below w.heap.size w W) => (allP 70 #[cenV (.slice ea es.length ec) (.slice sa sm.length sc) (.slice aa0 ap.length ac) ol oh nl nh] #[] aa0 ab ao ac ap.length ap (fun _ => true) W rfl (hA.below hW).a.at_ (hA.below hW).a.lt (by omega) (hA.below hW).a.cells
    (fun bx W' _ hBk x hx W'' hb'' => clos_pair _ x bx W'' (hBk.b hb'') (fun W3 _ => pair_ok es.length ec ea _ _ _ _ _ _ x (hP x hx).1.1 (hP x hx).1.2 (hP x hx).2 (by omega) W3))))
  simp only [all_true] at AE AS AP
  change Calls Tryz.prog 39 #[cenV (.slice ea es.length ec) (.slice sa sm.length sc) (.slice aa0 ap.length ac) ol oh nl nh] w _
  have R1 := Lib.hid (fun W => rvalid_ok (ol : Int) (oh : Int) 100 (by omega) (by omega) (by omega) W)
  have R2 := Lib.hid (fun W => rvalid_ok (nl : Int) (nh : Int) 200 (by omega) (by omega) (by omega) W)
  generalize es.length = n at *
  generalize sm.length = n1 at *
  generalize ap.length = n2 at *
  have s0 := (KS.start w).new (cenA (.slice ea n ec) (.slice sa n1 sc) (.slice aa0 n2 ac) ol oh nl nh) 54
  obtain ⟨q0, q1, q2, q3, q4, q5, q6⟩ := (s0.blkAt 0 rfl).c7
  have H0 := Lib.hid s0
  have l0 : ¬ (10 : Int) < (n : Int) := by omega
  have l1 : ¬ (6 : Int) < (n1 : Int) := by omega
  have l2 : ¬ (6 : Int) < (n2 : Int) := by omega
  clear s0 hE hS hP o1 o2 u1 u2 hA hn h6 ha6
  go_enter Tryz.func39, Tryz.ntmps39
  go_wp2_with (first
    | (go_at_call 71; (with_reducible refine (AE.out _ H0.out.bel).mono ?_); rintro e w' ⟨rfl, hb⟩; have hk := H0.out.below hb; obtain ⟨q0, q1, q2, q3, q4, q5, q6⟩ := (hk.blkAt 0 rfl).c7; replace H0 := Lib.hid hk; clear hk hb)
    | (go_at_call 43; (with_reducible refine (AS.out _ H0.out.bel).mono ?_); rintro e w' ⟨rfl, hb⟩; have hk := H0.out.below hb; obtain ⟨q0, q1, q2, q3, q4, q5, q6⟩ := (hk.blkAt 0 rfl).c7; replace H0 := Lib.hid hk; clear hk hb)
    | (go_at_call 43; (with_reducible refine (AP.out _ H0.out.bel).mono ?_); rintro e w' ⟨rfl, hb⟩; have hk := H0.out.below hb; obtain ⟨q0, q1, q2, q3, q4, q5, q6⟩ := (hk.blkAt 0 rfl).c7; replace H0 := Lib.hid hk; clear hk hb)
    | (go_at_call 73; (with_reducible refine (R1.out _).mono ?_); rintro e w' ⟨rfl, hb⟩; have hk := H0.out.below hb; obtain ⟨q0, q1, q2, q3, q4, q5, q6⟩ := (hk.blkAt 0 rfl).c7; replace H0 := Lib.hid hk; clear hk hb)
    | (go_at_call 73; (with_reducible refine (R2.out _).mono ?_); rintro e w' ⟨rfl, hb⟩; have hk := H0.out.below hb; obtain ⟨q0, q1, q2, q3, q4, q5, q6⟩ := (hk.blkAt 0 rfl).c7; replace H0 := Lib.hid hk; clear hk hb))
  go_ret
  exact ⟨rfl, H0.out.bel⟩
end Go.Proofs.YtdfebccmjbocjaaGreatDoor
