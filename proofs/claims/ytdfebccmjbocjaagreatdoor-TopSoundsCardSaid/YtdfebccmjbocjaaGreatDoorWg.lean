/- tithingref02: IsAssignment, at a true one. -/
import Derived.Test.YtdfebccmjbocjaaGreatDoorWf
set_option linter.unusedVariables false
set_option linter.unusedSimpArgs false
namespace Go.Proofs.YtdfebccmjbocjaaGreatDoor
open Go.RowKit Go.Shelf
set_option maxRecDepth 100000 in
set_option maxHeartbeats 6400000 in
theorem IsAssign_ok (e s a : Loc) (es : List Ent) (sm ap : List (Nat × Nat)) (ol oh nl nh : Nat) (of : List Nat) (tab : List (List Nat)) (n P : Nat) (va : Option Addr) (vc B : Nat) (w : World) (hn : es.length = n) (hE : SlE w e es) (hS : SlP w s sm) (hA : SlP w a ap) (hT : Tru es sm ap of) (hC : ∀ x, x ∈ es → x.lo ≤ x.hi ∧ x.hi ≤ 120) (hG : GrpOk of tab) (hP : tab.length = P) (hP10 : P ≤ 10) (h10r : ∀ r, r ∈ tab → r.length ≤ 10) (hV : TabK w B (.slice va P vc) tab) (h6 : sm.length ≤ 6) (ha6 : ap.length ≤ 6)
    (h1 : ol ≤ oh ∧ oh ≤ 100) (h2 : nl ≤ nh ∧ nh ≤ 200) (h3 : nl ≤ P + oh) (h4 : P + ol ≤ nh) :
    Calls Tryz.prog 18 #[cenV (.slice e.a n e.c) (.slice s.a sm.length s.c) (.slice a.a ap.length a.c) (ol : Int) (oh : Int) (nl : Int) (nh : Int), .slice va P vc] w fun x w' => x = .returned (.bool true) ∧ Below w.heap.size w w' := by
  subst hP
  have hofn : of.length = n := by rw [← hT.len]; exact hn
  have hn10 : n ≤ 10 := by have := hT.n9; omega
  have s0 := (KS.start w).new (cenA (.slice e.a n e.c) (.slice s.a sm.length s.c) (.slice a.a ap.length a.c) (ol : Int) (oh : Int) (nl : Int) (nh : Int)) 40
  have C49 := Lib.hid (fun W (hW : Below w.heap.size w W) => Of_ok e s a n sm.length ap.length ol oh nl nh B (.slice va tab.length vc) of tab W hofn hn10 (hV.below hW) hG hP10 h10r)
  have C50 := Lib.hid (fun W (hW : Below w.heap.size w W) B' la lc hL => Allowed_ok e s a es sm ap (ol, oh) (nl, nh) of tab n la lc B' W hn (hE.below hW) (hS.below hW) (hA.below hW) hT hC hG hL h6 ha6)
  have C51 := Lib.hid (fun W => Sums_ok e s a n sm.length ap.length ol oh nl nh tab.length h1 h2 hP10 h3 h4 W)
  have S0 := Lib.hid s0
  clear s0 hE hS hA hT hC hG h10r hV hn hofn
  obtain ⟨c0, c1, c2, c3, c4, c5, c6⟩ := (S0.out.blkAt 0 rfl).c7
  have cl := (S0.out.blkAt 0 rfl).lt
  go_enter Tryz.func18, Tryz.ntmps18
  go_wp2_with fail
  with_reducible refine (C49.out _ S0.out.bel).mono ?_
  rintro x w1 ⟨v', B', rfl, hown, hb⟩
  obtain ⟨la, lc, hv⟩ := hown.form
  subst hv
  have hk1 := S0.out.below hb
  have HO := Lib.hid hown
  have S1 := Lib.hid hk1
  obtain ⟨c0, c1, c2, c3, c4, c5, c6⟩ := (hk1.blkAt 0 rfl).c7
  have cl := (hk1.blkAt 0 rfl).lt
  clear hb hown hk1 C49 S0
  go_wp2_with fail
  with_reducible refine (C50.out _ S1.out.bel _ _ _ HO.out).mono ?_
  rintro x w2 ⟨rfl, hb⟩
  have hk2 := S1.out.below hb
  have S2 := Lib.hid hk2
  obtain ⟨c0, c1, c2, c3, c4, c5, c6⟩ := (hk2.blkAt 0 rfl).c7
  have cl := (hk2.blkAt 0 rfl).lt
  clear hb hk2 C50 S1
  go_wp2_with fail
  with_reducible refine (C51.out _).mono ?_
  rintro x w3 ⟨rfl, hb⟩
  have S3 := Lib.hid (S2.out.below hb)
  clear hb
  go_wp2_with fail
  go_ret
  exact ⟨rfl, S3.out.bel⟩
end Go.Proofs.YtdfebccmjbocjaaGreatDoor
