/- tithingtop: what TopMissed calls, in its own words. -/
import Derived.Test.YtdfebccmjbocjaaGreatDoorXa
import Derived.Test.YtdfebccmjbocjaaGreatDoorYk
import Derived.Test.YtdfebccmjbocjaaGreatDoorMiG7
import Derived.Test.YtdfebccmjbocjaaGreatDoorMiG6
set_option linter.unusedVariables false
set_option linter.unusedSimpArgs false
namespace Go.Proofs.YtdfebccmjbocjaaGreatDoor
open Go.RowKit Go.Shelf
theorem ints_of_sln {W : World} {s : Loc} {l : List Nat} (h : SlN W s l) : Mi.IntsAt W s.b s.o (Mi.intsL l) := by
  intro i a hi
  unfold Mi.intsL at hi
  rw [List.getElem?_map] at hi
  cases hx : l[i]? with
  | none => rw [hx] at hi; cases hi
  | some x => rw [hx] at hi; cases hi; exact h.cells i x hx
theorem natsOf_intsL (l : List Nat) : Mi.natsOf (Mi.intsL l) = l := by
  unfold Mi.natsOf Mi.intsL
  rw [List.map_map]
  induction l with
  | nil => rfl
  | cons a l ih => rw [List.map_cons, ih]; simp
theorem natV_intsL (l : List Nat) : (Mi.intsL l).map (Value.int .i64) = natV l := by
  unfold Mi.intsL natV
  rw [List.map_map]; rfl
theorem draw_top (P u Z : Nat) (hZ : Z = P + u) (s : Loc) (l : List Nat) (n : Nat) (hn : l.length = n) (W : World) (hs : SlN W s l) (hl : n ≤ P) (h50 : P + u ≤ 50) :
    Calls Tryz.prog 21 #[.int .i64 (Z : Int), .slice s.a n s.c] W fun e w' => ∃ s' : Loc, e = .returned (.tuple #[.slice s'.a n s'.c, .int .i64 0]) ∧ SlN w' s' (Mis.drawn (P + u) l) ∧ (Mis.drawn (P + u) l).length = n ∧ Below W.heap.size W w' := by
  subst hn
  subst hZ
  have hne : Mi.intsL l ≠ [] → l ≠ [] := fun h e => h (by subst e; rfl)
  have h := Mi.Draw_any ((P + u : Nat) : Int) s.a s.b s.o s.c (Mi.intsL l) W (fun h => hs.at_ (hne h)) (fun h => hs.lt (hne h)) (by rw [Mi.intsL_len]; omega) (ints_of_sln hs)
  rw [Mi.intsL_len] at h
  refine h.mono ?_
  rintro e w' (⟨h1, -⟩ | ⟨-, h2⟩)
  · exfalso
    have : Mi.drawB ((P + u : Nat) : Int) (Mi.intsL l) = true := by
      unfold Mi.drawB Mi.inB
      rw [Bool.and_eq_true, Bool.and_eq_true, Mi.intsL_len]
      refine ⟨by simp; omega, by simp; omega, ?_⟩
      rw [List.all_eq_true]
      intro x hx
      unfold Mi.intsL at hx
      obtain ⟨y, _, rfl⟩ := List.mem_map.1 hx
      unfold Mi.lotB
      exact decide_eq_true (by omega)
    rw [h1] at this; cases this
  · obtain ⟨v, rfl, hown, hb⟩ := h2
    have e1 : ((P + u : Nat) : Int).toNat = P + u := by omega
    rw [e1, natsOf_intsL, natV_intsL, Mi.intsL_len] at hown
    have hd : (Mis.drawn (P + u) l).length = l.length := Mis.drawn_len (P + u) l (by omega)
    rw [← hd] at hown
    obtain ⟨s', hv, hs', -⟩ := SlN.of_own (W := w') (l := Mis.drawn (P + u) l) hown
    subst hv
    exact ⟨s', by rw [hd], hs', hd, hb⟩
theorem chance_top {P M K F u : Nat} (h : Mi.okA P M K F) (hu : u ≤ M) (hF : K ≤ F + u) (W : World) : Calls Tryz.prog 22 #[.agg #[.int .i64 (P : Int), .int .i64 (M : Int), .int .i64 (K : Int), .int .i64 (F : Int)], .int .i64 (u : Int)] W fun e w' => ∃ x y : Nat, 0 < x ∧ e = .returned (.tuple #[.agg #[.int .i64 (x : Int), .int .i64 (y : Int)], .int .i64 0]) ∧ Below W.heap.size W w' := by
  refine (Mi.Chance_ok h hu W).mono ?_
  rintro e w' ⟨rfl, hb⟩
  have hN : 0 < Mis.sm (Mis.sets P u K) F 1 := Mis.sets_pos (by have := h.2; omega) hF
  exact ⟨_, _, Nat.div_pos (Nat.gcd_le_left _ hN) (Nat.gcd_pos_of_pos_left _ hN), rfl, hb⟩
theorem whole_top {P M K F : Nat} (h : Mi.okA P M K F) (W : World) : Calls Tryz.prog 23 #[.agg #[.int .i64 (P : Int), .int .i64 (M : Int), .int .i64 (K : Int), .int .i64 (F : Int)], .agg #[.int .i64 0, .int .i64 1]] W fun e w' => e = .returned (.tuple #[.agg #[.int .i64 0, .int .i64 (M : Int)], .int .i64 0]) ∧ Below W.heap.size W w' := by
  have h2 := Mi.Missed_ok h (n := 0) (d := 1) (by decide) W
  rw [Mi.rangeOf_zero] at h2
  exact h2
def MisPost (M : Nat) (W : World) (e : Ending) (w' : World) : Prop := ((∃ lo hi : Nat, (lo ≤ hi ∧ hi ≤ M) ∧ e = .returned (.tuple #[.agg #[.int .i64 (lo : Int), .int .i64 (hi : Int)], .int .i64 0])) ∨ e = .returned (.tuple #[.agg #[.int .i64 0, .int .i64 0], .int .i64 9])) ∧ Below W.heap.size W w'
theorem missed_top {P M K F : Nat} (h : Mi.okA P M K F) {n d : Int} (hl : Mi.levB n d = true) (W : World) : Calls Tryz.prog 23 #[.agg #[.int .i64 (P : Int), .int .i64 (M : Int), .int .i64 (K : Int), .int .i64 (F : Int)], .agg #[.int .i64 n, .int .i64 d]] W (MisPost M W) := by
  obtain ⟨h1, h2, -⟩ := Mi.lev_nat hl
  rw [h1, h2] at hl ⊢
  refine (Mi.Missed_ok h hl W).mono ?_
  rintro e w' ⟨rfl, hb⟩
  refine ⟨?_, hb⟩
  cases hR : Mi.rangeOf P M K F n.toNat d.toNat with
  | none => exact .inr rfl
  | some r =>
    have := Mi.rangeOf_in hR
    exact .inl ⟨r.1, r.2, ⟨this.1, this.2⟩, rfl⟩
theorem census_top (e s a : Loc) (es : List Ent) (sm ap : List (Nat × Nat)) (rl rh z : Nat) (w : World) (hE : SlE w e es) (hS : SlP w s sm) (hA : SlP w a ap) (h10 : es.length ≤ 10) (h10s : sm.length ≤ 10) (h10a : ap.length ≤ 10) :
    Calls Tryz.prog 14 #[.agg #[.slice e.a es.length e.c, .slice s.a sm.length s.c, .slice a.a ap.length a.c, .int .i64 (rl : Int), .int .i64 (rh : Int), .int .i64 (z : Int), .int .i64 (z : Int)]] w fun x w' => ∃ e s a : Loc, x = .returned (.agg #[.slice e.a es.length e.c, .slice s.a sm.length s.c, .slice a.a ap.length a.c, .int .i64 (rl : Int), .int .i64 (rh : Int), .int .i64 (z : Int), .int .i64 (z : Int)]) ∧ (SlE w' e es ∧ SlP w' s sm ∧ SlP w' a ap) ∧ Below w.heap.size w w' := by
  refine (Census_any e s a es sm ap (rl, rh) (z, z) w hE hS hA h10 h10s h10a).mono ?_
  rintro x w' ⟨e1, s1, a1, rfl, h1, -, -, hb⟩
  exact ⟨e1, s1, a1, rfl, h1, hb⟩
theorem pers_top (e s a : Loc) (es : List Ent) (sm ap : List (Nat × Nat)) (of : List Nat) (om nu : Nat × Nat) (rl rh u z : Nat) (hz : z = manyL of + u) (hT : TF es sm ap of om nu) (W : World) (hA : CenAt W e s a es sm ap) (h1 : rl ≤ u) (h2 : u ≤ rh) (h3 : rh ≤ 100) (hu : u ≤ 29) :
    Calls Tryz.prog 13 #[.agg #[.slice e.a es.length e.c, .slice s.a sm.length s.c, .slice a.a ap.length a.c, .int .i64 (rl : Int), .int .i64 (rh : Int), .int .i64 (z : Int), .int .i64 (z : Int)]] W fun x w' => ∃ pl ph ol oh : Int, x = .returned (.tuple #[.agg #[.int .i64 pl, .int .i64 ph], .agg #[.int .i64 ol, .int .i64 oh], .int .i64 0]) ∧ (pl ≤ (manyL of : Int) ∧ (manyL of : Int) ≤ ph ∧ ol ≤ (u : Int) ∧ (u : Int) ≤ oh ∧ (rl : Int) ≤ ol ∧ oh ≤ (rh : Int)) ∧ Below W.heap.size W w' := by
  subst hz
  have hm := many_le of.length (ofF of)
  have h9 := hT.n9
  have hP : manyL of ≤ 9 := by unfold manyL; omega
  have hTr := hT.tp.tru h9 hT.psm hT.pap
  have hC : CenOk es sm ap (rl, rh) (manyL of + u, manyL of + u) := hT.tp.cen h9 hT.psm hT.pap hT.s5 hT.a5 ⟨by simp; omega, by simp; omega⟩ ⟨by simp, by simp; omega⟩
  have h := Persons_ok e s a es sm ap (rl, rh) (manyL of + u, manyL of + u) W hA hC (fun m Lw hr => (hTr.cons hr (by simp; omega) (by simp; omega)).1)
  refine h.mono ?_
  rintro x w' ⟨m, Lw, hr, rfl, hb⟩
  obtain ⟨-, c2, c3⟩ := hTr.cons hr (om := (rl, rh)) (nu := (manyL of + u, manyL of + u)) (by simp; omega) (by simp; omega)
  refine ⟨_, _, _, _, rfl, ⟨c2, c3, ?_, ?_, ?_, ?_⟩, hb⟩
  all_goals (simp only at *; omega)
theorem tab_form {W : World} {B : Nat} {v : Value} {tab : List (List Nat)} (h : TabK W B v tab) : ∃ (a : Option Addr) (c : Nat), v = .slice a tab.length c := by
  obtain ⟨vs, h1, -⟩ := h
  rcases Joins.ownsRow_forms h1 with ⟨hv, h0⟩ | ⟨g, c, hv⟩
  · rw [h0]; exact ⟨_, _, hv⟩
  · exact ⟨_, _, hv⟩
theorem KS.set3 {w W : World} {b : Nat} {x0 x1 x2 x3 y : Value} {t : TypeId} (h : KS w [(b, #[x0, x1, x2, x3], t)] W) (hb : w.heap.size ≤ b) : KS w [(b, #[x0, x1, x2, y], t)] (W.setCell ⟨b, 3, none⟩ y) := by
  have h2 := (h.blkAt 0 rfl).set 3 y
  simp only [List.setIfInBounds_toArray, List.set_cons_zero, List.set_cons_succ] at h2
  exact ⟨fun x hx => by simp at hx; subst hx; exact h2, h.bel.setCell (p := ⟨b, 3, none⟩) hb y⟩
theorem Blk.set4s {W : World} {b : Nat} {x0 x1 x2 x3 x4 x5 x6 y3 y4 y5 y6 : Value} {t : TypeId} (h : Blk W b #[x0, x1, x2, x3, x4, x5, x6] t) : Blk ((((W.setCell ⟨b, 3, none⟩ y3).setCell ⟨b, 4, none⟩ y4).setCell ⟨b, 5, none⟩ y5).setCell ⟨b, 6, none⟩ y6) b #[x0, x1, x2, y3, y4, y5, y6] t := by
  have h2 := (((h.set 3 y3).set 4 y4).set 5 y5).set 6 y6
  simp only [List.setIfInBounds_toArray, List.set_cons_zero, List.set_cons_succ] at h2
  exact h2
theorem bel_set4s {W w : World} {b : Nat} {y3 y4 y5 y6 : Value} {B : Nat} (h : Below B w W) (hb : B ≤ b) : Below B w ((((W.setCell ⟨b, 3, none⟩ y3).setCell ⟨b, 4, none⟩ y4).setCell ⟨b, 5, none⟩ y5).setCell ⟨b, 6, none⟩ y6) :=
  (((h.setCell (p := ⟨b, 3, none⟩) hb y3).setCell (p := ⟨b, 4, none⟩) hb y4).setCell (p := ⟨b, 5, none⟩) hb y5).setCell (p := ⟨b, 6, none⟩) hb y6
theorem blk_at {W : World} {b b' : Nat} {cs : Array Value} {t : TypeId} (h : Blk W b cs t) (e : b = b') : Blk W b' cs t := e ▸ h
theorem size4 (W : World) (b : Nat) (y3 y4 y5 y6 : Value) : ((((W.setCell ⟨b, 3, none⟩ y3).setCell ⟨b, 4, none⟩ y4).setCell ⟨b, 5, none⟩ y5).setCell ⟨b, 6, none⟩ y6).heap.size = W.heap.size :=
  (World.size_setCell _ _ _).trans ((World.size_setCell _ _ _).trans ((World.size_setCell _ _ _).trans (World.size_setCell _ _ _)))
theorem set4_new (W : World) (b : Nat) (y3 y4 y5 y6 : Value) (cs : Array Value) (t : TypeId) : Blk (((((W.setCell ⟨b, 3, none⟩ y3).setCell ⟨b, 4, none⟩ y4).setCell ⟨b, 5, none⟩ y5).setCell ⟨b, 6, none⟩ y6).alloc (.cells cs t)) W.heap.size cs t :=
  blk_at (Blk.new _ cs t) (size4 W b y3 y4 y5 y6)
end Go.Proofs.YtdfebccmjbocjaaGreatDoor
