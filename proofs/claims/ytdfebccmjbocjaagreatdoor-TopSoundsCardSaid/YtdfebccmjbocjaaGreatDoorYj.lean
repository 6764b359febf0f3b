/- tithinglaw02: what Truly() holds between its steps. -/
import Derived.Test.YtdfebccmjbocjaaGreatDoorYi
set_option linter.unusedVariables false
set_option linter.unusedSimpArgs false
namespace Go.Proofs.YtdfebccmjbocjaaGreatDoor
open Go.RowKit Go.Shelf

theorem Tryz.info47 : (Tryz.prog.info? 47).map (fun i => (i.zero, i.size, i.bytes)) = some (some (.agg #[.int .i64 0, .int .i64 0, .int .i64 0, .int .i64 0, .int .i64 0]), 5, 40) := by kernel_rfl
theorem Tryz.info92 : (Tryz.prog.info? 92).map (fun i => (i.zero, i.size, i.bytes)) = some (some (.agg #[.int .i64 0, .int .i64 0]), 2, 16) := by kernel_rfl
theorem own_types_ne {W : World} {B B' : Nat} {e e' : TypeId} {k k' n n' : Nat} {v v' : Value} {xs xs' : List Value} (h : W.ownsRow B e k v n xs) (h' : W.ownsRow B' e' k' v' n' xs') (hne : e ≠ e') : ∀ r, v.ownBlock = some r → v'.ownBlock ≠ some r := by
  intro r h1 h2
  rcases h with ⟨_, ⟨rfl, _⟩ | ⟨g, cap, cur, rfl, _, hg, _⟩⟩
  · cases h1
  rcases h' with ⟨_, ⟨rfl, _⟩ | ⟨g', cap', cur', rfl, _, hg', _⟩⟩
  · cases h2
  simp only [Value.ownBlock, Option.some.injEq] at h1 h2
  subst h1
  subst h2
  rw [hg] at hg'
  simp only [Option.some.injEq, Obj.cells.injEq] at hg'
  exact hne hg'.2.1
theorem own_kept {W W' : World} {B : Nat} {e : TypeId} {k n : Nat} {v : Value} {xs : List Value} {row : Option Nat} (h : W.ownsRow B e k v n xs) (hg : W.grownBy W' row) (hr : ∀ r, row = some r → v.ownBlock ≠ some r) : W'.ownsRow B e k v n xs :=
  h.kept hg (by
    cases hb : v.ownBlock with
    | none => exact .inl rfl
    | some q => exact .inr (fun e2 => hr q e2.symm hb))
/-- between the steps of Truly() -/
structure TI (w : World) (ve vs va vo : Value) (es : List Ent) (sm ap : List (Nat × Nat)) (of : List Nat) (ol oh nl nh : Int) (W : World) : Prop where
  res : Blk W w.heap.size (cenA (.slice none 0 0) (.slice none 0 0) (.slice none 0 0) 0 0 0 0) 40
  box : Blk W (w.heap.size + 1) (cenA ve vs va ol oh nl nh) 40
  e : W.ownsRow (w.heap.size + 2) 47 5 ve es.length (entsV es)
  s : W.ownsRow (w.heap.size + 2) 92 2 vs sm.length (pairsV sm)
  a : W.ownsRow (w.heap.size + 2) 92 2 va ap.length (pairsV ap)
  sa : ∀ r, vs.ownBlock = some r → va.ownBlock ≠ some r
  o : OwnN W (w.heap.size + 2) vo of
  bel : Below w.heap.size w W
section
variable {w W W' : World} {ve vs va vo v' : Value} {es : List Ent} {sm ap : List (Nat × Nat)} {of : List Nat} {ol oh nl nh : Int}
theorem TI.below (h : TI w ve vs va vo es sm ap of ol oh nl nh W) (hb : Below W.heap.size W W') : TI w ve vs va vo es sm ap of ol oh nl nh W' :=
  ⟨h.res.b hb, h.box.b hb, row_below h.e hb, row_below h.s hb, row_below h.a hb, h.sa, row_below h.o hb, h.bel.trans (hb.mono h.bel.size)⟩
theorem TI.size (h : TI w ve vs va vo es sm ap of ol oh nl nh W) : w.heap.size + 2 ≤ W.heap.size := h.box.lt
theorem TI.boxG (h : TI w ve vs va vo es sm ap of ol oh nl nh W) {row : Option Nat} (hg : W.grownBy W' row) (hr : ∀ r, row = some r → w.heap.size + 2 ≤ r) : Blk W' (w.heap.size + 1) (cenA ve vs va ol oh nl nh) 40 ∧ Blk W' w.heap.size (cenA (.slice none 0 0) (.slice none 0 0) (.slice none 0 0) 0 0 0 0) 40 ∧ Below w.heap.size w W' :=
  ⟨h.box.kept hg (fun e => by have := hr _ e.symm; omega), h.res.kept hg (fun e => by have := hr _ e.symm; omega), h.bel.grown hg h.bel.size (fun r e => by have := hr r e; omega)⟩
theorem cen_set {W : World} {B : Nat} {ve vs va : Value} {ol oh nl nh : Int} {t : TypeId} (h : Blk W B (cenA ve vs va ol oh nl nh) t) (v' : Value) :
    Blk (W.setCell ⟨B, 0, none⟩ v') B (cenA v' vs va ol oh nl nh) t ∧ Blk (W.setCell ⟨B, 1, none⟩ v') B (cenA ve v' va ol oh nl nh) t ∧ Blk (W.setCell ⟨B, 2, none⟩ v') B (cenA ve vs v' ol oh nl nh) t := by
  have h0 := h.set 0 v'
  have h1 := h.set 1 v'
  have h2 := h.set 2 v'
  simp only [List.setIfInBounds_toArray, List.set_cons_zero, List.set_cons_succ] at h0 h1 h2
  exact ⟨h0, h1, h2⟩
theorem own_setc {W : World} {B : Nat} {e : TypeId} {k n i : Nat} {v : Value} {xs : List Value} (h : W.ownsRow (w.heap.size + 2) e k v n xs) (u : Value) : (W.setCell ⟨w.heap.size + 1, i, none⟩ u).ownsRow (w.heap.size + 2) e k v n xs :=
  ownsRow_setCell_other h (a := ⟨w.heap.size + 1, i, none⟩) (fun e => by have h3 : w.heap.size + 2 ≤ w.heap.size + 1 := (h.lt _ e).1; omega) u
theorem TI.appE (h : TI w ve vs va vo es sm ap of ol oh nl nh W) (hg : W.grownBy W' ve.ownBlock) (x : Ent) (ho : W'.ownsRow (w.heap.size + 2) 47 5 v' (es.length + 1) (entsV es ++ entsV [x])) : TI w v' vs va vo (es ++ [x]) sm ap of ol oh nl nh (W'.setCell ⟨w.heap.size + 1, 0, none⟩ v') := by
  obtain ⟨b1, b2, b3⟩ := h.boxG hg (fun r e => (h.e.lt r e).1)
  refine ⟨b2.other (a := ⟨w.heap.size + 1, 0, none⟩) (by show w.heap.size ≠ w.heap.size + 1; omega) v', (cen_set b1 v').1, ?_, own_setc (B := 0) (own_kept h.s hg (own_types_ne h.e h.s (by decide))) v', own_setc (B := 0) (own_kept h.a hg (own_types_ne h.e h.a (by decide))) v', h.sa, own_setc (B := 0) (own_kept h.o hg (own_types_ne h.e h.o (by decide))) v', b3.setCell (p := ⟨w.heap.size + 1, 0, none⟩) (Nat.le_succ _) v'⟩
  rw [List.length_append, entsV_app]
  exact own_setc (B := 0) ho v'
theorem TI.appO (h : TI w ve vs va vo es sm ap of ol oh nl nh W) (hg : W.grownBy W' vo.ownBlock) (x : Nat) (ho : W'.ownsRow (w.heap.size + 2) 3 1 v' (of.length + 1) (natV of ++ [.int .i64 (x : Int)])) : TI w ve vs va v' es sm ap (of ++ [x]) ol oh nl nh W' := by
  obtain ⟨b1, b2, b3⟩ := h.boxG hg (fun r e => (h.o.lt r e).1)
  refine ⟨b2, b1, own_kept h.e hg (own_types_ne h.o h.e (by decide)), own_kept h.s hg (own_types_ne h.o h.s (by decide)), own_kept h.a hg (own_types_ne h.o h.a (by decide)), h.sa, ?_, b3⟩
  unfold OwnN
  rw [List.length_append]
  simpa [natV] using ho
theorem TI.appS (h : TI w ve vs va vo es sm ap of ol oh nl nh W) (hg : W.grownBy W' vs.ownBlock) (hat : v'.ownBlock = vs.ownBlock ∨ v'.ownBlock = some W.heap.size) (x : Nat × Nat) (ho : W'.ownsRow (w.heap.size + 2) 92 2 v' (sm.length + 1) (pairsV sm ++ pairsV [x])) : TI w ve v' va vo es (sm ++ [x]) ap of ol oh nl nh (W'.setCell ⟨w.heap.size + 1, 1, none⟩ v') := by
  obtain ⟨b1, b2, b3⟩ := h.boxG hg (fun r e => (h.s.lt r e).1)
  refine ⟨b2.other (a := ⟨w.heap.size + 1, 1, none⟩) (by show w.heap.size ≠ w.heap.size + 1; omega) v', (cen_set b1 v').2.1, own_setc (B := 0) (own_kept h.e hg (own_types_ne h.s h.e (by decide))) v', ?_, own_setc (B := 0) (own_kept h.a hg h.sa) v', fun r e e2 => ?_, own_setc (B := 0) (own_kept h.o hg (own_types_ne h.s h.o (by decide))) v', b3.setCell (p := ⟨w.heap.size + 1, 1, none⟩) (Nat.le_succ _) v'⟩
  · rw [List.length_append, pairsV_app]
    exact own_setc (B := 0) ho v'
  · rcases hat with hat | hat
    · exact h.sa r (hat ▸ e) e2
    · rw [hat] at e; cases e; have := (h.a.lt _ e2).2; omega
theorem TI.appA (h : TI w ve vs va vo es sm ap of ol oh nl nh W) (hg : W.grownBy W' va.ownBlock) (hat : v'.ownBlock = va.ownBlock ∨ v'.ownBlock = some W.heap.size) (x : Nat × Nat) (ho : W'.ownsRow (w.heap.size + 2) 92 2 v' (ap.length + 1) (pairsV ap ++ pairsV [x])) : TI w ve vs v' vo es sm (ap ++ [x]) of ol oh nl nh (W'.setCell ⟨w.heap.size + 1, 2, none⟩ v') := by
  obtain ⟨b1, b2, b3⟩ := h.boxG hg (fun r e => (h.a.lt r e).1)
  refine ⟨b2.other (a := ⟨w.heap.size + 1, 2, none⟩) (by show w.heap.size ≠ w.heap.size + 1; omega) v', (cen_set b1 v').2.2, own_setc (B := 0) (own_kept h.e hg (own_types_ne h.a h.e (by decide))) v', own_setc (B := 0) (own_kept h.s hg (fun r e e2 => h.sa r e2 e)) v', ?_, fun r e e2 => ?_, own_setc (B := 0) (own_kept h.o hg (own_types_ne h.a h.o (by decide))) v', b3.setCell (p := ⟨w.heap.size + 1, 2, none⟩) (Nat.le_succ _) v'⟩
  · rw [List.length_append, pairsV_app]
    exact own_setc (B := 0) ho v'
  · rcases hat with hat | hat
    · exact h.sa r e (hat ▸ e2)
    · rw [hat] at e2; cases e2; have := (h.s.lt _ e).2; omega
end

/-! what Truly() has gathered, plain -/
def entG (es : List Ent) (i : Nat) : Ent := es.getD i ⟨0, 0, 0, 0, 0⟩
structure TP (es : List Ent) (of : List Nat) : Prop where
  len : es.length = of.length
  lt5 : ∀ i, i < of.length → ofF of i < 5
  ent : ∀ i, i < of.length → (entG es i).s ≤ 9 ∧ (entG es i).x = ofF of i % 2 ∧ (entG es i).k = ofF of i / 3 ∧ (30 ≤ (entG es i).lo ∧ (entG es i).lo ≤ 31) ∧ (entG es i).lo ≤ (entG es i).hi ∧ (entG es i).hi ≤ (entG es i).lo + 2
  same : ∀ i j, i < of.length → j < of.length → i ≠ j → ofF of i = ofF of j → (entG es i).s ≠ (entG es j).s ∧ (entG es i).lo = (entG es j).lo
theorem TP.nil : TP [] [] := ⟨rfl, fun i h => absurd h (Nat.not_lt_zero _), fun i h => absurd h (Nat.not_lt_zero _), fun i j h => absurd h (Nat.not_lt_zero _)⟩
theorem ofF_app (of : List Nat) (p i : Nat) : ofF (of ++ [p]) i = if i < of.length then ofF of i else if i = of.length then p else 0 := by
  unfold ofF
  rw [List.getD_eq_getElem?_getD, List.getD_eq_getElem?_getD, List.getElem?_append]
  by_cases h : i < of.length
  · simp [h]
  · rw [if_neg h, if_neg h]
    by_cases h2 : i = of.length
    · subst h2; simp
    · rw [if_neg h2, List.getElem?_eq_none (by simp; omega)]; rfl
theorem entG_app (es : List Ent) (x : Ent) (i : Nat) : entG (es ++ [x]) i = if i < es.length then entG es i else if i = es.length then x else ⟨0, 0, 0, 0, 0⟩ := by
  unfold entG
  rw [List.getD_eq_getElem?_getD, List.getD_eq_getElem?_getD, List.getElem?_append]
  by_cases h : i < es.length
  · simp [h]
  · rw [if_neg h, if_neg h]
    by_cases h2 : i = es.length
    · subst h2; simp
    · rw [if_neg h2, List.getElem?_eq_none (by simp; omega)]; rfl
theorem TP.app {es : List Ent} {of : List Nat} (h : TP es of) {p sc lo hi : Nat} (hp : p < 5) (hs : sc ≤ 9) (hl : 30 ≤ lo ∧ lo ≤ 31) (hh : lo ≤ hi ∧ hi ≤ lo + 2) (hfree : ∀ j, j < of.length → ofF of j = p → (entG es j).s ≠ sc) (hage : ∀ j, j < of.length → ofF of j = p → (entG es j).lo = lo) :
    TP (es ++ [⟨sc, p % 2, p / 3, lo, hi⟩]) (of ++ [p]) := by
  have hlen := h.len
  refine ⟨by simp [hlen], fun i hi' => ?_, fun i hi' => ?_, fun i j hi' hj' hne he => ?_⟩
  · rw [ofF_app]
    simp only [List.length_append, List.length_cons, List.length_nil] at hi'
    by_cases h1 : i < of.length
    · rw [if_pos h1]; exact h.lt5 i h1
    · rw [if_neg h1, if_pos (by omega)]; exact hp
  · rw [ofF_app, entG_app, hlen]
    simp only [List.length_append, List.length_cons, List.length_nil] at hi'
    by_cases h1 : i < of.length
    · rw [if_pos h1, if_pos h1]; exact h.ent i h1
    · rw [if_neg h1, if_neg h1, if_pos (by omega), if_pos (by omega)]
      exact ⟨hs, rfl, rfl, hl, hh.1, hh.2⟩
  · rw [ofF_app, ofF_app] at he
    rw [entG_app, entG_app, hlen]
    simp only [List.length_append, List.length_cons, List.length_nil] at hi' hj'
    by_cases h1 : i < of.length
    · by_cases h2 : j < of.length
      · rw [if_pos h1, if_pos h2] at he
        rw [if_pos h1, if_pos h2]
        exact h.same i j h1 h2 hne he
      · rw [if_pos h1, if_neg h2, if_pos (by omega)] at he
        rw [if_pos h1, if_neg h2, if_pos (by omega)]
        exact ⟨hfree i h1 he, hage i h1 he⟩
    · by_cases h2 : j < of.length
      · rw [if_pos h2, if_neg h1, if_pos (by omega)] at he
        rw [if_pos h2, if_neg h1, if_pos (by omega)]
        exact ⟨fun e => hfree j h2 he.symm e.symm, (hage j h2 he.symm).symm⟩
      · omega
/-- pairs that are true -/
def PrT (of : List Nat) (same : Bool) (ps : List (Nat × Nat)) : Prop := ∀ p ∈ ps, (p.1 < of.length ∧ p.2 < p.1) ∧ decide (ofF of p.1 = ofF of p.2) = same
theorem PrT.nil (of : List Nat) (b : Bool) : PrT of b [] := fun p hp => by cases hp
theorem PrT.app {of : List Nat} {b : Bool} {ps : List (Nat × Nat)} (h : PrT of b ps) {i k : Nat} (hi : i < of.length) (hk : k < i) (he : decide (ofF of i = ofF of k) = b) : PrT of b (ps ++ [(i, k)]) := fun p hp => by
  rcases List.mem_append.1 hp with hp | hp
  · exact h p hp
  · simp at hp; subst hp; exact ⟨⟨hi, hk⟩, he⟩
theorem entG_at {es : List Ent} {e : Ent} (h : e ∈ es) : ∃ i, i < es.length ∧ entG es i = e := by
  obtain ⟨i, hi⟩ := List.getElem?_of_mem h
  exact ⟨i, (List.getElem?_eq_some_iff.1 hi).1, by unfold entG; rw [List.getD_eq_getElem?_getD, hi]; rfl⟩
theorem TP.tru {es : List Ent} {of : List Nat} {sm ap : List (Nat × Nat)} (h : TP es of) (h9 : of.length ≤ 9) (hs : PrT of true sm) (ha : PrT of false ap) : Tru es sm ap of :=
  ⟨h.len, h9, h.lt5, fun i j hi hj hne he => by
    obtain ⟨a1, a2⟩ := h.same i j hi hj hne he
    obtain ⟨i1, i2, i3, i4, i5, i6⟩ := h.ent i hi
    obtain ⟨j1, j2, j3, j4, j5, j6⟩ := h.ent j hj
    unfold entG at a1 a2 i1 i2 i3 i4 i5 i6 j1 j2 j3 j4 j5 j6
    have e1 : (es.getD i ⟨0, 0, 0, 0, 0⟩).x = (es.getD j ⟨0, 0, 0, 0, 0⟩).x := by rw [i2, j2, he]
    have e2 : (es.getD i ⟨0, 0, 0, 0, 0⟩).k = (es.getD j ⟨0, 0, 0, 0, 0⟩).k := by rw [i3, j3, he]
    unfold fitA fitE
    rw [decide_eq_false a1, decide_eq_true e1, decide_eq_true e2, decide_eq_true (by omega)]
    rfl, fun p hp => ⟨⟨(hs p hp).1.1, by have := (hs p hp).1; omega⟩, of_decide_eq_true (hs p hp).2⟩, fun p hp => ⟨⟨(ha p hp).1.1, by have := (ha p hp).1; omega⟩, of_decide_eq_false (ha p hp).2⟩⟩
theorem TP.cen {es : List Ent} {of : List Nat} {sm ap : List (Nat × Nat)} {om nu : Nat × Nat} (h : TP es of) (h9 : of.length ≤ 9) (hs : PrT of true sm) (ha : PrT of false ap) (h5 : sm.length ≤ 5) (h5a : ap.length ≤ 5) (hom : om.1 ≤ om.2 ∧ om.2 ≤ 100) (hnu : nu.1 ≤ nu.2 ∧ nu.2 ≤ 200) : CenOk es sm ap om nu := by
  have hl := h.len
  refine ⟨by omega, by omega, by omega, fun e he => ?_, fun p hp => ?_, fun p hp => ?_, hom, hnu⟩
  · obtain ⟨i, hi, rfl⟩ := entG_at he
    obtain ⟨i1, i2, i3, i4, i5, i6⟩ := h.ent i (by omega)
    have := h.lt5 i (by omega)
    exact ⟨i1, by omega, by omega, i5, by omega⟩
  · have := (hs p hp).1; omega
  · have := (ha p hp).1; omega
end Go.Proofs.YtdfebccmjbocjaaGreatDoor
