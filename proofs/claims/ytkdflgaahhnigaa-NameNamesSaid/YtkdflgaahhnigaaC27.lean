/- Texts of package name, for this seat. -/
import Derived.Test.YtkdflgaahhnigaaC24
import Derived.WalkMore
import Derived.AtR
set_option linter.unusedVariables false
set_option linter.unusedSimpArgs false
namespace Go.Proofs.Ytkdflgaahhnigaa
open Go.RowKit Go.Shelf

theorem stepR_scope {P : Program} {b : Frame} {a : Act} {k : List Item} {cs : List Frame} {w : World} {c : Code} : step P (lone (b.atR a (.code (.scope c) :: k)) cs w) = .next (lone (b.atR a (.code c :: .inScope c :: k)) cs w) :=
  step_lone_go (by simp [stepG, stepG.exec, Frame.atR])
theorem stepR_inScope {P : Program} {b : Frame} {a : Act} {k : List Item} {cs : List Frame} {w : World} {c : Code} : step P (lone (b.atR a (.inScope c :: k)) cs w) = .next (lone (b.atR a k) cs w) :=
  step_lone_go (by simp [stepG, stepG.exec, Frame.atR])
/-- a scope within a fence through which no goto goes -/
theorem wpIn_scope_straight {F : Fence} {n : Nat} {P : Program} {Q : Exit → Act → World → Prop} {a : Act} {w : World} {c : Code} (h : c.wpIn F n P (Exit.noGoto Q) a w) : (Code.scope c).wpIn F n P Q a w := by
  intro b k cs hro hb hr
  have h0 : (lone (b.atR a (.code (.scope c) :: k)) cs w).fenced P F := fenced_calm hb hr rfl
  obtain ⟨e, a₁, w₁, hq, harr⟩ := h b (.inScope c :: k) cs hro hb hr
  cases e with
  | normal => exact ⟨.normal, a₁, w₁, hq, .head h0 stepR_scope (StepsIn.trans harr (.one (fenced_calm hb hr rfl) stepR_inScope))⟩
  | exit id =>
    have hx : exitTo id (.inScope c :: k) = exitTo id k := by simp [exitTo]
    exact ⟨.exit id, a₁, w₁, hq, fun k' hk => .head h0 stepR_scope (harr.1 k' (by rw [hx]; exact hk)), fun hr' hk => let ⟨k₁, h1, h2⟩ := harr.2 hr' (by rw [hx]; exact hk); ⟨k₁, h1, .head h0 stepR_scope h2⟩⟩
  | goto l => exact hq.elim
  | ret => exact ⟨_, a₁, w₁, hq, .of_steps (.one h0 stepR_scope) harr⟩
  | panic ch => exact ⟨_, a₁, w₁, hq, .of_steps (.one h0 stepR_scope) harr⟩
  | outgrown => exact ⟨_, a₁, w₁, hq, .of_steps (.one h0 stepR_scope) harr⟩
/-- where the blocks lie -/
structure PvB (w : World) (Bb Bt Bc d : Nat) : Prop where
  bt : w.heap.size ≤ Bt ∧ Bt < Bb
  bc : w.heap.size ≤ Bc ∧ Bc < Bb
  tc : Bt ≠ Bc
  dbt : d ≠ Bt
  dbc : d ≠ Bc
  d : w.heap.size ≤ d ∧ d < Bb
/-- what ProveAlign holds: the total's box, c's box, the marks -/
structure PvS (w : World) (Bb Bt Bc d mb : Nat) (a : Option Addr) (n c : Nat) (R : RB) (x y : ByteArray) (t i j : Nat) (top : Nat) (ds : List Deferred) (W : World) : Prop where
  bt : Blk W Bt #[.int .i64 t] 3
  bc : Blk W Bc #[.int .i64 i, .int .i64 j] 53
  duel : DuelR W d a n c R x y mb
  bel : Below w.heap.size w W
  marks : MarksB Bb W top ds
  tp : top ≤ W.heap.size
  bb : Bb ≤ W.heap.size
section
variable {w W W' : World} {Bb Bt Bc d mb : Nat} {a : Option Addr} {n c : Nat} {R : RB} {x y : ByteArray} {t i j top : Nat} {ds : List Deferred}
theorem PvS.below (h : PvS w Bb Bt Bc d mb a n c R x y t i j top ds W) (hb : Below W.heap.size W W') : PvS w Bb Bt Bc d mb a n c R x y t i j top ds W' :=
  ⟨h.bt.b hb, h.bc.b hb, h.duel.below hb, h.bel.trans (hb.mono h.bel.size), h.marks.below hb (Nat.le_refl _), Nat.le_trans h.tp hb.size, Nat.le_trans h.bb hb.size⟩
/-- the world behind a range's own blocks -/
theorem PvS.own (h : PvS w Bb Bt Bc d mb a n c R x y t i j top ds W) {row : Option Nat} (hg : W.grownBy W' row) {B : Nat} (hB : w.heap.size ≤ B) (ht : top ≤ B) (hr : ∀ r, row = some r → B ≤ r ∧ ∃ o, W.heap[r]? = some o ∧ o.isCells = false) : PvS w Bb Bt Bc d mb a n c R x y t i j top ds W' := by
  have ne : ∀ {b : Nat} {cs : Array Value} {t : TypeId}, Blk W b cs t → some b ≠ row := fun {b cs t} hb e => by
    obtain ⟨_, o, ho, hc⟩ := hr _ e.symm
    have hb' : W.heap[b]? = _ := hb
    rw [hb'] at ho; cases ho; cases hc
  refine ⟨h.bt.kept hg (ne h.bt), h.bc.kept hg (ne h.bc), ?_, h.bel.grown hg h.bel.size (fun r e => Nat.le_trans hB (hr r e).1), h.marks.grown hg (fun r e => .inl (Nat.le_trans ht (hr r e).1)) (Nat.le_refl _), Nat.le_trans h.tp hg.size, Nat.le_trans h.bb hg.size⟩
  refine DuelB.kept (E := fun k => row = some k) h.duel (KpE.grown hg (fun r e => e)) (fun e => ?_)
  obtain ⟨_, o, ho, hc⟩ := hr d e
  obtain ⟨ob, h1, h2⟩ := h.duel.cells
  rw [h1] at ho; cases ho; rw [h2] at hc; cases hc
/-- a mark more -/
theorem PvS.mark (h : PvS w Bb Bt Bc d mb a n c R x y t i j top ds W) {D : Nat} (hB : Bb ≤ D) (ht : top ≤ D) (hD : W.heap[D]? = some (.deferred (some []))) : PvS w Bb Bt Bc d mb a n c R x y t i j W.heap.size (mark D :: ds) W :=
  ⟨h.bt, h.bc, h.duel, h.bel, (h.marks.kept (fun _ _ hb => hb) ht).cons hB (Array.getElem?_eq_some_iff.1 hD).1 hD, Nat.le_refl _, h.bb⟩
theorem PvS.setT (h : PvS w Bb Bt Bc d mb a n c R x y t i j top ds W) (sd : PvB w Bb Bt Bc d) (t' : Nat) : PvS w Bb Bt Bc d mb a n c R x y t' i j top ds (W.setCell ⟨Bt, 0, none⟩ (.int .i64 t')) := by
  have hg := grownBy_setCell' W Bt (.int .i64 t')
  have hb : W.heap[Bt]? = _ := h.bt
  refine ⟨h.bt.set 0 _, h.bc.other sd.tc.symm _, DuelB.kept (E := fun k => k = Bt) h.duel (KpE.set (E := fun k => k = Bt) rfl _) sd.dbt, h.bel.grown hg h.bel.size (fun r e => by cases e; exact sd.bt.1), h.marks.grown hg (fun r e => .inr (fun e2 => ?_)) (Nat.le_refl _), Nat.le_trans h.tp hg.size, Nat.le_trans h.bb hg.size⟩
  cases e; rw [hb] at e2; cases e2
theorem PvS.setC (h : PvS w Bb Bt Bc d mb a n c R x y t i j top ds W) (sd : PvB w Bb Bt Bc d) (i' j' : Nat) : PvS w Bb Bt Bc d mb a n c R x y t i' j' top ds ((W.setCell ⟨Bc, 0, none⟩ (.int .i64 i')).setCell ⟨Bc, 1, none⟩ (.int .i64 j')) := by
  have key : ∀ {V : World} {p q : Value} (k : Nat) (v : Value), Blk V Bc #[p, q] 53 → PvS w Bb Bt Bc d mb a n c R x y t i j top ds V ∨ (Blk V Bt #[.int .i64 t] 3 ∧ DuelR V d a n c R x y mb ∧ Below w.heap.size w V ∧ MarksB Bb V top ds ∧ top ≤ V.heap.size ∧ Bb ≤ V.heap.size) → (Blk (V.setCell ⟨Bc, k, none⟩ v) Bt #[.int .i64 t] 3 ∧ DuelR (V.setCell ⟨Bc, k, none⟩ v) d a n c R x y mb ∧ Below w.heap.size w (V.setCell ⟨Bc, k, none⟩ v) ∧ MarksB Bb (V.setCell ⟨Bc, k, none⟩ v) top ds ∧ top ≤ (V.setCell ⟨Bc, k, none⟩ v).heap.size ∧ Bb ≤ (V.setCell ⟨Bc, k, none⟩ v).heap.size) := by
    intro V p q k v hb h
    have h' : Blk V Bt #[.int .i64 t] 3 ∧ DuelR V d a n c R x y mb ∧ Below w.heap.size w V ∧ MarksB Bb V top ds ∧ top ≤ V.heap.size ∧ Bb ≤ V.heap.size := by
      rcases h with h | h
      · exact ⟨h.bt, h.duel, h.bel, h.marks, h.tp, h.bb⟩
      · exact h
    obtain ⟨h1, h2, h3, h4, h5, h6⟩ := h'
    have hb' : V.heap[Bc]? = _ := hb
    have hsz : V.heap.size ≤ (V.setCell ⟨Bc, k, none⟩ v).heap.size := by simp
    refine ⟨h1.other sd.tc v, DuelB.kept (E := fun z => z = Bc) h2 (KpE.set (E := fun z => z = Bc) rfl v) sd.dbc, h3.setCell (by exact sd.bc.1) v, h4.kept (fun D hD hm => ?_) (Nat.le_refl _), Nat.le_trans h5 hsz, Nat.le_trans h6 hsz⟩
    exact (Below.heap_setCell V ⟨Bc, k, none⟩ v D (fun e => by
      have e' : D = Bc := e
      subst e'; rw [hb'] at hm; cases hm)).trans hm
  have b1 := h.bc.set 0 (.int .i64 i')
  have k1 := key 0 (.int .i64 i') h.bc (.inl h)
  have k2 := key 1 (.int .i64 j') b1 (.inr k1)
  exact ⟨k2.1, b1.set 1 (.int .i64 j'), k2.2.1, k2.2.2.1, k2.2.2.2.1, k2.2.2.2.2.1, k2.2.2.2.2.2⟩
end
end Go.Proofs.Ytkdflgaahhnigaa
