/- Texts of package name, for this seat. -/
import Derived.Test.YtkdflgaahhnigaaC23
set_option linter.unusedVariables false
set_option linter.unusedSimpArgs false
namespace Go.Proofs.Ytkdflgaahhnigaa
open Go.RowKit Go.Shelf

theorem lsplit {l : List Value} {n : Nat} (h : l.length = n + 1) : ∃ v l2, l = v :: l2 ∧ l2.length = n := by
  cases l with
  | nil => cases h
  | cons v l2 => exact ⟨v, l2, rfl, by simpa using h⟩
theorem row_ne_blk {W : World} {B b : Nat} {e t : TypeId} {size : Nat} {v : Value} {k : Nat} {xs : List Value} {cs : Array Value} (h : W.ownsRow B e size v k xs) (hb : Blk W b cs t) (hne : t ≠ e) : v.ownBlock = none ∨ v.ownBlock ≠ some b := by
  rcases h.2 with ⟨rfl, _⟩ | ⟨g, cap, cur, rfl, _, hgb, _⟩
  · exact .inl rfl
  · refine .inr fun e' => ?_
    have e2 : g = b := by simpa [Value.ownBlock] using e'
    subst e2
    have hb' : W.heap[g]? = some (.cells cs t (0, 0)) := hb
    rw [hgb] at hb'; cases hb'; exact hne rfl
theorem row_ne_memo {W : World} {B mb : Nat} {e : TypeId} {size : Nat} {v : Value} {k : Nat} {xs : List Value} {f : Nat → Nat → Nat} (h : W.ownsRow B e size v k xs) (hm : Memo W mb f) : v.ownBlock = none ∨ v.ownBlock ≠ some mb := by
  rcases h.2 with ⟨rfl, _⟩ | ⟨g, cap, cur, rfl, _, hgb, _⟩
  · exact .inl rfl
  · refine .inr fun e' => ?_
    have e2 : g = mb := by simpa [Value.ownBlock] using e'
    subst e2
    obtain ⟨es, clock, hb, _⟩ := hm
    rw [hgb] at hb; cases hb
theorem blk_ne {W : World} {b b' : Nat} {cs cs' : Array Value} {t t' : TypeId} (h : Blk W b cs t) (h' : Blk W b' cs' t') (hne : t ≠ t') : b ≠ b' := by
  rintro rfl
  have h1 : W.heap[b]? = _ := h
  have h2 : W.heap[b]? = _ := h'
  rw [h1] at h2; cases h2; exact hne rfl
/-- where the blocks lie -/
structure AlB (w : World) (Bb Bd Bo d mb : Nat) : Prop where
  bd : w.heap.size ≤ Bd ∧ Bd < Bb
  bo : w.heap.size ≤ Bo ∧ Bo < Bb
  dbo : d ≠ Bo
  dbd : d ≠ Bd
  d : w.heap.size ≤ d ∧ d < Bb
  mb : w.heap.size ≤ mb ∧ mb < Bb
/-- what Align holds: d's box, out's box, c's box, the row, the marks -/
structure AlS (w : World) (Bb Bd Bo d mb : Nat) (a : Option Addr) (n c : Nat) (R : RB) (x y : ByteArray) (v : Value) (l : List (Int × Int)) (Bc i j : Nat) (top : Nat) (ds : List Deferred) (W : World) : Prop where
  bd : Blk W Bd #[.pointer (some ⟨d, 0, none⟩)] 49
  bo : Blk W Bo #[v] 35
  bc : Blk W Bc #[.int .i64 i, .int .i64 j] 53
  row : W.ownsRow Bb 41 2 v l.length (stepsV l)
  duel : DuelR W d a n c R x y mb
  memo : Memo W mb (cR R x y)
  bel : Below w.heap.size w W
  hBc : w.heap.size ≤ Bc
  dbc : d ≠ Bc
  marks : MarksB Bb W top ds
  tp : top ≤ W.heap.size
  bb : Bb ≤ W.heap.size
section
variable {w W W' : World} {Bb Bd Bo d mb : Nat} {a : Option Addr} {n c : Nat} {R : RB} {x y : ByteArray} {v : Value} {l : List (Int × Int)} {Bc i j top : Nat} {ds : List Deferred}
theorem AlS.below (h : AlS w Bb Bd Bo d mb a n c R x y v l Bc i j top ds W) (hb : Below W.heap.size W W') : AlS w Bb Bd Bo d mb a n c R x y v l Bc i j top ds W' :=
  ⟨h.bd.b hb, h.bo.b hb, h.bc.b hb, h.row.kept (grownBy_below hb none) (by cases hv : v.ownBlock <;> simp), h.duel.below hb, h.memo.below hb h.memo.lt, h.bel.trans (hb.mono h.bel.size), h.hBc, h.dbc, h.marks.below hb (Nat.le_refl _), Nat.le_trans h.tp hb.size, Nat.le_trans h.bb hb.size⟩
theorem AlS.kept (h : AlS w Bb Bd Bo d mb a n c R x y v l Bc i j top ds W) {row : Option Nat} (hg : W.grownBy W' row) (hr : ∀ r, row = some r → w.heap.size ≤ r ∧ ∃ o, W.heap[r]? = some o ∧ o.isCells = false) (hm : Memo W' mb (cR R x y)) (ht : ∀ r, row = some r → top ≤ r ∨ W.heap[r]? ≠ some (.deferred (some []))) : AlS w Bb Bd Bo d mb a n c R x y v l Bc i j top ds W' := by
  have ne : ∀ {b : Nat} {cs : Array Value} {t : TypeId}, Blk W b cs t → some b ≠ row := fun {b cs t} hb e => by
    obtain ⟨_, o, ho, hc⟩ := hr _ e.symm
    have hb' : W.heap[b]? = _ := hb
    rw [hb'] at ho; cases ho; cases hc
  refine ⟨h.bd.kept hg (ne h.bd), h.bo.kept hg (ne h.bo), h.bc.kept hg (ne h.bc), h.row.kept hg ?_, ?_, hm, h.bel.grown hg h.bel.size (fun r e => (hr r e).1), h.hBc, h.dbc, h.marks.grown hg ht (Nat.le_refl _), Nat.le_trans h.tp hg.size, Nat.le_trans h.bb hg.size⟩
  · rcases h.row.2 with ⟨rfl, _⟩ | ⟨g, cap, cur, rfl, _, hgb, _⟩
    · exact .inl rfl
    · refine .inr fun e' => ?_
      obtain ⟨_, o, ho, hc⟩ := hr g (by simpa [Value.ownBlock] using e'.symm)
      rw [hgb] at ho; cases ho; cases hc
  · refine DuelB.kept (E := fun k => row = some k) h.duel (KpE.grown hg (fun r e => e)) (fun e => ?_)
    obtain ⟨_, o, ho, hc⟩ := hr d e
    obtain ⟨ob, h1, h2⟩ := h.duel.cells
    rw [h1] at ho; cases ho; rw [h2] at hc; cases hc
theorem AlS.after (h : AlS w Bb Bd Bo d mb a n c R x y v l Bc i j top ds W) (hm : Memo W' mb (cR R x y)) (hg : W.grownBy W' (some mb)) (hmb : w.heap.size ≤ mb) : AlS w Bb Bd Bo d mb a n c R x y v l Bc i j top ds W' := by
  obtain ⟨es, clock, hb, _⟩ := h.memo
  exact h.kept hg (fun r e => by cases e; exact ⟨hmb, _, hb, rfl⟩) hm (fun r e => by cases e; rw [hb]; exact .inr (fun e => by cases e))
/-- the world behind a range's own blocks -/
theorem AlS.own (h : AlS w Bb Bd Bo d mb a n c R x y v l Bc i j top ds W) {row : Option Nat} (hg : W.grownBy W' row) {B : Nat} (hB : w.heap.size ≤ B) (hmb : mb < B) (ht : top ≤ B) (hr : ∀ r, row = some r → B ≤ r ∧ ∃ o, W.heap[r]? = some o ∧ o.isCells = false) : AlS w Bb Bd Bo d mb a n c R x y v l Bc i j top ds W' :=
  h.kept hg (fun r e => ⟨Nat.le_trans hB (hr r e).1, (hr r e).2⟩) (h.memo.kept hg (fun e => by have := (hr _ e.symm).1; omega)) (fun r e => .inl (Nat.le_trans ht (hr r e).1))
/-- a mark more -/
theorem AlS.mark (h : AlS w Bb Bd Bo d mb a n c R x y v l Bc i j top ds W) {D : Nat} (hB : Bb ≤ D) (ht : top ≤ D) (hD : W.heap[D]? = some (.deferred (some []))) : AlS w Bb Bd Bo d mb a n c R x y v l Bc i j W.heap.size (mark D :: ds) W :=
  ⟨h.bd, h.bo, h.bc, h.row, h.duel, h.memo, h.bel, h.hBc, h.dbc, (h.marks.kept (fun _ _ hb => hb) ht).cons hB (Array.getElem?_eq_some_iff.1 hD).1 hD, Nat.le_refl _, h.bb⟩
/-- a new box for c -/
theorem AlS.newC (h : AlS w Bb Bd Bo d mb a n c R x y v l Bc i j top ds W) : AlS w Bb Bd Bo d mb a n c R x y v l W.heap.size i j top ds (W.alloc (.cells #[.int .i64 i, .int .i64 j] 53)) := by
  have h2 := h.below ((Below.refl _ W).alloc (Nat.le_refl _) (.cells #[.int .i64 i, .int .i64 j] 53))
  exact ⟨h2.bd, h2.bo, Blk.new _ _ _, h2.row, h2.duel, h2.memo, h2.bel, h.bel.size, fun e => by have := h.duel.duel.lt; omega, h2.marks, h2.tp, h2.bb⟩
/-- a store into c's box -/
theorem AlS.setC (h : AlS w Bb Bd Bo d mb a n c R x y v l Bc i j top ds W) {i' j' : Nat} {row : Option Nat} (hg : W.grownBy W' row) (hr : ∀ r, row = some r → r = Bc) (hb : Blk W' Bc #[.int .i64 i', .int .i64 j'] 53) (n1 : Bd ≠ Bc) (n2 : Bo ≠ Bc) : AlS w Bb Bd Bo d mb a n c R x y v l Bc i' j' top ds W' := by
  have nm : Bc ≠ mb := h.bc.ne_memo h.memo
  refine ⟨h.bd.kept hg (fun e => n1 (hr _ e.symm)), h.bo.kept hg (fun e => n2 (hr _ e.symm)), hb, h.row.kept hg ?_, DuelB.kept (E := fun k => k = Bc) h.duel (KpE.grown hg hr) h.dbc, h.memo.kept hg (fun e => nm (hr _ e.symm).symm), h.bel.grown hg h.bel.size (fun r e => by rw [hr r e]; exact h.hBc), h.hBc, h.dbc, h.marks.grown hg (fun r e => ?_) (Nat.le_refl _), Nat.le_trans h.tp hg.size, Nat.le_trans h.bb hg.size⟩
  · cases row with
    | none => cases hv : v.ownBlock <;> simp
    | some r => rw [hr r rfl]; exact row_ne_blk h.row h.bc (by decide)
  · have hb' : W.heap[Bc]? = _ := h.bc
    rw [hr r e, hb']; exact .inr (fun e => by cases e)
theorem AlS.grow (h : AlS w Bb Bd Bo d mb a n c R x y v l Bc i j top ds W) (sd : AlB w Bb Bd Bo d mb) (hg : W.grownBy W' v.ownBlock) : Blk W' Bo #[v] 35 ∧ Blk W' Bc #[.int .i64 i, .int .i64 j] 53 ∧ Blk W' Bd #[.pointer (some ⟨d, 0, none⟩)] 49 := by
  have nd : ∀ b, b < Bb → some b ≠ v.ownBlock := fun b hb e => by have := (h.row.lt b e.symm).1; omega
  refine ⟨h.bo.kept hg (nd _ sd.bo.2), h.bc.kept hg (fun e => ?_), h.bd.kept hg (nd _ sd.bd.2)⟩
  rcases row_ne_blk h.row h.bc (by decide) with h2 | h2
  · rw [h2] at e; cases e
  · exact h2 e.symm
/-- one step more in the row, out's box turned -/
theorem AlS.app (h : AlS w Bb Bd Bo d mb a n c R x y v l Bc i j top ds W) (sd : AlB w Bb Bd Bo d mb) {v' : Value} {s : Int × Int} (hv : W'.ownsRow Bb 41 2 v' (l.length + 1) (stepsV l ++ [.int .i64 s.1, .int .i64 s.2])) (hg : W.grownBy W' v.ownBlock) : AlS w Bb Bd Bo d mb a n c R x y v' (l ++ [s]) Bc i j top ds (W'.setCell ⟨Bo, 0, none⟩ v') := by
  have hrow : ∀ r, v.ownBlock = some r → Bb ≤ r := fun r e => (h.row.lt r e).1
  have nd : ∀ b, b < Bb → some b ≠ v.ownBlock := fun b hb e => by have := hrow b e.symm; omega
  have nc : some Bc ≠ v.ownBlock := fun e => by
    rcases row_ne_blk h.row h.bc (by decide) with h2 | h2
    · rw [h2] at e; cases e
    · exact h2 e.symm
  have hbo : Blk W' Bo #[v] 35 := h.bo.kept hg (nd _ sd.bo.2)
  have hbd : Blk W' Bd #[.pointer (some ⟨d, 0, none⟩)] 49 := h.bd.kept hg (nd _ sd.bd.2)
  have hbc : Blk W' Bc #[.int .i64 i, .int .i64 j] 53 := h.bc.kept hg nc
  have n1 : Bd ≠ Bo := fun e => by subst e; have h1 : W'.heap[Bd]? = _ := hbd; have h2 : W'.heap[Bd]? = _ := hbo; rw [h1] at h2; cases h2
  have n2 : Bc ≠ Bo := fun e => by subst e; have h1 : W'.heap[Bc]? = _ := hbc; have h2 : W'.heap[Bc]? = _ := hbo; rw [h1] at h2; cases h2
  have n3 : Bo ≠ mb := h.bo.ne_memo h.memo
  have hg2 := grownBy_setCell' W' Bo v'
  have hm : Memo W' mb (cR R x y) := h.memo.kept hg (nd _ sd.mb.2)
  have hdu : DuelR W' d a n c R x y mb := DuelB.kept (E := fun k => v.ownBlock = some k) h.duel (KpE.grown hg (fun r e => e)) (fun e => nd _ sd.d.2 e.symm)
  have hsz : W'.heap.size ≤ (W'.setCell ⟨Bo, 0, none⟩ v').heap.size := hg2.size
  refine ⟨hbd.other n1 v', hbo.set 0 v', hbc.other n2 v', ?_, DuelB.kept (E := fun k => k = Bo) hdu (KpE.set (E := fun k => k = Bo) rfl v') sd.dbo, hm.setCell n3.symm v', ?_, h.hBc, h.dbc, ?_, Nat.le_trans h.tp (Nat.le_trans hg.size hsz), Nat.le_trans h.bb (Nat.le_trans hg.size hsz)⟩
  · have h2 : W'.ownsRow Bb 41 2 v' (l ++ [s]).length (stepsV (l ++ [s])) := by
      rw [stepsV_snoc, List.length_append]; exact hv
    exact h2.kept hg2 (row_ne_blk h2 hbo (by decide))
  · exact (h.bel.grown hg h.bel.size (fun r e => Nat.le_trans (Nat.le_trans sd.bo.1 (Nat.le_of_lt sd.bo.2)) (hrow r e))).grown hg2 (Nat.le_trans h.bel.size hg.size) (fun r e => by cases e; exact sd.bo.1)
  · refine (h.marks.grown hg (fun r e => .inr (fun e2 => ?_)) (Nat.le_refl _)).grown hg2 (fun r e => .inr (fun e2 => ?_)) (Nat.le_refl _)
    · rcases h.row.2 with ⟨rfl, _⟩ | ⟨g, cap, cur, rfl, _, hgb, _⟩
      · cases e
      · have e3 : g = r := by simpa [Value.ownBlock] using e
        subst e3; rw [hgb] at e2; cases e2
    · cases e
      have h2 : W'.heap[Bo]? = _ := hbo
      rw [h2] at e2; cases e2
end
end Go.Proofs.Ytkdflgaahhnigaa
