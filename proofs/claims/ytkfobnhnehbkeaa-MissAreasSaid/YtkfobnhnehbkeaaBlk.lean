/- Blocks that are known whole; small words for the walks. -/
import Derived.Test.YtkfobnhnehbkeaaRef
namespace Go.Proofs.Ytkfobnhnehbkeaa
open Go.RowKit

/-- BLOCK b OF W HOLDS cs, of type t; nothing in it is frozen. -/
def Blk (W : World) (b : Nat) (cs : Array Value) (t : TypeId) : Prop := W.heap[b]? = some (.cells cs t (0, 0))
section
variable {W W' : World} {b : Nat} {cs : Array Value} {t : TypeId}
theorem Blk.lt (h : Blk W b cs t) : b < W.heap.size := (Array.getElem?_eq_some_iff.1 h).1
theorem Blk.cell (h : Blk W b cs t) (i : Nat) : W.cell? ⟨b, i, none⟩ = cs[i]? := by simp [World.cell?, show W.heap[b]? = _ from h]
theorem Blk.frozen (h : Blk W b cs t) (i : Nat) : W.frozen? ⟨b, i, none⟩ = false := by simp [World.frozen?, show W.heap[b]? = _ from h]
theorem Blk.new (W : World) (cs : Array Value) (t : TypeId) : Blk (W.alloc (.cells cs t)) W.heap.size cs t := (MapKept.heap_alloc W _).1
theorem Blk.kept {row : Option Nat} (h : Blk W b cs t) (hg : W.grownBy W' row) (hne : some b ≠ row) : Blk W' b cs t := (hg.block b h.lt hne).trans h
theorem Blk.alloc (h : Blk W b cs t) (o : Obj) : Blk (W.alloc o) b cs t := h.kept (World.grownBy_alloc W o none) (by simp)
theorem Blk.below {B : Nat} (h : Blk W b cs t) (hb : Below B W W') (hlt : b < B) : Blk W' b cs t := (hb.block b hlt).trans h
theorem Blk.drew (h : Blk W b cs t) : Blk W.drew b cs t := h
theorem Blk.drewN (h : Blk W b cs t) (q : Nat) : Blk (W.drewN q) b cs t := h
theorem Blk.set (h : Blk W b cs t) (i : Nat) (v : Value) : Blk (W.setCell ⟨b, i, none⟩ v) b (cs.setIfInBounds i v) t := by
  obtain ⟨hlt, hk⟩ := Array.getElem?_eq_some_iff.1 h
  show (W.heap.modify b _)[b]? = _
  rw [Array.getElem?_eq_getElem (by rw [Array.size_modify]; exact hlt), Array.getElem_modify_self, hk]
  rfl
theorem Blk.other (h : Blk W b cs t) {a : Addr} (hne : b ≠ a.block) (v : Value) : Blk (W.setCell a v) b cs t := (Below.heap_setCell W a v b hne).trans h
theorem Blk.c1 {x0 : Value} (h : Blk W b #[x0] t) : W.cell? ⟨b, 0, none⟩ = some x0 ∧ W.frozen? ⟨b, 0, none⟩ = false := ⟨h.cell 0, h.frozen 0⟩
theorem Blk.c2 {x0 x1 : Value} (h : Blk W b #[x0, x1] t) : W.cell? ⟨b, 0, none⟩ = some x0 ∧ W.cell? ⟨b, 1, none⟩ = some x1 ∧ W.frozen? ⟨b, 0, none⟩ = false ∧ W.frozen? ⟨b, 1, none⟩ = false :=
  ⟨h.cell 0, h.cell 1, h.frozen 0, h.frozen 1⟩
theorem Blk.c4 {x0 x1 x2 x3 : Value} (h : Blk W b #[x0, x1, x2, x3] t) : W.cell? ⟨b, 0, none⟩ = some x0 ∧ W.cell? ⟨b, 1, none⟩ = some x1 ∧ W.cell? ⟨b, 2, none⟩ = some x2 ∧ W.cell? ⟨b, 3, none⟩ = some x3 :=
  ⟨h.cell 0, h.cell 1, h.cell 2, h.cell 3⟩
theorem Blk.c5 {x0 x1 x2 x3 x4 : Value} (h : Blk W b #[x0, x1, x2, x3, x4] t) : W.cell? ⟨b, 0, none⟩ = some x0 ∧ W.cell? ⟨b, 1, none⟩ = some x1 ∧ W.cell? ⟨b, 2, none⟩ = some x2 ∧ W.cell? ⟨b, 3, none⟩ = some x3 ∧ W.cell? ⟨b, 4, none⟩ = some x4 :=
  ⟨h.cell 0, h.cell 1, h.cell 2, h.cell 3, h.cell 4⟩
theorem Blk.c7 {x0 x1 x2 x3 x4 x5 x6 : Value} (h : Blk W b #[x0, x1, x2, x3, x4, x5, x6] t) : W.cell? ⟨b, 0, none⟩ = some x0 ∧ W.cell? ⟨b, 1, none⟩ = some x1 ∧ W.cell? ⟨b, 2, none⟩ = some x2 ∧ W.cell? ⟨b, 3, none⟩ = some x3 ∧ W.cell? ⟨b, 4, none⟩ = some x4 ∧ W.cell? ⟨b, 5, none⟩ = some x5 ∧ W.cell? ⟨b, 6, none⟩ = some x6 :=
  ⟨h.cell 0, h.cell 1, h.cell 2, h.cell 3, h.cell 4, h.cell 5, h.cell 6⟩
end
/-- two new blocks -/
theorem two_new (w : World) (c1 c2 : Array Value) (t1 t2 : TypeId) : Blk ((w.alloc (.cells c1 t1)).alloc (.cells c2 t2)) w.heap.size c1 t1 ∧ Blk ((w.alloc (.cells c1 t1)).alloc (.cells c2 t2)) (w.heap.size + 1) c2 t2 ∧
    Below w.heap.size w ((w.alloc (.cells c1 t1)).alloc (.cells c2 t2)) ∧ ((w.alloc (.cells c1 t1)).alloc (.cells c2 t2)).heap.size = w.heap.size + 2 :=
  ⟨(Blk.new w c1 t1).alloc _, by have := Blk.new (w.alloc (.cells c1 t1)) c2 t2; rwa [World.size_alloc] at this, ((Below.refl _ _).alloc (Nat.le_refl _) _).alloc (by simp) _, by simp⟩
theorem one_new (w : World) (c1 : Array Value) (t1 : TypeId) : Blk (w.alloc (.cells c1 t1)) w.heap.size c1 t1 ∧ Below w.heap.size w (w.alloc (.cells c1 t1)) ∧ (w.alloc (.cells c1 t1)).heap.size = w.heap.size + 1 :=
  ⟨Blk.new w c1 t1, (Below.refl _ _).alloc (Nat.le_refl _) _, by simp⟩
theorem three_new (w : World) (c1 c2 c3 : Array Value) (t1 t2 t3 : TypeId) : Blk (((w.alloc (.cells c1 t1)).alloc (.cells c2 t2)).alloc (.cells c3 t3)) w.heap.size c1 t1 ∧ Blk (((w.alloc (.cells c1 t1)).alloc (.cells c2 t2)).alloc (.cells c3 t3)) (w.heap.size + 1) c2 t2 ∧
    Blk (((w.alloc (.cells c1 t1)).alloc (.cells c2 t2)).alloc (.cells c3 t3)) (w.heap.size + 1 + 1) c3 t3 ∧
    Below w.heap.size w (((w.alloc (.cells c1 t1)).alloc (.cells c2 t2)).alloc (.cells c3 t3)) ∧ (((w.alloc (.cells c1 t1)).alloc (.cells c2 t2)).alloc (.cells c3 t3)).heap.size = w.heap.size + 3 := by
  obtain ⟨h1, h2, h3, h4⟩ := two_new w c1 c2 t1 t2
  refine ⟨h1.alloc _, h2.alloc _, ?_, h3.alloc (by rw [h4]; omega) _, by rw [World.size_alloc, h4]⟩
  have := Blk.new ((w.alloc (.cells c1 t1)).alloc (.cells c2 t2)) c3 t3
  rwa [h4] at this
theorem _root_.Go.RowKit.Below.drewN' {B : Nat} {a w : World} (h : Below B a w) (q : Nat) : Below B a (w.drewN q) := ⟨h.os, h.tape, h.output, h.size, h.block⟩
theorem grownBy_setNew {w w' : World} {row : Option Nat} (h : w.grownBy w' row) {a : Addr} (ha : w.heap.size ≤ a.block) (v : Value) : w.grownBy (w'.setCell a v) row :=
  ⟨h.os, h.tape, h.output, Nat.le_trans h.size (by simp [World.setCell]), fun k hk hr => (Below.heap_setCell _ _ _ k (by omega)).trans (h.block k hk hr)⟩
theorem Memo.setCell {w : World} {b : Nat} (h : Memo w b) {a : Addr} (hne : b ≠ a.block) (v : Value) : Memo (w.setCell a v) b := by
  obtain ⟨es, clock, hb, F, hv⟩ := h
  exact ⟨es, clock, (Below.heap_setCell w a v b hne).trans hb, F, hv⟩
theorem Memo.drew {w : World} {b : Nat} (h : Memo w b) : Memo w.drew b := h
theorem Memo.drewN {w : World} {b : Nat} (h : Memo w b) (q : Nat) : Memo (w.drewN q) b := h
theorem Memo.below {w w' : World} {b B : Nat} (h : Memo w b) (hb : Below B w w') (hlt : b < B) : Memo w' b := by
  obtain ⟨es, clock, hb', F, hv⟩ := h
  exact ⟨es, clock, (hb.block b hlt).trans hb', F, hv⟩
/-- a new row may be written besides -/
theorem grownBy_rowNew {w w' w'' : World} {row : Option Nat} {b : Nat} (h : w.grownBy w' row) (k : w'.grownBy w'' (some b)) (hb : w.heap.size ≤ b) : w.grownBy w'' row :=
  ⟨k.os.trans h.os, k.tape.trans h.tape, k.output.trans h.output, Nat.le_trans h.size k.size, fun i hi hr => (k.block i (Nat.lt_of_lt_of_le hi h.size) (by simp; omega)).trans (h.block i hi hr)⟩
/-- nothing that existed has turned: whatever row -/
theorem grownBy_below {w w' : World} (h : Below w.heap.size w w') (row : Option Nat) : w.grownBy w' row := ⟨h.os, h.tape, h.output, h.size, fun k hk _ => h.block k hk⟩
/-- a row that is new -/
theorem below_grownBy {w w' w'' : World} {b : Nat} (h : Below w.heap.size w w') (k : w'.grownBy w'' (some b)) (hb : w.heap.size ≤ b) : Below w.heap.size w w'' :=
  h.grown k h.size (fun j e => by cases e; exact hb)
end Go.Proofs.Ytkfobnhnehbkeaa
