/- Blocks that are known whole; blocks that are kept; rows that are stored. -/
import Derived.Test.YtdfebccmjbocjaaGreatDoorRows
import Derived.WalkKit
import Derived.WalkSpells
import Derived.WalkLawsBesides
import Derived.Laws.IdiomCopy
import Derived.Deep.MidRow
import Derived.Lib.Hide
import Derived.Maps.OwnOps
import Derived.DeepKeys4
import Derived.BigQuiet
import Derived.Deep.QuietTactic
import Derived.Deep.RegionHeld3
import Derived.Laws.EntriesVeiled
import Derived.Shelf.Abstract
set_option linter.unusedVariables false
set_option linter.unusedSimpArgs false
namespace Go.Proofs.YtdfebccmjbocjaaGreatDoor
open Go.RowKit Go.Shelf


/-- BLOCK b OF W HOLDS cs, of type t; nothing in it is frozen. -/
def Blk (W : World) (b : Nat) (cs : Array Value) (t : TypeId) : Prop := W.heap[b]? = some (.cells cs t (0, 0))
section
variable {W W' : World} {b : Nat} {cs : Array Value} {t : TypeId}
theorem Blk.lt (h : Blk W b cs t) : b < W.heap.size := (Array.getElem?_eq_some_iff.1 h).1
theorem Blk.cell (h : Blk W b cs t) (i : Nat) : W.cell? ⟨b, i, none⟩ = cs[i]? := by simp [World.cell?, show W.heap[b]? = _ from h]
theorem Blk.frozen (h : Blk W b cs t) (i : Nat) : W.frozen? ⟨b, i, none⟩ = false := by simp [World.frozen?, show W.heap[b]? = _ from h]
theorem Blk.new (W : World) (cs : Array Value) (t : TypeId) : Blk (W.alloc (.cells cs t)) W.heap.size cs t := (MapKept.heap_alloc W _).1
theorem Blk.kept {row : Option Nat} (h : Blk W b cs t) (hg : W.grownBy W' row) (hne : some b ≠ row) : Blk W' b cs t := (hg.block b h.lt hne).trans h
theorem Blk.alloc (h : Blk W b cs t) (o : Obj) : Blk (W.alloc o) b cs t := h.kept (World.grownBy_alloc W o none) (by simp)
theorem Blk.below {B : Nat} (h : Blk W b cs t) (hb : Below B W W') (hlt : b < B) : Blk W' b cs t := (hb.block b hlt).trans h
theorem Blk.drew (h : Blk W b cs t) : Blk W.drew b cs t := h
theorem Blk.drewN (h : Blk W b cs t) (q : Nat) : Blk (W.drewN q) b cs t := h
theorem Blk.set (h : Blk W b cs t) (i : Nat) (v : Value) : Blk (W.setCell ⟨b, i, none⟩ v) b (cs.setIfInBounds i v) t := by
  obtain ⟨hlt, hk⟩ := Array.getElem?_eq_some_iff.1 h
  show (W.heap.modify b _)[b]? = _
  rw [Array.getElem?_eq_getElem (by rw [Array.size_modify]; exact hlt), Array.getElem_modify_self, hk]
  rfl
theorem Blk.other (h : Blk W b cs t) {a : Addr} (hne : b ≠ a.block) (v : Value) : Blk (W.setCell a v) b cs t := (Below.heap_setCell W a v b hne).trans h
theorem Blk.c1 {x0 : Value} (h : Blk W b #[x0] t) : W.cell? ⟨b, 0, none⟩ = some x0 ∧ W.frozen? ⟨b, 0, none⟩ = false := ⟨h.cell 0, h.frozen 0⟩
theorem Blk.c2 {x0 x1 : Value} (h : Blk W b #[x0, x1] t) : W.cell? ⟨b, 0, none⟩ = some x0 ∧ W.cell? ⟨b, 1, none⟩ = some x1 ∧ W.frozen? ⟨b, 0, none⟩ = false ∧ W.frozen? ⟨b, 1, none⟩ = false :=
  ⟨h.cell 0, h.cell 1, h.frozen 0, h.frozen 1⟩
theorem Blk.c4 {x0 x1 x2 x3 : Value} (h : Blk W b #[x0, x1, x2, x3] t) : W.cell? ⟨b, 0, none⟩ = some x0 ∧ W.cell? ⟨b, 1, none⟩ = some x1 ∧ W.cell? ⟨b, 2, none⟩ = some x2 ∧ W.cell? ⟨b, 3, none⟩ = some x3 :=
  ⟨h.cell 0, h.cell 1, h.cell 2, h.cell 3⟩
theorem Blk.c5 {x0 x1 x2 x3 x4 : Value} (h : Blk W b #[x0, x1, x2, x3, x4] t) : W.cell? ⟨b, 0, none⟩ = some x0 ∧ W.cell? ⟨b, 1, none⟩ = some x1 ∧ W.cell? ⟨b, 2, none⟩ = some x2 ∧ W.cell? ⟨b, 3, none⟩ = some x3 ∧ W.cell? ⟨b, 4, none⟩ = some x4 :=
  ⟨h.cell 0, h.cell 1, h.cell 2, h.cell 3, h.cell 4⟩
theorem Blk.c7 {x0 x1 x2 x3 x4 x5 x6 : Value} (h : Blk W b #[x0, x1, x2, x3, x4, x5, x6] t) : W.cell? ⟨b, 0, none⟩ = some x0 ∧ W.cell? ⟨b, 1, none⟩ = some x1 ∧ W.cell? ⟨b, 2, none⟩ = some x2 ∧ W.cell? ⟨b, 3, none⟩ = some x3 ∧ W.cell? ⟨b, 4, none⟩ = some x4 ∧ W.cell? ⟨b, 5, none⟩ = some x5 ∧ W.cell? ⟨b, 6, none⟩ = some x6 :=
  ⟨h.cell 0, h.cell 1, h.cell 2, h.cell 3, h.cell 4, h.cell 5, h.cell 6⟩
end
/-- two new blocks -/
theorem two_new (w : World) (c1 c2 : Array Value) (t1 t2 : TypeId) : Blk ((w.alloc (.cells c1 t1)).alloc (.cells c2 t2)) w.heap.size c1 t1 ∧ Blk ((w.alloc (.cells c1 t1)).alloc (.cells c2 t2)) (w.heap.size + 1) c2 t2 ∧
    Below w.heap.size w ((w.alloc (.cells c1 t1)).alloc (.cells c2 t2)) ∧ ((w.alloc (.cells c1 t1)).alloc (.cells c2 t2)).heap.size = w.heap.size + 2 :=
  ⟨(Blk.new w c1 t1).alloc _, by have := Blk.new (w.alloc (.cells c1 t1)) c2 t2; rwa [World.size_alloc] at this, ((Below.refl _ _).alloc (Nat.le_refl _) _).alloc (by simp) _, by simp⟩
theorem one_new (w : World) (c1 : Array Value) (t1 : TypeId) : Blk (w.alloc (.cells c1 t1)) w.heap.size c1 t1 ∧ Below w.heap.size w (w.alloc (.cells c1 t1)) ∧ (w.alloc (.cells c1 t1)).heap.size = w.heap.size + 1 :=
  ⟨Blk.new w c1 t1, (Below.refl _ _).alloc (Nat.le_refl _) _, by simp⟩
theorem three_new (w : World) (c1 c2 c3 : Array Value) (t1 t2 t3 : TypeId) : Blk (((w.alloc (.cells c1 t1)).alloc (.cells c2 t2)).alloc (.cells c3 t3)) w.heap.size c1 t1 ∧ Blk (((w.alloc (.cells c1 t1)).alloc (.cells c2 t2)).alloc (.cells c3 t3)) (w.heap.size + 1) c2 t2 ∧
    Blk (((w.alloc (.cells c1 t1)).alloc (.cells c2 t2)).alloc (.cells c3 t3)) (w.heap.size + 1 + 1) c3 t3 ∧
    Below w.heap.size w (((w.alloc (.cells c1 t1)).alloc (.cells c2 t2)).alloc (.cells c3 t3)) ∧ (((w.alloc (.cells c1 t1)).alloc (.cells c2 t2)).alloc (.cells c3 t3)).heap.size = w.heap.size + 3 := by
  obtain ⟨h1, h2, h3, h4⟩ := two_new w c1 c2 t1 t2
  refine ⟨h1.alloc _, h2.alloc _, ?_, h3.alloc (by rw [h4]; omega) _, by rw [World.size_alloc, h4]⟩
  have := Blk.new ((w.alloc (.cells c1 t1)).alloc (.cells c2 t2)) c3 t3
  rwa [h4] at this
theorem _root_.Go.RowKit.Below.drewN' {B : Nat} {a w : World} (h : Below B a w) (q : Nat) : Below B a (w.drewN q) := ⟨h.os, h.tape, h.output, h.size, h.block⟩
theorem grownBy_setNew {w w' : World} {row : Option Nat} (h : w.grownBy w' row) {a : Addr} (ha : w.heap.size ≤ a.block) (v : Value) : w.grownBy (w'.setCell a v) row :=
  ⟨h.os, h.tape, h.output, Nat.le_trans h.size (by simp [World.setCell]), fun k hk hr => (Below.heap_setCell _ _ _ k (by omega)).trans (h.block k hk hr)⟩
/-- a new row may be written besides -/
theorem grownBy_rowNew {w w' w'' : World} {row : Option Nat} {b : Nat} (h : w.grownBy w' row) (k : w'.grownBy w'' (some b)) (hb : w.heap.size ≤ b) : w.grownBy w'' row :=
  ⟨k.os.trans h.os, k.tape.trans h.tape, k.output.trans h.output, Nat.le_trans h.size k.size, fun i hi hr => (k.block i (Nat.lt_of_lt_of_le hi h.size) (by simp; omega)).trans (h.block i hi hr)⟩
/-- nothing that existed has turned: whatever row -/
theorem grownBy_below {w w' : World} (h : Below w.heap.size w w') (row : Option Nat) : w.grownBy w' row := ⟨h.os, h.tape, h.output, h.size, fun k hk _ => h.block k hk⟩
/-- a row that is new -/
theorem below_grownBy {w w' w'' : World} {b : Nat} (h : Below w.heap.size w w') (k : w'.grownBy w'' (some b)) (hb : w.heap.size ≤ b) : Below w.heap.size w w'' :=
  h.grown k h.size (fun j e => by cases e; exact hb)
theorem _root_.Go.World.grownBy.trans' {a b c : World} {row : Option Nat} (h : a.grownBy b row) (k : b.grownBy c row) : a.grownBy c row :=
  ⟨k.os.trans h.os, k.tape.trans h.tape, k.output.trans h.output, Nat.le_trans h.size k.size, fun i hi hr => (k.block i (Nat.lt_of_lt_of_le hi h.size) hr).trans (h.block i hi hr)⟩
theorem _root_.Go.World.grownBy.drew' {a b : World} {row : Option Nat} (h : a.drew.grownBy b row) : a.grownBy b row := ⟨h.os, h.tape, h.output, h.size, h.block⟩
theorem Blk.b {W W' : World} {b : Nat} {cs : Array Value} {t : TypeId} (h : Blk W b cs t) (hb : Below W.heap.size W W') : Blk W' b cs t := h.below hb h.lt

def putAt : Array Value → Nat → List Value → Array Value
  | cs, _, [] => cs
  | cs, o, v :: r => putAt (cs.setIfInBounds o v) (o + 1) r
theorem putAt_size : ∀ (vs : List Value) (cs : Array Value) (o : Nat), (putAt cs o vs).size = cs.size
  | [], _, _ => rfl
  | v :: r, cs, o => by rw [putAt, putAt_size r]; simp
theorem putAt_get : ∀ (vs : List Value) (cs : Array Value) (o i : Nat), o + vs.length ≤ cs.size → (putAt cs o vs)[i]? = if o ≤ i ∧ i < o + vs.length then vs[i - o]? else cs[i]?
  | [], cs, o, i, _ => by rw [putAt, if_neg (by simp only [List.length_nil]; omega)]
  | v :: r, cs, o, i, h => by
    simp only [List.length_cons] at h
    rw [putAt, putAt_get r _ _ _ (by simp; omega)]
    by_cases h1 : i = o
    · subst h1
      rw [if_neg (by omega), if_pos (by simp), Array.getElem?_setIfInBounds]
      simp; omega
    · by_cases h2 : o + 1 ≤ i ∧ i < o + 1 + r.length
      · rw [if_pos h2, if_pos (by simp; omega)]
        rw [show i - o = (i - (o + 1)) + 1 by omega, List.getElem?_cons_succ]
      · rw [if_neg h2, if_neg (by simp; omega), Array.getElem?_setIfInBounds, if_neg (by omega)]
theorem putAt_full (cs : Array Value) (vs : List Value) (h : vs.length = cs.size) : putAt cs 0 vs = vs.toArray := by
  apply Array.ext_getElem?
  intro i
  rw [putAt_get _ _ _ _ (by omega)]
  by_cases hi : i < vs.length
  · rw [if_pos (by omega)]; simp
  · rw [if_neg (by omega), Array.getElem?_eq_none (by omega), Array.getElem?_eq_none (by simp; omega)]
theorem Blk.setCells {b : Nat} {t : TypeId} : ∀ (vs : List Value) (o : Nat) {W : World} {cs : Array Value}, Blk W b cs t → Blk (W.setCells b o vs) b (putAt cs o vs) t
  | [], _, _, _, h => h
  | v :: r, o, _, _, h => Blk.setCells r (o + 1) (h.set o v)
theorem grownBy_setCells (b : Nat) : ∀ (vs : List Value) (o : Nat) (W : World), W.grownBy (W.setCells b o vs) (some b)
  | [], _, W => World.grownBy.refl W _
  | v :: r, o, W => ((⟨rfl, rfl, rfl, by simp [World.setCell], fun k _ hr => Below.heap_setCell _ _ _ k (by simpa using hr)⟩ : W.grownBy (W.setCell ⟨b, o, none⟩ v) (some b))).trans' (grownBy_setCells b r (o + 1) _)

section
variable {P : Program} {ops : Array Oper} {o : Oper} {a : Act} {w : World} {K : Act → World → Prop} {Q : Exit → Act → World → Prop}
theorem wp_store_row (ty : TypeId) (x y : Operand) (ho : o.op = .store ty x y) (g : Nat) (hx : a.eval x = .pointer (some ⟨g, 0, none⟩)) (t : TypeId) (cs vs : Array Value) (hy : a.eval y = .agg vs)
    (hg : Blk w g cs t) (hi : (P.info? ty).map (·.size) = some cs.size) (hs : vs.size = cs.size) (h1 : ∀ v ∈ vs.toList, v.oneCell' = true)
    (h : ∀ w', Blk w' g vs t → w.grownBy w' (some g) → K (a.put o.dst undef) w') : o.wp P a w K Q := by
  have hrun := run_storeCells_cells (P := P) g 0 vs.toList 0 w (fun j hj => by
    have hj' : j < cs.size := by simpa [hs] using hj
    have := hg.cell j; simp only [Nat.zero_add] at *; rw [this]; simp [hj']) (fun j _ => by simpa using hg.frozen j) h1
  have hfull : putAt cs 0 vs.toList = vs := by rw [putAt_full _ _ (by simpa using hs)]
  have hb := Blk.setCells vs.toList 0 hg
  rw [hfull] at hb
  cases hq : P.info? ty with
  | none => simp [hq] at hi
  | some i =>
    have hsz : i.size = cs.size := by simpa [hq] using hi
    unfold Oper.wp execOp
    simp [ho, hx, hy, Instr.storeAt, Instr.sureAddr, storeVar, Value.cells, sizeOf, typeInfo, hq, hsz, hs, hrun, Sem.run_bind, Result.andThen]
    exact h _ hb (grownBy_setCells g _ _ _)
theorem step_store_row {E : Prop} (hgd : o.guard = none) (ty : TypeId) (x y : Operand) (ho : o.op = .store ty x y) (g : Nat) (hx : a.eval x = .pointer (some ⟨g, 0, none⟩)) (t : TypeId) (cs vs : Array Value) (hy : a.eval y = .agg vs)
    (hg : Blk w g cs t) (hi : (P.info? ty).map (·.size) = some cs.size) (hs : vs.size = cs.size) (h1 : ∀ v ∈ vs.toList, v.oneCell' = true)
    (h : ∀ w', Blk w' g vs t → w.grownBy w' (some g) → K (a.put o.dst undef) w') : if Region.wanted o (yielded ops a.tmps) = true then Oper.wp P o a w K Q else E := by
  have hw : Region.wanted o (yielded ops a.tmps) = true := by simp [Region.wanted, hgd]
  rw [if_pos hw]
  exact wp_store_row ty x y ho g hx t cs vs hy hg hi hs h1 h
theorem step_load_row {E : Prop} (hgd : o.guard = none) (ty : TypeId) (x : Operand) (ho : o.op = .load ty x) (g : Nat) (hx : a.eval x = .pointer (some ⟨g, 0, none⟩)) (t : TypeId) (cs : Array Value) (d : TypeDesc)
    (hg : Blk w g cs t) (hu : P.underlying ty = some d) (hd : (match d with | .struct _ | .array _ _ => true | _ => false) = true) (hi : (P.info? ty).map (·.size) = some cs.size)
    (h : K (a.put o.dst (.agg cs)) w) : if Region.wanted o (yielded ops a.tmps) = true then Oper.wp P o a w K Q else E := by
  have hw : Region.wanted o (yielded ops a.tmps) = true := by simp [Region.wanted, hgd]
  rw [if_pos hw]
  exact wp_load_row ty x ho g hx t cs (0, 0) d hg hu hd hi h
theorem wpList_store_row {rest : List Oper} (hgd : o.guard = none) (ty : TypeId) (x y : Operand) (ho : o.op = .store ty x y) (g : Nat) (hx : a.eval x = .pointer (some ⟨g, 0, none⟩)) (t : TypeId) (cs vs : Array Value) (hy : a.eval y = .agg vs)
    (hg : Blk w g cs t) (hi : (P.info? ty).map (·.size) = some cs.size) (hs : vs.size = cs.size) (h1 : ∀ v ∈ vs.toList, v.oneCell' = true)
    (h : ∀ w', Blk w' g vs t → w.grownBy w' (some g) → wpList P ops Q rest (a.put o.dst undef) w') : wpList P ops Q (o :: rest) a w :=
  wpList_plain hgd fun _ hK => wp_store_row ty x y ho g hx t cs vs hy hg hi hs h1 fun w' h1 h2 => hK _ _ (h w' h1 h2)
end
theorem Blk.range {W : World} {b : Nat} {cs : List Value} {t : TypeId} (h : Blk W b cs.toArray t) : W.rangeAt b 0 cs := fun j v hv => by
  rw [Nat.zero_add, h.cell j]; simpa using hv
theorem Blk.there {W : World} {b : Nat} {cs : List Value} {t : TypeId} (h : Blk W b cs.toArray t) : W.there b 0 cs.length := fun j hj => by
  rw [Nat.zero_add, h.cell j, h.frozen j]; simp [hj]
/-- behind a row's store: other blocks' cells, the row itself -/
theorem cell_setCells_far {W : World} {a : Addr} {v : Value} (h : W.cell? a = some v) (b o : Nat) (vs : List Value) (hne : a.block ≠ b) : (W.setCells b o vs).cell? a = some v := by
  rw [World.cell?_setCells_out _ _ _ _ _ (fun h1 => absurd h1 hne)]; exact h
theorem cell_setCell_far {W : World} {b : Addr} {v : Value} (h : W.cell? b = some v) (a : Addr) (x : Value) (hne : b.block ≠ a.block) : (W.setCell a x).cell? b = some v := by
  rw [World.cell?_setCell_other _ _ _ _ (fun e => hne (by rw [e]))]; exact h
theorem Blk.setCellsSame {W : World} {b : Nat} {cs : List Value} {t : TypeId} (h : Blk W b cs.toArray t) : Blk (W.setCells b 0 cs) b cs.toArray t := by
  have := h.setCells cs 0
  rwa [putAt_full _ _ (by simp)] at this

/-- the blocks bs are in W as told, and below w nothing has turned -/
def KS (w : World) (bs : List (Nat × Array Value × TypeId)) (W : World) : Prop := (∀ x, x ∈ bs → Blk W x.1 x.2.1 x.2.2) ∧ Below w.heap.size w W
section
variable {w W W' : World} {bs : List (Nat × Array Value × TypeId)}
theorem KS.start (w : World) : KS w [] w := ⟨fun _ h => (by cases h), Below.refl _ _⟩
theorem KS.bel (h : KS w bs W) : Below w.heap.size w W := h.2
theorem KS.below (h : KS w bs W) (hb : Below W.heap.size W W') : KS w bs W' := ⟨fun x hx => (h.1 x hx).b hb, h.2.trans (hb.mono h.2.size)⟩
theorem KS.alloc (h : KS w bs W) (o : Obj) : KS w bs (W.alloc o) := h.below ((Below.refl _ _).alloc (Nat.le_refl _) o)
theorem KS.drew (h : KS w bs W) : KS w bs W.drew := h.below (Below.refl _ _).drew
theorem KS.drewN (h : KS w bs W) (q : Nat) : KS w bs (W.drewN q) := h.below ((Below.refl _ _).drewN' q)
theorem KS.new (h : KS w bs W) (cs : Array Value) (t : TypeId) : KS w ((W.heap.size, cs, t) :: bs) (W.alloc (.cells cs t)) :=
  ⟨fun x hx => by
    rcases List.mem_cons.1 hx with rfl | hx
    · exact Blk.new _ _ _
    · exact (h.alloc _).1 x hx, (h.alloc _).2⟩
theorem KS.blk (h : KS w bs W) {x : Nat × Array Value × TypeId} (hx : x ∈ bs) : Blk W x.1 x.2.1 x.2.2 := h.1 x hx
theorem KS.blkAt (h : KS w bs W) (i : Nat) {b : Nat} {cs : Array Value} {t : TypeId} (hx : bs[i]? = some (b, cs, t)) : Blk W b cs t := h.1 _ (List.mem_of_getElem? hx)
theorem KS.sub (h : KS w bs W) {bs' : List (Nat × Array Value × TypeId)} (hx : ∀ x, x ∈ bs' → x ∈ bs) : KS w bs' W := ⟨fun x h' => h.1 x (hx x h'), h.2⟩
theorem KS.size (h : KS w bs W) : w.heap.size ≤ W.heap.size := h.2.size
theorem KS.lt (h : KS w bs W) (i : Nat) {b : Nat} {cs : Array Value} {t : TypeId} (hx : bs[i]? = some (b, cs, t)) : b < W.heap.size := (h.blkAt i hx).lt
end

/-- the kept blocks, and a new one apart from them -/
def KZ (w : World) (bs : List (Nat × Array Value × TypeId)) (b : Nat) (cs : Array Value) (t : TypeId) (W : World) : Prop := KS w bs W ∧ Blk W b cs t ∧ (∀ x, x ∈ bs → x.1 ≠ b) ∧ w.heap.size ≤ b
section
variable {w W W' : World} {bs : List (Nat × Array Value × TypeId)} {b : Nat} {cs : Array Value} {t : TypeId}
theorem KS.ltAll (h : KS w bs W) : ∀ x, x ∈ bs → x.1 < W.heap.size := fun x hx => (h.1 x hx).lt
theorem KZ.new (h : KS w bs W) (cs : Array Value) (t : TypeId) : KZ w bs W.heap.size cs t (W.alloc (.cells cs t)) := ⟨h.alloc _, Blk.new _ _ _, fun x hx => Nat.ne_of_lt (h.ltAll x hx), h.size⟩
theorem KZ.newD (h : KS w bs W) (cs : Array Value) (t : TypeId) : KZ w bs W.heap.size cs t (W.alloc (.cells cs t)).drew := ⟨(h.alloc _).drew, Blk.new _ _ _, fun x hx => Nat.ne_of_lt (h.ltAll x hx), h.size⟩
theorem KZ.below (h : KZ w bs b cs t W) (hb : Below W.heap.size W W') : KZ w bs b cs t W' := ⟨h.1.below hb, h.2.1.b hb, h.2.2⟩
theorem KZ.drew (h : KZ w bs b cs t W) : KZ w bs b cs t W.drew := ⟨h.1.drew, h.2.1, h.2.2⟩
theorem KZ.ks (h : KZ w bs b cs t W) : KS w bs W := h.1
theorem KZ.all (h : KZ w bs b cs t W) : KS w ((b, cs, t) :: bs) W := ⟨fun x hx => by
  rcases List.mem_cons.1 hx with rfl | hx
  · exact h.2.1
  · exact h.1.1 x hx, h.1.2⟩
theorem KS.setOff (h : KS w bs W) {a : Addr} (ha : w.heap.size ≤ a.block) (hne : ∀ x, x ∈ bs → x.1 ≠ a.block) (v : Value) : KS w bs (W.setCell a v) := ⟨fun x hx => (h.1 x hx).other (hne x hx) v, h.2.setCell ha v⟩
theorem KZ.set (h : KZ w bs b cs t W) (i : Nat) (v : Value) : KZ w bs b (cs.setIfInBounds i v) t (W.setCell ⟨b, i, none⟩ v) :=
  ⟨h.1.setOff h.2.2.2 h.2.2.1 v, h.2.1.set i v, h.2.2⟩
theorem KZ.set2 {x y x' y' : Value} (h : KZ w bs b #[x, y] t W) : KS w ((b, #[x', y'], t) :: bs) ((W.setCell ⟨b, 0, none⟩ x').setCell ⟨b, 1, none⟩ y') := by
  have h1 := ((h.set 0 x').set 1 y').all
  exact h1
theorem KZ.set2D {x y x' y' : Value} (h : KZ w bs b #[x, y] t W) : KS w ((b, #[x', y'], t) :: bs) ((W.drew.setCell ⟨b, 0, none⟩ x').setCell ⟨b, 1, none⟩ y') := h.drew.set2
theorem KZ.keep2 {x y x' y' : Value} (h : KZ w bs b #[x, y] t W) : KS w bs ((W.setCell ⟨b, 0, none⟩ x').setCell ⟨b, 1, none⟩ y') := ((h.set 0 x').set 1 y').ks
theorem KZ.put2 {x y x' y' : Value} (h : KZ w bs b #[x, y] t W) : KZ w bs b #[x', y'] t ((W.setCell ⟨b, 0, none⟩ x').setCell ⟨b, 1, none⟩ y') := (h.set 0 x').set 1 y'
theorem KZ.put2D {x y x' y' : Value} (h : KZ w bs b #[x, y] t W) : KZ w bs b #[x', y'] t ((W.drew.setCell ⟨b, 0, none⟩ x').setCell ⟨b, 1, none⟩ y') := h.drew.put2
theorem KZ.alloc (h : KZ w bs b cs t W) (o : Obj) : KZ w bs b cs t (W.alloc o) := h.below ((Below.refl _ _).alloc (Nat.le_refl _) o)
theorem KZ.drewN (h : KZ w bs b cs t W) (q : Nat) : KZ w bs b cs t (W.drewN q) := h.below ((Below.refl _ _).drewN' q)
theorem KZ.c0 {x y : Value} (h : KZ w bs b #[x, y] t W) : W.cell? ⟨b, 0, none⟩ = some x := h.2.1.cell 0
theorem KZ.c1 {x y : Value} (h : KZ w bs b #[x, y] t W) : W.cell? ⟨b, 1, none⟩ = some y := h.2.1.cell 1
theorem KZ.f (h : KZ w bs b cs t W) (i : Nat) : W.frozen? ⟨b, i, none⟩ = false := h.2.1.frozen i
end

/-- the ways through a region meet again -/
theorem wp_join {P : Program} {code : Code} {Q : Exit → Act → World → Prop} {a : Act} {W : World} (f : Act → Nat → Act) (mid : Nat → World → Prop)
    (h1 : code.wp P (fun e a' W' => e = .normal ∧ ∃ b, a' = f a b ∧ mid b W') a W) (h2 : ∀ b W', mid b W' → Q .normal (f a b) W') : code.wp P Q a W :=
  Code.wp_mono (fun e a' W' h => by obtain ⟨rfl, b, rfl, hm⟩ := h; exact h2 b W' hm) h1
end Go.Proofs.YtdfebccmjbocjaaGreatDoor
