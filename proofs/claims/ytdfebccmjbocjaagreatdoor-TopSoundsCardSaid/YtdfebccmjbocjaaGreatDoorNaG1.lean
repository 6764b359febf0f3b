/- Texts of this seat, merged. -/
import Derived.Test.YtdfebccmjbocjaaGreatDoorB
import Derived.Test.YtdfebccmjbocjaaGreatDoorRows
import Derived.WalkKit
import Derived.WalkSpells
import Derived.WalkLawsBesides
import Derived.Laws.IdiomCopy
import Derived.Deep.MidRow
import Derived.Lib.Hide
import Derived.Maps.OwnOps
import Derived.DeepKeys4
import Derived.BigQuiet
import Derived.Deep.QuietTactic
import Derived.Deep.RegionHeld3
import Derived.Laws.EntriesVeiled
import Derived.Shelf.Abstract
import Derived.Shelf.Small.Strs
import Derived.Lib.ConvBytes
import Derived.Test.YtdfebccmjbocjaaGreatDoorZs
set_option linter.unusedVariables false
set_option linter.unusedSimpArgs false
namespace Go.Proofs.YtdfebccmjbocjaaGreatDoor.Na
open Go.RowKit Go.Shelf


/-- BLOCK b OF W HOLDS cs, of type t; nothing in it is frozen. -/
def Blk (W : World) (b : Nat) (cs : Array Value) (t : TypeId) : Prop := W.heap[b]? = some (.cells cs t (0, 0))
section
variable {W W' : World} {b : Nat} {cs : Array Value} {t : TypeId}
theorem Blk.lt (h : Blk W b cs t) : b < W.heap.size := (Array.getElem?_eq_some_iff.1 h).1
theorem Blk.cell (h : Blk W b cs t) (i : Nat) : W.cell? ⟨b, i, none⟩ = cs[i]? := by simp [World.cell?, show W.heap[b]? = _ from h]
theorem Blk.frozen (h : Blk W b cs t) (i : Nat) : W.frozen? ⟨b, i, none⟩ = false := by simp [World.frozen?, show W.heap[b]? = _ from h]
theorem Blk.new (W : World) (cs : Array Value) (t : TypeId) : Blk (W.alloc (.cells cs t)) W.heap.size cs t := (MapKept.heap_alloc W _).1
theorem Blk.kept {row : Option Nat} (h : Blk W b cs t) (hg : W.grownBy W' row) (hne : some b ≠ row) : Blk W' b cs t := (hg.block b h.lt hne).trans h
theorem Blk.alloc (h : Blk W b cs t) (o : Obj) : Blk (W.alloc o) b cs t := h.kept (World.grownBy_alloc W o none) (by simp)
theorem Blk.below {B : Nat} (h : Blk W b cs t) (hb : Below B W W') (hlt : b < B) : Blk W' b cs t := (hb.block b hlt).trans h
theorem Blk.drew (h : Blk W b cs t) : Blk W.drew b cs t := h
theorem Blk.drewN (h : Blk W b cs t) (q : Nat) : Blk (W.drewN q) b cs t := h
theorem Blk.set (h : Blk W b cs t) (i : Nat) (v : Value) : Blk (W.setCell ⟨b, i, none⟩ v) b (cs.setIfInBounds i v) t := by
  obtain ⟨hlt, hk⟩ := Array.getElem?_eq_some_iff.1 h
  show (W.heap.modify b _)[b]? = _
  rw [Array.getElem?_eq_getElem (by rw [Array.size_modify]; exact hlt), Array.getElem_modify_self, hk]
  rfl
theorem Blk.other (h : Blk W b cs t) {a : Addr} (hne : b ≠ a.block) (v : Value) : Blk (W.setCell a v) b cs t := (Below.heap_setCell W a v b hne).trans h
theorem Blk.c1 {x0 : Value} (h : Blk W b #[x0] t) : W.cell? ⟨b, 0, none⟩ = some x0 ∧ W.frozen? ⟨b, 0, none⟩ = false := ⟨h.cell 0, h.frozen 0⟩
theorem Blk.c2 {x0 x1 : Value} (h : Blk W b #[x0, x1] t) : W.cell? ⟨b, 0, none⟩ = some x0 ∧ W.cell? ⟨b, 1, none⟩ = some x1 ∧ W.frozen? ⟨b, 0, none⟩ = false ∧ W.frozen? ⟨b, 1, none⟩ = false :=
  ⟨h.cell 0, h.cell 1, h.frozen 0, h.frozen 1⟩
theorem Blk.c4 {x0 x1 x2 x3 : Value} (h : Blk W b #[x0, x1, x2, x3] t) : W.cell? ⟨b, 0, none⟩ = some x0 ∧ W.cell? ⟨b, 1, none⟩ = some x1 ∧ W.cell? ⟨b, 2, none⟩ = some x2 ∧ W.cell? ⟨b, 3, none⟩ = some x3 :=
  ⟨h.cell 0, h.cell 1, h.cell 2, h.cell 3⟩
theorem Blk.c5 {x0 x1 x2 x3 x4 : Value} (h : Blk W b #[x0, x1, x2, x3, x4] t) : W.cell? ⟨b, 0, none⟩ = some x0 ∧ W.cell? ⟨b, 1, none⟩ = some x1 ∧ W.cell? ⟨b, 2, none⟩ = some x2 ∧ W.cell? ⟨b, 3, none⟩ = some x3 ∧ W.cell? ⟨b, 4, none⟩ = some x4 :=
  ⟨h.cell 0, h.cell 1, h.cell 2, h.cell 3, h.cell 4⟩
theorem Blk.c7 {x0 x1 x2 x3 x4 x5 x6 : Value} (h : Blk W b #[x0, x1, x2, x3, x4, x5, x6] t) : W.cell? ⟨b, 0, none⟩ = some x0 ∧ W.cell? ⟨b, 1, none⟩ = some x1 ∧ W.cell? ⟨b, 2, none⟩ = some x2 ∧ W.cell? ⟨b, 3, none⟩ = some x3 ∧ W.cell? ⟨b, 4, none⟩ = some x4 ∧ W.cell? ⟨b, 5, none⟩ = some x5 ∧ W.cell? ⟨b, 6, none⟩ = some x6 :=
  ⟨h.cell 0, h.cell 1, h.cell 2, h.cell 3, h.cell 4, h.cell 5, h.cell 6⟩
end
/-- two new blocks -/
theorem two_new (w : World) (c1 c2 : Array Value) (t1 t2 : TypeId) : Blk ((w.alloc (.cells c1 t1)).alloc (.cells c2 t2)) w.heap.size c1 t1 ∧ Blk ((w.alloc (.cells c1 t1)).alloc (.cells c2 t2)) (w.heap.size + 1) c2 t2 ∧
    Below w.heap.size w ((w.alloc (.cells c1 t1)).alloc (.cells c2 t2)) ∧ ((w.alloc (.cells c1 t1)).alloc (.cells c2 t2)).heap.size = w.heap.size + 2 :=
  ⟨(Blk.new w c1 t1).alloc _, by have := Blk.new (w.alloc (.cells c1 t1)) c2 t2; rwa [World.size_alloc] at this, ((Below.refl _ _).alloc (Nat.le_refl _) _).alloc (by simp) _, by simp⟩
theorem one_new (w : World) (c1 : Array Value) (t1 : TypeId) : Blk (w.alloc (.cells c1 t1)) w.heap.size c1 t1 ∧ Below w.heap.size w (w.alloc (.cells c1 t1)) ∧ (w.alloc (.cells c1 t1)).heap.size = w.heap.size + 1 :=
  ⟨Blk.new w c1 t1, (Below.refl _ _).alloc (Nat.le_refl _) _, by simp⟩
theorem three_new (w : World) (c1 c2 c3 : Array Value) (t1 t2 t3 : TypeId) : Blk (((w.alloc (.cells c1 t1)).alloc (.cells c2 t2)).alloc (.cells c3 t3)) w.heap.size c1 t1 ∧ Blk (((w.alloc (.cells c1 t1)).alloc (.cells c2 t2)).alloc (.cells c3 t3)) (w.heap.size + 1) c2 t2 ∧
    Blk (((w.alloc (.cells c1 t1)).alloc (.cells c2 t2)).alloc (.cells c3 t3)) (w.heap.size + 1 + 1) c3 t3 ∧
    Below w.heap.size w (((w.alloc (.cells c1 t1)).alloc (.cells c2 t2)).alloc (.cells c3 t3)) ∧ (((w.alloc (.cells c1 t1)).alloc (.cells c2 t2)).alloc (.cells c3 t3)).heap.size = w.heap.size + 3 := by
  obtain ⟨h1, h2, h3, h4⟩ := two_new w c1 c2 t1 t2
  refine ⟨h1.alloc _, h2.alloc _, ?_, h3.alloc (by rw [h4]; omega) _, by rw [World.size_alloc, h4]⟩
  have := Blk.new ((w.alloc (.cells c1 t1)).alloc (.cells c2 t2)) c3 t3
  rwa [h4] at this
theorem grownBy_setNew {w w' : World} {row : Option Nat} (h : w.grownBy w' row) {a : Addr} (ha : w.heap.size ≤ a.block) (v : Value) : w.grownBy (w'.setCell a v) row :=
  ⟨h.os, h.tape, h.output, Nat.le_trans h.size (by simp [World.setCell]), fun k hk hr => (Below.heap_setCell _ _ _ k (by omega)).trans (h.block k hk hr)⟩
/-- a new row may be written besides -/
theorem grownBy_rowNew {w w' w'' : World} {row : Option Nat} {b : Nat} (h : w.grownBy w' row) (k : w'.grownBy w'' (some b)) (hb : w.heap.size ≤ b) : w.grownBy w'' row :=
  ⟨k.os.trans h.os, k.tape.trans h.tape, k.output.trans h.output, Nat.le_trans h.size k.size, fun i hi hr => (k.block i (Nat.lt_of_lt_of_le hi h.size) (by simp; omega)).trans (h.block i hi hr)⟩
/-- nothing that existed has turned: whatever row -/
theorem grownBy_below {w w' : World} (h : Below w.heap.size w w') (row : Option Nat) : w.grownBy w' row := ⟨h.os, h.tape, h.output, h.size, fun k hk _ => h.block k hk⟩
/-- a row that is new -/
theorem below_grownBy {w w' w'' : World} {b : Nat} (h : Below w.heap.size w w') (k : w'.grownBy w'' (some b)) (hb : w.heap.size ≤ b) : Below w.heap.size w w'' :=
  h.grown k h.size (fun j e => by cases e; exact hb)
theorem Blk.b {W W' : World} {b : Nat} {cs : Array Value} {t : TypeId} (h : Blk W b cs t) (hb : Below W.heap.size W W') : Blk W' b cs t := h.below hb h.lt

def putAt : Array Value → Nat → List Value → Array Value
  | cs, _, [] => cs
  | cs, o, v :: r => putAt (cs.setIfInBounds o v) (o + 1) r
theorem putAt_size : ∀ (vs : List Value) (cs : Array Value) (o : Nat), (putAt cs o vs).size = cs.size
  | [], _, _ => rfl
  | v :: r, cs, o => by rw [putAt, putAt_size r]; simp
theorem putAt_get : ∀ (vs : List Value) (cs : Array Value) (o i : Nat), o + vs.length ≤ cs.size → (putAt cs o vs)[i]? = if o ≤ i ∧ i < o + vs.length then vs[i - o]? else cs[i]?
  | [], cs, o, i, _ => by rw [putAt, if_neg (by simp only [List.length_nil]; omega)]
  | v :: r, cs, o, i, h => by
    simp only [List.length_cons] at h
    rw [putAt, putAt_get r _ _ _ (by simp; omega)]
    by_cases h1 : i = o
    · subst h1
      rw [if_neg (by omega), if_pos (by simp), Array.getElem?_setIfInBounds]
      simp; omega
    · by_cases h2 : o + 1 ≤ i ∧ i < o + 1 + r.length
      · rw [if_pos h2, if_pos (by simp; omega)]
        rw [show i - o = (i - (o + 1)) + 1 by omega, List.getElem?_cons_succ]
      · rw [if_neg h2, if_neg (by simp; omega), Array.getElem?_setIfInBounds, if_neg (by omega)]
theorem putAt_full (cs : Array Value) (vs : List Value) (h : vs.length = cs.size) : putAt cs 0 vs = vs.toArray := by
  apply Array.ext_getElem?
  intro i
  rw [putAt_get _ _ _ _ (by omega)]
  by_cases hi : i < vs.length
  · rw [if_pos (by omega)]; simp
  · rw [if_neg (by omega), Array.getElem?_eq_none (by omega), Array.getElem?_eq_none (by simp; omega)]
theorem Blk.setCells {b : Nat} {t : TypeId} : ∀ (vs : List Value) (o : Nat) {W : World} {cs : Array Value}, Blk W b cs t → Blk (W.setCells b o vs) b (putAt cs o vs) t
  | [], _, _, _, h => h
  | v :: r, o, _, _, h => Blk.setCells r (o + 1) (h.set o v)
theorem grownBy_setCells (b : Nat) : ∀ (vs : List Value) (o : Nat) (W : World), W.grownBy (W.setCells b o vs) (some b)
  | [], _, W => World.grownBy.refl W _
  | v :: r, o, W => ((⟨rfl, rfl, rfl, by simp [World.setCell], fun k _ hr => Below.heap_setCell _ _ _ k (by simpa using hr)⟩ : W.grownBy (W.setCell ⟨b, o, none⟩ v) (some b))).trans' (grownBy_setCells b r (o + 1) _)

section
variable {P : Program} {ops : Array Oper} {o : Oper} {a : Act} {w : World} {K : Act → World → Prop} {Q : Exit → Act → World → Prop}
theorem wp_store_row (ty : TypeId) (x y : Operand) (ho : o.op = .store ty x y) (g : Nat) (hx : a.eval x = .pointer (some ⟨g, 0, none⟩)) (t : TypeId) (cs vs : Array Value) (hy : a.eval y = .agg vs)
    (hg : Blk w g cs t) (hi : (P.info? ty).map (·.size) = some cs.size) (hs : vs.size = cs.size) (h1 : ∀ v ∈ vs.toList, v.oneCell' = true)
    (h : ∀ w', Blk w' g vs t → w.grownBy w' (some g) → K (a.put o.dst undef) w') : o.wp P a w K Q := by
  have hrun := run_storeCells_cells (P := P) g 0 vs.toList 0 w (fun j hj => by
    have hj' : j < cs.size := by simpa [hs] using hj
    have := hg.cell j; simp only [Nat.zero_add] at *; rw [this]; simp [hj']) (fun j _ => by simpa using hg.frozen j) h1
  have hfull : putAt cs 0 vs.toList = vs := by rw [putAt_full _ _ (by simpa using hs)]
  have hb := Blk.setCells vs.toList 0 hg
  rw [hfull] at hb
  cases hq : P.info? ty with
  | none => simp [hq] at hi
  | some i =>
    have hsz : i.size = cs.size := by simpa [hq] using hi
    unfold Oper.wp execOp
    simp [ho, hx, hy, Instr.storeAt, Instr.sureAddr, storeVar, Value.cells, sizeOf, typeInfo, hq, hsz, hs, hrun, Sem.run_bind, Result.andThen]
    exact h _ hb (grownBy_setCells g _ _ _)
theorem step_store_row {E : Prop} (hgd : o.guard = none) (ty : TypeId) (x y : Operand) (ho : o.op = .store ty x y) (g : Nat) (hx : a.eval x = .pointer (some ⟨g, 0, none⟩)) (t : TypeId) (cs vs : Array Value) (hy : a.eval y = .agg vs)
    (hg : Blk w g cs t) (hi : (P.info? ty).map (·.size) = some cs.size) (hs : vs.size = cs.size) (h1 : ∀ v ∈ vs.toList, v.oneCell' = true)
    (h : ∀ w', Blk w' g vs t → w.grownBy w' (some g) → K (a.put o.dst undef) w') : if Region.wanted o (yielded ops a.tmps) = true then Oper.wp P o a w K Q else E := by
  have hw : Region.wanted o (yielded ops a.tmps) = true := by simp [Region.wanted, hgd]
  rw [if_pos hw]
  exact wp_store_row ty x y ho g hx t cs vs hy hg hi hs h1 h
theorem step_load_row {E : Prop} (hgd : o.guard = none) (ty : TypeId) (x : Operand) (ho : o.op = .load ty x) (g : Nat) (hx : a.eval x = .pointer (some ⟨g, 0, none⟩)) (t : TypeId) (cs : Array Value) (d : TypeDesc)
    (hg : Blk w g cs t) (hu : P.underlying ty = some d) (hd : (match d with | .struct _ | .array _ _ => true | _ => false) = true) (hi : (P.info? ty).map (·.size) = some cs.size)
    (h : K (a.put o.dst (.agg cs)) w) : if Region.wanted o (yielded ops a.tmps) = true then Oper.wp P o a w K Q else E := by
  have hw : Region.wanted o (yielded ops a.tmps) = true := by simp [Region.wanted, hgd]
  rw [if_pos hw]
  exact wp_load_row ty x ho g hx t cs (0, 0) d hg hu hd hi h
theorem wpList_store_row {rest : List Oper} (hgd : o.guard = none) (ty : TypeId) (x y : Operand) (ho : o.op = .store ty x y) (g : Nat) (hx : a.eval x = .pointer (some ⟨g, 0, none⟩)) (t : TypeId) (cs vs : Array Value) (hy : a.eval y = .agg vs)
    (hg : Blk w g cs t) (hi : (P.info? ty).map (·.size) = some cs.size) (hs : vs.size = cs.size) (h1 : ∀ v ∈ vs.toList, v.oneCell' = true)
    (h : ∀ w', Blk w' g vs t → w.grownBy w' (some g) → wpList P ops Q rest (a.put o.dst undef) w') : wpList P ops Q (o :: rest) a w :=
  wpList_plain hgd fun _ hK => wp_store_row ty x y ho g hx t cs vs hy hg hi hs h1 fun w' h1 h2 => hK _ _ (h w' h1 h2)
end
theorem Blk.range {W : World} {b : Nat} {cs : List Value} {t : TypeId} (h : Blk W b cs.toArray t) : W.rangeAt b 0 cs := fun j v hv => by
  rw [Nat.zero_add, h.cell j]; simpa using hv
theorem Blk.there {W : World} {b : Nat} {cs : List Value} {t : TypeId} (h : Blk W b cs.toArray t) : W.there b 0 cs.length := fun j hj => by
  rw [Nat.zero_add, h.cell j, h.frozen j]; simp [hj]
/-- behind a row's store: other blocks' cells, the row itself -/
theorem cell_setCells_far {W : World} {a : Addr} {v : Value} (h : W.cell? a = some v) (b o : Nat) (vs : List Value) (hne : a.block ≠ b) : (W.setCells b o vs).cell? a = some v := by
  rw [World.cell?_setCells_out _ _ _ _ _ (fun h1 => absurd h1 hne)]; exact h
theorem cell_setCell_far {W : World} {b : Addr} {v : Value} (h : W.cell? b = some v) (a : Addr) (x : Value) (hne : b.block ≠ a.block) : (W.setCell a x).cell? b = some v := by
  rw [World.cell?_setCell_other _ _ _ _ (fun e => hne (by rw [e]))]; exact h
theorem Blk.setCellsSame {W : World} {b : Nat} {cs : List Value} {t : TypeId} (h : Blk W b cs.toArray t) : Blk (W.setCells b 0 cs) b cs.toArray t := by
  have := h.setCells cs 0
  rwa [putAt_full _ _ (by simp)] at this

/-- the blocks bs are in W as told, and below w nothing has turned -/
def KS (w : World) (bs : List (Nat × Array Value × TypeId)) (W : World) : Prop := (∀ x, x ∈ bs → Blk W x.1 x.2.1 x.2.2) ∧ Below w.heap.size w W
section
variable {w W W' : World} {bs : List (Nat × Array Value × TypeId)}
theorem KS.start (w : World) : KS w [] w := ⟨fun _ h => (by cases h), Below.refl _ _⟩
theorem KS.bel (h : KS w bs W) : Below w.heap.size w W := h.2
theorem KS.below (h : KS w bs W) (hb : Below W.heap.size W W') : KS w bs W' := ⟨fun x hx => (h.1 x hx).b hb, h.2.trans (hb.mono h.2.size)⟩
theorem KS.alloc (h : KS w bs W) (o : Obj) : KS w bs (W.alloc o) := h.below ((Below.refl _ _).alloc (Nat.le_refl _) o)
theorem KS.drew (h : KS w bs W) : KS w bs W.drew := h.below (Below.refl _ _).drew
theorem KS.drewN (h : KS w bs W) (q : Nat) : KS w bs (W.drewN q) := h.below ((Below.refl _ _).drewN' q)
theorem KS.new (h : KS w bs W) (cs : Array Value) (t : TypeId) : KS w ((W.heap.size, cs, t) :: bs) (W.alloc (.cells cs t)) :=
  ⟨fun x hx => by
    rcases List.mem_cons.1 hx with rfl | hx
    · exact Blk.new _ _ _
    · exact (h.alloc _).1 x hx, (h.alloc _).2⟩
theorem KS.blk (h : KS w bs W) {x : Nat × Array Value × TypeId} (hx : x ∈ bs) : Blk W x.1 x.2.1 x.2.2 := h.1 x hx
theorem KS.blkAt (h : KS w bs W) (i : Nat) {b : Nat} {cs : Array Value} {t : TypeId} (hx : bs[i]? = some (b, cs, t)) : Blk W b cs t := h.1 _ (List.mem_of_getElem? hx)
theorem KS.sub (h : KS w bs W) {bs' : List (Nat × Array Value × TypeId)} (hx : ∀ x, x ∈ bs' → x ∈ bs) : KS w bs' W := ⟨fun x h' => h.1 x (hx x h'), h.2⟩
theorem KS.size (h : KS w bs W) : w.heap.size ≤ W.heap.size := h.2.size
theorem KS.lt (h : KS w bs W) (i : Nat) {b : Nat} {cs : Array Value} {t : TypeId} (hx : bs[i]? = some (b, cs, t)) : b < W.heap.size := (h.blkAt i hx).lt
end

/-- the kept blocks, and a new one apart from them -/
def KZ (w : World) (bs : List (Nat × Array Value × TypeId)) (b : Nat) (cs : Array Value) (t : TypeId) (W : World) : Prop := KS w bs W ∧ Blk W b cs t ∧ (∀ x, x ∈ bs → x.1 ≠ b) ∧ w.heap.size ≤ b
section
variable {w W W' : World} {bs : List (Nat × Array Value × TypeId)} {b : Nat} {cs : Array Value} {t : TypeId}
theorem KS.ltAll (h : KS w bs W) : ∀ x, x ∈ bs → x.1 < W.heap.size := fun x hx => (h.1 x hx).lt
theorem KZ.new (h : KS w bs W) (cs : Array Value) (t : TypeId) : KZ w bs W.heap.size cs t (W.alloc (.cells cs t)) := ⟨h.alloc _, Blk.new _ _ _, fun x hx => Nat.ne_of_lt (h.ltAll x hx), h.size⟩
theorem KZ.newD (h : KS w bs W) (cs : Array Value) (t : TypeId) : KZ w bs W.heap.size cs t (W.alloc (.cells cs t)).drew := ⟨(h.alloc _).drew, Blk.new _ _ _, fun x hx => Nat.ne_of_lt (h.ltAll x hx), h.size⟩
theorem KZ.below (h : KZ w bs b cs t W) (hb : Below W.heap.size W W') : KZ w bs b cs t W' := ⟨h.1.below hb, h.2.1.b hb, h.2.2⟩
theorem KZ.drew (h : KZ w bs b cs t W) : KZ w bs b cs t W.drew := ⟨h.1.drew, h.2.1, h.2.2⟩
theorem KZ.ks (h : KZ w bs b cs t W) : KS w bs W := h.1
theorem KZ.all (h : KZ w bs b cs t W) : KS w ((b, cs, t) :: bs) W := ⟨fun x hx => by
  rcases List.mem_cons.1 hx with rfl | hx
  · exact h.2.1
  · exact h.1.1 x hx, h.1.2⟩
theorem KS.setOff (h : KS w bs W) {a : Addr} (ha : w.heap.size ≤ a.block) (hne : ∀ x, x ∈ bs → x.1 ≠ a.block) (v : Value) : KS w bs (W.setCell a v) := ⟨fun x hx => (h.1 x hx).other (hne x hx) v, h.2.setCell ha v⟩
theorem KZ.set (h : KZ w bs b cs t W) (i : Nat) (v : Value) : KZ w bs b (cs.setIfInBounds i v) t (W.setCell ⟨b, i, none⟩ v) :=
  ⟨h.1.setOff h.2.2.2 h.2.2.1 v, h.2.1.set i v, h.2.2⟩
theorem KZ.set2 {x y x' y' : Value} (h : KZ w bs b #[x, y] t W) : KS w ((b, #[x', y'], t) :: bs) ((W.setCell ⟨b, 0, none⟩ x').setCell ⟨b, 1, none⟩ y') := by
  have h1 := ((h.set 0 x').set 1 y').all
  exact h1
theorem KZ.set2D {x y x' y' : Value} (h : KZ w bs b #[x, y] t W) : KS w ((b, #[x', y'], t) :: bs) ((W.drew.setCell ⟨b, 0, none⟩ x').setCell ⟨b, 1, none⟩ y') := h.drew.set2
theorem KZ.keep2 {x y x' y' : Value} (h : KZ w bs b #[x, y] t W) : KS w bs ((W.setCell ⟨b, 0, none⟩ x').setCell ⟨b, 1, none⟩ y') := ((h.set 0 x').set 1 y').ks
theorem KZ.put2 {x y x' y' : Value} (h : KZ w bs b #[x, y] t W) : KZ w bs b #[x', y'] t ((W.setCell ⟨b, 0, none⟩ x').setCell ⟨b, 1, none⟩ y') := (h.set 0 x').set 1 y'
theorem KZ.put2D {x y x' y' : Value} (h : KZ w bs b #[x, y] t W) : KZ w bs b #[x', y'] t ((W.drew.setCell ⟨b, 0, none⟩ x').setCell ⟨b, 1, none⟩ y') := h.drew.put2
theorem KZ.alloc (h : KZ w bs b cs t W) (o : Obj) : KZ w bs b cs t (W.alloc o) := h.below ((Below.refl _ _).alloc (Nat.le_refl _) o)
theorem KZ.drewN (h : KZ w bs b cs t W) (q : Nat) : KZ w bs b cs t (W.drewN q) := h.below ((Below.refl _ _).drewN' q)
theorem KZ.c0 {x y : Value} (h : KZ w bs b #[x, y] t W) : W.cell? ⟨b, 0, none⟩ = some x := h.2.1.cell 0
theorem KZ.c1 {x y : Value} (h : KZ w bs b #[x, y] t W) : W.cell? ⟨b, 1, none⟩ = some y := h.2.1.cell 1
theorem KZ.f (h : KZ w bs b cs t W) (i : Nat) : W.frozen? ⟨b, i, none⟩ = false := h.2.1.frozen i
end

/-- the ways through a region meet again -/
theorem wp_join {P : Program} {code : Code} {Q : Exit → Act → World → Prop} {a : Act} {W : World} (f : Act → Nat → Act) (mid : Nat → World → Prop)
    (h1 : code.wp P (fun e a' W' => e = .normal ∧ ∃ b, a' = f a b ∧ mid b W') a W) (h2 : ∀ b W', mid b W' → Q .normal (f a b) W') : code.wp P Q a W :=
  Code.wp_mono (fun e a' W' h => by obtain ⟨rfl, b, rfl, hm⟩ := h; exact h2 b W' hm) h1
end Go.Proofs.YtdfebccmjbocjaaGreatDoor.Na
namespace Go.Proofs
open Go.Shelf
def Tryz.lays137_ren : Go.Shelf.Ren := ⟨fun | 137 => 65 | 217 => 102 | 266 => 140 | n => n, fun | 9 => 9 | 5 => 5 | 3 => 3 | n => n, fun | n => n⟩
theorem Tryz.lays137 : Go.Proofs.Lays.n137 Tryz.prog Tryz.lays137_ren := {
  mixed := by kernel_rfl
  f137 := Tryz.func65.trans (congrArg some (by kernel_rfl))
  f217 := Tryz.func102.trans (congrArg some (by kernel_rfl))
  f266 := Tryz.func140.trans (congrArg some (by kernel_rfl))
  t3 := Tryz.underlying3
  a3 := Tryz.isAgg3
  z3 := Tryz.sizeOf3
  v3 := Tryz.zeroValue3
  t5 := Tryz.underlying5
  a5 := Tryz.isAgg5
  z5 := Tryz.sizeOf5
  v5 := Tryz.zeroValue5
  t9 := Tryz.underlying9
  a9 := Tryz.isAgg9
  z9 := Tryz.sizeOf9
  v9 := Tryz.zeroValue9 }
end Go.Proofs
namespace Go.Proofs.YtdfebccmjbocjaaGreatDoor.Na
open Go.RowKit Go.Shelf

theorem indexByte_any (s : ByteArray) (c : UInt8) (w : World) : Calls Tryz.prog 65 #[.string s, .int .u8 (c.toNat : Int)] w fun e w' => e = .returned (.int .i64 (Lib.indexByte s.data.toList c)) ∧ w = w' := by
  have h := Any.strings_IndexByte Tryz.lays137 s (c.toNat : Int) w
  rw [show ((c.toNat : Int).toNat).toUInt8 = c by simp] at h
  exact h.mono fun e w' h => ⟨h.1, h.2.symm⟩

def inB (n lo hi : Int) : Bool := decide (lo ≤ n ∧ n ≤ hi)
theorem inB_iff {n lo hi : Int} : inB n lo hi = true ↔ lo ≤ n ∧ n ≤ hi := by simp [inB]
theorem inB_no {n lo hi : Int} : inB n lo hi = false ↔ ¬ (lo ≤ n ∧ n ≤ hi) := by simp [inB]
set_option maxHeartbeats 400000 in
theorem within_any (n lo hi : Int) (w : World) : Calls Tryz.prog 137 #[.int .i64 n, .int .i64 lo, .int .i64 hi] w fun e w' => e = .returned (.bool (inB n lo hi)) ∧ w = w' := by
  by_cases h1 : lo ≤ n
  · by_cases h2 : n ≤ hi
    · have h : inB n lo hi = true := inB_iff.2 ⟨h1, h2⟩
      rw [h]
      go_enter Tryz.func137, Tryz.ntmps137
      go_wp2
      go_ret
      exact ⟨rfl, rfl⟩
    · have h : inB n lo hi = false := inB_no.2 (fun h => h2 h.2)
      rw [h]
      go_enter Tryz.func137, Tryz.ntmps137
      go_wp2
      go_ret
      exact ⟨rfl, rfl⟩
  · have h : inB n lo hi = false := inB_no.2 (fun h => h1 h.1)
    rw [h]
    go_enter Tryz.func137, Tryz.ntmps137
    go_wp2
    go_ret
    exact ⟨rfl, rfl⟩
set_option maxHeartbeats 400000 in
theorem rIn_any (n lo hi : Int) (w : World) : Calls Tryz.prog 26 #[.int .i64 n, .int .i64 lo, .int .i64 hi] w fun e w' => e = .returned (.bool (inB n lo hi)) ∧ w = w' := by
  by_cases h1 : lo ≤ n
  · by_cases h2 : n ≤ hi
    · have h : inB n lo hi = true := inB_iff.2 ⟨h1, h2⟩
      rw [h]
      go_enter Tryz.func26, Tryz.ntmps26
      go_wp2
      go_ret
      exact ⟨rfl, rfl⟩
    · have h : inB n lo hi = false := inB_no.2 (fun h => h2 h.2)
      rw [h]
      go_enter Tryz.func26, Tryz.ntmps26
      go_wp2
      go_ret
      exact ⟨rfl, rfl⟩
  · have h : inB n lo hi = false := inB_no.2 (fun h => h1 h.1)
    rw [h]
    go_enter Tryz.func26, Tryz.ntmps26
    go_wp2
    go_ret
    exact ⟨rfl, rfl⟩

/-- a letter -/
def isL (b : UInt8) : Bool := decide (65 ≤ b.toNat ∧ b.toNat ≤ 90)
set_option maxHeartbeats 400000 in
theorem letter_any (b : UInt8) (w : World) : Calls Tryz.prog 101 #[.int .u8 (b.toNat : Int)] w fun e w' => e = .returned (.bool (isL b)) ∧ w = w' := by
  have hb := b.toNat_lt
  by_cases h1 : 65 ≤ b.toNat
  · by_cases h2 : b.toNat ≤ 90
    · have h : isL b = true := by simp [isL, h1, h2]
      rw [h]
      generalize b.toNat = n at *
      have t1 : decide ((65 : Int) ≤ (n : Int)) = true := by simp; omega
      have t2 : decide ((n : Int) ≤ 90) = true := by simp; omega
      go_enter Tryz.func101, Tryz.ntmps101
      go_wp2
      go_ret
      exact ⟨rfl, rfl⟩
    · have h : isL b = false := by simp [isL]; omega
      rw [h]
      generalize b.toNat = n at *
      have t1 : decide ((65 : Int) ≤ (n : Int)) = true := by simp; omega
      have t2 : decide ((n : Int) ≤ 90) = false := by simp; omega
      go_enter Tryz.func101, Tryz.ntmps101
      go_wp2
      go_ret
      exact ⟨rfl, rfl⟩
  · have h : isL b = false := by simp [isL]; omega
    rw [h]
    generalize b.toNat = n at *
    have t1 : decide ((65 : Int) ≤ (n : Int)) = false := by simp; omega
    go_enter Tryz.func101, Tryz.ntmps101
    go_wp2
    go_ret
    exact ⟨rfl, rfl⟩
set_option maxHeartbeats 400000 in
theorem short_any (s : ByteArray) (w : World) : Calls Tryz.prog 61 #[.int .i64 12, .string s] w fun e w' => e = .returned (.bool (decide (s.size ≤ 12))) ∧ w = w' := by
  by_cases h : s.size ≤ 12
  · have h1 : decide ((s.size : Int) ≤ 12) = true := by simp; omega
    rw [decide_eq_true h]
    go_enter Tryz.func61, Tryz.ntmps61
    go_wp2
    go_ret
    exact ⟨by simp, rfl⟩
  · have h1 : decide ((s.size : Int) ≤ 12) = false := by simp; omega
    rw [decide_eq_false h]
    go_enter Tryz.func61, Tryz.ntmps61
    go_wp2
    go_ret
    exact ⟨by simp, rfl⟩
set_option maxHeartbeats 400000 in
theorem cost1_any (n : Int) (w : World) : Calls Tryz.prog 99 #[.int .i64 n] w fun e w' => e = .returned (.bool (inB n 0 100)) ∧ w = w' := by
  go_enter Tryz.func99, Tryz.ntmps99
  go_wp2_with (go_at_call 137; refine (within_any _ _ _ _).mono ?_; rintro e w' ⟨rfl, rfl⟩)
  go_ret
  exact ⟨rfl, rfl⟩
end Go.Proofs.YtdfebccmjbocjaaGreatDoor.Na
namespace Go.Proofs.YtdfebccmjbocjaaGreatDoor.Na
open Go.RowKit Go.Shelf

/-- the strings lie in a row -/
def StrsAt (W : World) (b o : Nat) (xs : List ByteArray) : Prop := ∀ i a, xs[i]? = some a → W.cell? ⟨b, o + i, none⟩ = some (.string a)
theorem StrsAt.below {W W' : World} {b o B : Nat} {xs : List ByteArray} (h : StrsAt W b o xs) (hb : Below B W W') (hlt : b < B) : StrsAt W' b o xs := fun i a e => (hb.cell (p := ⟨b, _, none⟩) hlt).trans (h i a e)
def IntsAt (W : World) (b o : Nat) (xs : List Int) : Prop := ∀ i a, xs[i]? = some a → W.cell? ⟨b, o + i, none⟩ = some (.int .i64 a)
theorem IntsAt.below {W W' : World} {b o B : Nat} {xs : List Int} (h : IntsAt W b o xs) (hb : Below B W W') (hlt : b < B) : IntsAt W' b o xs := fun i a e => (hb.cell (p := ⟨b, _, none⟩) hlt).trans (h i a e)
def BytesAt (W : World) (b o : Nat) (xs : List UInt8) : Prop := ∀ i a, xs[i]? = some a → W.cell? ⟨b, o + i, none⟩ = some (.int .u8 (a.toNat : Int))
theorem BytesAt.below {W W' : World} {b o B : Nat} {xs : List UInt8} (h : BytesAt W b o xs) (hb : Below B W W') (hlt : b < B) : BytesAt W' b o xs := fun i a e => (hb.cell (p := ⟨b, _, none⟩) hlt).trans (h i a e)
/-- a list of strings that is kept -/
def SK (W : World) (a : Option Addr) (g o : Nat) (xs : List ByteArray) : Prop := (xs ≠ [] → a = some ⟨g, o, none⟩) ∧ StrsAt W g o xs ∧ (xs ≠ [] → g < W.heap.size)
section
variable {W W' : World} {a : Option Addr} {g o : Nat} {xs : List ByteArray}
theorem SK.below (h : SK W a g o xs) (hb : Below W.heap.size W W') : SK W' a g o xs := ⟨h.1, by
  by_cases hx : xs = []
  · subst hx; intro i a e; simp at e
  · exact h.2.1.below hb (h.2.2 hx), fun hx => Nat.lt_of_lt_of_le (h.2.2 hx) hb.size⟩
theorem SK.alloc (h : SK W a g o xs) (ob : Obj) : SK (W.alloc ob) a g o xs := h.below ((Below.refl _ _).alloc (Nat.le_refl _) ob)
theorem SK.drew (h : SK W a g o xs) : SK W.drew a g o xs := h.below (Below.refl _ _).drew
theorem SK.drewN (h : SK W a g o xs) (q : Nat) : SK (W.drewN q) a g o xs := h.below ((Below.refl _ _).drewN' q)
end
/-- rules -/
structure RB where
  cls : List ByteArray
  soft : ByteArray
  al : Int
  ot : Int
  sk : Int
  ss : Int
  db : Int
abbrev rulesV (a : Option Addr) (n c : Nat) (s : ByteArray) (al ot sk ss db : Int) : Value := .agg #[.slice a n c, .string s, .int .i64 al, .int .i64 ot, .int .i64 sk, .int .i64 ss, .int .i64 db]
abbrev rulesC (a : Option Addr) (n c : Nat) (s : ByteArray) (al ot sk ss db : Int) : Array Value := #[.slice a n c, .string s, .int .i64 al, .int .i64 ot, .int .i64 sk, .int .i64 ss, .int .i64 db]
theorem indexByte_in (l : List UInt8) (c : UInt8) : decide (0 ≤ Lib.indexByte l c) = decide (c ∈ l) := by
  induction l with
  | nil => rfl
  | cons b l ih =>
    have hg := Lib.indexByte_ge l c
    rw [decide_eq_decide] at ih ⊢
    rw [Lib.indexByte]
    by_cases h : b = c
    · subst h; simp
    · have h1 : (b == c) = false := by simpa using h
      rw [h1]
      simp only [Bool.false_eq_true, if_false, List.mem_cons]
      by_cases h2 : Lib.indexByte l c = -1
      · rw [h2] at ih ⊢
        simp only [beq_self_eq_true, if_true]
        constructor
        · intro h; omega
        · rintro (h3 | h3)
          · exact absurd h3.symm h
          · have := ih.2 h3; omega
      · have h3 : (Lib.indexByte l c == -1) = false := by simpa using h2
        rw [h3]
        simp only [Bool.false_eq_true, if_false]
        constructor
        · intro h4; exact .inr (ih.1 (by omega))
        · rintro (h4 | h4)
          · exact absurd h4.symm h
          · have := ih.2 h4; omega
def inS (s : ByteArray) (b : UInt8) : Bool := decide (b ∈ s.data.toList)
set_option maxRecDepth 100000 in
set_option maxHeartbeats 400000 in
theorem soft_any (a : Option Addr) (n c : Nat) (s : ByteArray) (al ot sk ss db : Int) (b : UInt8) (w : World) : Calls Tryz.prog 29 #[rulesV a n c s al ot sk ss db, .int .u8 (b.toNat : Int)] w fun e w' => e = .returned (.bool (inS s b)) ∧ Below w.heap.size w w' := by
  have hI := indexByte_in s.data.toList b
  have HG := Lib.hid (Lib.indexByte_ge s.data.toList b)
  have HI := Lib.hid hI
  have C := Lib.hid (fun w => indexByte_any s b w)
  obtain ⟨b1, b2, b3⟩ := one_new w (rulesC a n c s al ot sk ss db) 33
  have B2 := Lib.hid b2
  clear b1 b2 b3 hI
  show Calls _ _ _ _ fun e w' => e = .returned (.bool (decide (b ∈ s.data.toList))) ∧ _
  rw [← HI.out]
  generalize Lib.indexByte s.data.toList b = r at *
  go_enter Tryz.func29, Tryz.ntmps29
  go_wp2_with (go_at_call 65; (with_reducible refine (C.out _).mono ?_); rintro e w' ⟨rfl, rfl⟩)
  go_ret
  exact ⟨rfl, B2.out⟩
end Go.Proofs.YtdfebccmjbocjaaGreatDoor.Na
namespace Go.Proofs.YtdfebccmjbocjaaGreatDoor.Na
open Go.RowKit Go.Shelf

/-- the test's own answers -/
def PredS (f : Nat) (pre post : Array Value) (p : ByteArray → Bool) (xs : List ByteArray) (w : World) : Prop := ∀ x, x ∈ xs → ∀ W, Below w.heap.size w W → Calls Tryz.prog f (pre ++ #[.string x] ++ post) W fun e w' => e = .returned (.bool (p x)) ∧ Below W.heap.size W w'
def ClosS (bx : Nat) (p : ByteArray → Bool) (xs : List ByteArray) (w : World) : Prop := ∀ x, x ∈ xs → ∀ W, Below w.heap.size w W → Calls Tryz.prog 94 #[.string x, .pointer (some ⟨bx, 0, none⟩)] W fun e w' => e = .returned (.bool (!p x)) ∧ Below W.heap.size W w'
set_option maxRecDepth 100000 in
set_option maxHeartbeats 800000 in
theorem indexS (ad : Option Addr) (b o bx cap n : Nat) (xs : List ByteArray) (p : ByteArray → Bool) (w : World) (hN : xs.length = n) (had : xs ≠ [] → ad = some ⟨b, o, none⟩) (hb : xs ≠ [] → b < w.heap.size) (hn : n ≤ 100000) (ha : StrsAt w b o xs) (hc : ClosS bx p xs w) :
    Calls Tryz.prog 131 #[.slice ad n cap, .func (.func 94) #[] #[.pointer (some ⟨bx, 0, none⟩)]] w fun e w' => (∃ r : Int, e = .returned (.int .i64 r) ∧ decide (0 ≤ r) = !(xs.all p) ∧ -1 ≤ r) ∧ Below w.heap.size w w' := by
  have HC := Lib.hid hc
  have HA := Lib.hid ha
  have HD := Lib.hid had
  have HB := Lib.hid hb
  have HN := Lib.hid hN
  clear hc ha had hb hN
  go_enter Tryz.func131, Tryz.ntmps131
  go_wp2
  go_loopw [8] (fun x wr => ∃ i : Nat, i ≤ n ∧ x = .int .i64 (i : Int) ∧ (∀ j a, j < i → xs[j]? = some a → p a = true) ∧ Below w.heap.size w wr) (fun x _ => n - (intOf x).toNat)
  case atStart => exact ⟨0, by omega, rfl, fun j a h => by omega, Below.refl _ _⟩
  case round =>
    obtain ⟨i, hi, rfl, hall, hbw⟩ := hrel
    have H := Lib.hid hall
    have HW := Lib.hid hbw
    by_cases hlt : i < n
    · obtain ⟨x, hai⟩ : ∃ a, xs[i]? = some a := ⟨xs[i]'(by rw [HN.out]; exact hlt), by simp⟩
      have hne : xs ≠ [] := by rintro rfl; simp at hai
      have e1 := HD.out hne
      subst e1
      have k0 := HA.out.below hbw (HB.out hne) i x hai
      have HI := Lib.hid hai
      have C := Lib.hid (HC.out x (List.mem_of_getElem? hai) wr hbw)
      clear hall hbw hai hne
      cases hok : p x with
      | true =>
        rw [hok] at C
        have OK := Lib.hid hok
        clear hok
        go_wp2_with (go_at_call 94; (with_reducible refine C.out.mono ?_); rintro e w' ⟨rfl, hb⟩; have HB' := Lib.hid hb; clear hb)
        go_roundw
        case rel =>
          refine ⟨i + 1, by omega, by go_num, fun j a hj hja => ?_, HW.out.trans (HB'.out.mono HW.out.size)⟩
          rcases Nat.lt_succ_iff_lt_or_eq.1 hj with h | rfl
          · exact H.out j a h hja
          · rw [HI.out] at hja; cases hja; exact OK.out
        case measure => simp [intOf]; omega
      | false =>
        rw [hok] at C
        have OK := Lib.hid hok
        clear hok
        go_wp2_with (go_at_call 94; (with_reducible refine C.out.mono ?_); rintro e w' ⟨rfl, hb⟩; have HB' := Lib.hid hb; clear hb)
        go_ret
        refine ⟨⟨_, rfl, ?_, by omega⟩, HW.out.trans (HB'.out.mono HW.out.size)⟩
        have h1 : xs.all p = false := by
          rw [List.all_eq_false]
          exact ⟨_, List.mem_of_getElem? HI.out, by rw [OK.out]; simp⟩
        rw [h1]; simp
    · obtain rfl : i = n := by omega
      have h1 : xs.all p = true := by
        rw [List.all_eq_true]
        intro a ha
        obtain ⟨j, hj⟩ := List.getElem?_of_mem ha
        have hjl : j < xs.length := (List.getElem?_eq_some_iff.1 hj).1
        exact hall j a (by rw [← HN.out]; exact hjl) hj
      have H1 := Lib.hid h1
      clear hall hbw h1
      go_wp2
      go_ret
      exact ⟨⟨-1, rfl, by rw [H1.out]; rfl, by omega⟩, HW.out⟩
set_option maxRecDepth 100000 in
set_option maxHeartbeats 800000 in
theorem containsS (ad : Option Addr) (b o bx cap n : Nat) (xs : List ByteArray) (p : ByteArray → Bool) (w : World) (hN : xs.length = n) (had : xs ≠ [] → ad = some ⟨b, o, none⟩) (hb : xs ≠ [] → b < w.heap.size) (hn : n ≤ 100000) (ha : StrsAt w b o xs) (hc : ClosS bx p xs w) :
    Calls Tryz.prog 93 #[.slice ad n cap, .func (.func 94) #[] #[.pointer (some ⟨bx, 0, none⟩)]] w fun e w' => e = .returned (.bool (!(xs.all p))) ∧ Below w.heap.size w w' := by
  have C := Lib.hid (indexS ad b o bx cap n xs p w hN had hb hn ha hc)
  clear had hb hn ha hc hN
  go_enter Tryz.func93, Tryz.ntmps93
  go_wp2_with (go_at_call 131; (with_reducible refine C.out.mono ?_); rintro e w' ⟨⟨r, rfl, hr, hr1⟩, hb⟩; have HB := Lib.hid hb; have HR := Lib.hid hr; clear hb hr)
  go_ret
  exact ⟨by rw [← HR.out]; rfl, HB.out⟩
set_option maxRecDepth 100000 in
set_option maxHeartbeats 800000 in
theorem allS (f : Nat) (pre post : Array Value) (ad : Option Addr) (b o cap n : Nat) (xs : List ByteArray) (p : ByteArray → Bool) (w : World) (hN : xs.length = n) (had : xs ≠ [] → ad = some ⟨b, o, none⟩) (hb : xs ≠ [] → b < w.heap.size) (hn : n ≤ 100000) (ha : StrsAt w b o xs)
    (hc : ∀ bx W, Below w.heap.size w W → Blk W bx #[.func (.func f) pre post] 79 → ClosS bx p xs W) :
    Calls Tryz.prog 62 #[.slice ad n cap, .func (.func f) pre post] w fun e w' => e = .returned (.bool (xs.all p)) ∧ Below w.heap.size w w' := by
  obtain ⟨b1, b2, b3⟩ := one_new w #[.func (.func f) pre post] 79
  have ha' : StrsAt (w.alloc (.cells #[.func (.func f) pre post] 79)) b o xs := by
    by_cases hne : xs = []
    · subst hne; intro i a h; simp at h
    · exact ha.below b2 (hb hne)
  have C := Lib.hid (containsS ad b o w.heap.size cap n xs p _ hN had (fun h => Nat.lt_of_lt_of_le (hb h) b2.size) hn ha' (hc _ _ b2 b1))
  have B2 := Lib.hid b2
  clear had hb hn ha ha' b1 b2 b3 hc hN
  go_enter Tryz.func62, Tryz.ntmps62
  go_wp2_with (go_at_call 93; (with_reducible refine C.out.mono ?_); rintro e w' ⟨rfl, hb⟩; have HB := Lib.hid hb; clear hb)
  go_ret
  exact ⟨by simp, B2.out.trans (HB.out.mono B2.out.size)⟩
/-- the test's own answers -/
def PredI (f : Nat) (pre post : Array Value) (p : Int → Bool) (xs : List Int) (w : World) : Prop := ∀ x, x ∈ xs → ∀ W, Below w.heap.size w W → Calls Tryz.prog f (pre ++ #[.int .i64 x] ++ post) W fun e w' => e = .returned (.bool (p x)) ∧ Below W.heap.size W w'
def ClosI (bx : Nat) (p : Int → Bool) (xs : List Int) (w : World) : Prop := ∀ x, x ∈ xs → ∀ W, Below w.heap.size w W → Calls Tryz.prog 136 #[.int .i64 x, .pointer (some ⟨bx, 0, none⟩)] W fun e w' => e = .returned (.bool (!p x)) ∧ Below W.heap.size W w'
set_option maxRecDepth 100000 in
set_option maxHeartbeats 800000 in
theorem indexI (ad : Option Addr) (b o bx cap n : Nat) (xs : List Int) (p : Int → Bool) (w : World) (hN : xs.length = n) (had : xs ≠ [] → ad = some ⟨b, o, none⟩) (hb : xs ≠ [] → b < w.heap.size) (hn : n ≤ 100000) (ha : IntsAt w b o xs) (hc : ClosI bx p xs w) :
    Calls Tryz.prog 112 #[.slice ad n cap, .func (.func 136) #[] #[.pointer (some ⟨bx, 0, none⟩)]] w fun e w' => (∃ r : Int, e = .returned (.int .i64 r) ∧ decide (0 ≤ r) = !(xs.all p) ∧ -1 ≤ r) ∧ Below w.heap.size w w' := by
  have HC := Lib.hid hc
  have HA := Lib.hid ha
  have HD := Lib.hid had
  have HB := Lib.hid hb
  have HN := Lib.hid hN
  clear hc ha had hb hN
  go_enter Tryz.func112, Tryz.ntmps112
  go_wp2
  go_loopw [8] (fun x wr => ∃ i : Nat, i ≤ n ∧ x = .int .i64 (i : Int) ∧ (∀ j a, j < i → xs[j]? = some a → p a = true) ∧ Below w.heap.size w wr) (fun x _ => n - (intOf x).toNat)
  case atStart => exact ⟨0, by omega, rfl, fun j a h => by omega, Below.refl _ _⟩
  case round =>
    obtain ⟨i, hi, rfl, hall, hbw⟩ := hrel
    have H := Lib.hid hall
    have HW := Lib.hid hbw
    by_cases hlt : i < n
    · obtain ⟨x, hai⟩ : ∃ a, xs[i]? = some a := ⟨xs[i]'(by rw [HN.out]; exact hlt), by simp⟩
      have hne : xs ≠ [] := by rintro rfl; simp at hai
      have e1 := HD.out hne
      subst e1
      have k0 := HA.out.below hbw (HB.out hne) i x hai
      have HI := Lib.hid hai
      have C := Lib.hid (HC.out x (List.mem_of_getElem? hai) wr hbw)
      clear hall hbw hai hne
      cases hok : p x with
      | true =>
        rw [hok] at C
        have OK := Lib.hid hok
        clear hok
        go_wp2_with (go_at_call 136; (with_reducible refine C.out.mono ?_); rintro e w' ⟨rfl, hb⟩; have HB' := Lib.hid hb; clear hb)
        go_roundw
        case rel =>
          refine ⟨i + 1, by omega, by go_num, fun j a hj hja => ?_, HW.out.trans (HB'.out.mono HW.out.size)⟩
          rcases Nat.lt_succ_iff_lt_or_eq.1 hj with h | rfl
          · exact H.out j a h hja
          · rw [HI.out] at hja; cases hja; exact OK.out
        case measure => simp [intOf]; omega
      | false =>
        rw [hok] at C
        have OK := Lib.hid hok
        clear hok
        go_wp2_with (go_at_call 136; (with_reducible refine C.out.mono ?_); rintro e w' ⟨rfl, hb⟩; have HB' := Lib.hid hb; clear hb)
        go_ret
        refine ⟨⟨_, rfl, ?_, by omega⟩, HW.out.trans (HB'.out.mono HW.out.size)⟩
        have h1 : xs.all p = false := by
          rw [List.all_eq_false]
          exact ⟨_, List.mem_of_getElem? HI.out, by rw [OK.out]; simp⟩
        rw [h1]; simp
    · obtain rfl : i = n := by omega
      have h1 : xs.all p = true := by
        rw [List.all_eq_true]
        intro a ha
        obtain ⟨j, hj⟩ := List.getElem?_of_mem ha
        have hjl : j < xs.length := (List.getElem?_eq_some_iff.1 hj).1
        exact hall j a (by rw [← HN.out]; exact hjl) hj
      have H1 := Lib.hid h1
      clear hall hbw h1
      go_wp2
      go_ret
      exact ⟨⟨-1, rfl, by rw [H1.out]; rfl, by omega⟩, HW.out⟩
set_option maxRecDepth 100000 in
set_option maxHeartbeats 800000 in
theorem containsI (ad : Option Addr) (b o bx cap n : Nat) (xs : List Int) (p : Int → Bool) (w : World) (hN : xs.length = n) (had : xs ≠ [] → ad = some ⟨b, o, none⟩) (hb : xs ≠ [] → b < w.heap.size) (hn : n ≤ 100000) (ha : IntsAt w b o xs) (hc : ClosI bx p xs w) :
    Calls Tryz.prog 82 #[.slice ad n cap, .func (.func 136) #[] #[.pointer (some ⟨bx, 0, none⟩)]] w fun e w' => e = .returned (.bool (!(xs.all p))) ∧ Below w.heap.size w w' := by
  have C := Lib.hid (indexI ad b o bx cap n xs p w hN had hb hn ha hc)
  clear had hb hn ha hc hN
  go_enter Tryz.func82, Tryz.ntmps82
  go_wp2_with (go_at_call 112; (with_reducible refine C.out.mono ?_); rintro e w' ⟨⟨r, rfl, hr, hr1⟩, hb⟩; have HB := Lib.hid hb; have HR := Lib.hid hr; clear hb hr)
  go_ret
  exact ⟨by rw [← HR.out]; rfl, HB.out⟩
set_option maxRecDepth 100000 in
set_option maxHeartbeats 800000 in
theorem allI (f : Nat) (pre post : Array Value) (ad : Option Addr) (b o cap n : Nat) (xs : List Int) (p : Int → Bool) (w : World) (hN : xs.length = n) (had : xs ≠ [] → ad = some ⟨b, o, none⟩) (hb : xs ≠ [] → b < w.heap.size) (hn : n ≤ 100000) (ha : IntsAt w b o xs)
    (hc : ∀ bx W, Below w.heap.size w W → Blk W bx #[.func (.func f) pre post] 110 → ClosI bx p xs W) :
    Calls Tryz.prog 98 #[.slice ad n cap, .func (.func f) pre post] w fun e w' => e = .returned (.bool (xs.all p)) ∧ Below w.heap.size w w' := by
  obtain ⟨b1, b2, b3⟩ := one_new w #[.func (.func f) pre post] 110
  have ha' : IntsAt (w.alloc (.cells #[.func (.func f) pre post] 110)) b o xs := by
    by_cases hne : xs = []
    · subst hne; intro i a h; simp at h
    · exact ha.below b2 (hb hne)
  have C := Lib.hid (containsI ad b o w.heap.size cap n xs p _ hN had (fun h => Nat.lt_of_lt_of_le (hb h) b2.size) hn ha' (hc _ _ b2 b1))
  have B2 := Lib.hid b2
  clear had hb hn ha ha' b1 b2 b3 hc hN
  go_enter Tryz.func98, Tryz.ntmps98
  go_wp2_with (go_at_call 82; (with_reducible refine C.out.mono ?_); rintro e w' ⟨rfl, hb⟩; have HB := Lib.hid hb; clear hb)
  go_ret
  exact ⟨by simp, B2.out.trans (HB.out.mono B2.out.size)⟩
/-- the test's own answers -/
def PredB (f : Nat) (pre post : Array Value) (p : UInt8 → Bool) (xs : List UInt8) (w : World) : Prop := ∀ x, x ∈ xs → ∀ W, Below w.heap.size w W → Calls Tryz.prog f (pre ++ #[.int .u8 (x.toNat : Int)] ++ post) W fun e w' => e = .returned (.bool (p x)) ∧ Below W.heap.size W w'
def ClosB (bx : Nat) (p : UInt8 → Bool) (xs : List UInt8) (w : World) : Prop := ∀ x, x ∈ xs → ∀ W, Below w.heap.size w W → Calls Tryz.prog 139 #[.int .u8 (x.toNat : Int), .pointer (some ⟨bx, 0, none⟩)] W fun e w' => e = .returned (.bool (!p x)) ∧ Below W.heap.size W w'
set_option maxRecDepth 100000 in
set_option maxHeartbeats 800000 in
theorem indexB (ad : Option Addr) (b o bx cap n : Nat) (xs : List UInt8) (p : UInt8 → Bool) (w : World) (hN : xs.length = n) (had : xs ≠ [] → ad = some ⟨b, o, none⟩) (hb : xs ≠ [] → b < w.heap.size) (hn : n ≤ 100000) (ha : BytesAt w b o xs) (hc : ClosB bx p xs w) :
    Calls Tryz.prog 161 #[.slice ad n cap, .func (.func 139) #[] #[.pointer (some ⟨bx, 0, none⟩)]] w fun e w' => (∃ r : Int, e = .returned (.int .i64 r) ∧ decide (0 ≤ r) = !(xs.all p) ∧ -1 ≤ r) ∧ Below w.heap.size w w' := by
  have HC := Lib.hid hc
  have HA := Lib.hid ha
  have HD := Lib.hid had
  have HB := Lib.hid hb
  have HN := Lib.hid hN
  clear hc ha had hb hN
  go_enter Tryz.func161, Tryz.ntmps161
  go_wp2
  go_loopw [8] (fun x wr => ∃ i : Nat, i ≤ n ∧ x = .int .i64 (i : Int) ∧ (∀ j a, j < i → xs[j]? = some a → p a = true) ∧ Below w.heap.size w wr) (fun x _ => n - (intOf x).toNat)
  case atStart => exact ⟨0, by omega, rfl, fun j a h => by omega, Below.refl _ _⟩
  case round =>
    obtain ⟨i, hi, rfl, hall, hbw⟩ := hrel
    have H := Lib.hid hall
    have HW := Lib.hid hbw
    by_cases hlt : i < n
    · obtain ⟨x, hai⟩ : ∃ a, xs[i]? = some a := ⟨xs[i]'(by rw [HN.out]; exact hlt), by simp⟩
      have hne : xs ≠ [] := by rintro rfl; simp at hai
      have e1 := HD.out hne
      subst e1
      have k0 := HA.out.below hbw (HB.out hne) i x hai
      have HI := Lib.hid hai
      have C := Lib.hid (HC.out x (List.mem_of_getElem? hai) wr hbw)
      clear hall hbw hai hne
      cases hok : p x with
      | true =>
        rw [hok] at C
        have OK := Lib.hid hok
        clear hok
        go_wp2_with (go_at_call 139; (with_reducible refine C.out.mono ?_); rintro e w' ⟨rfl, hb⟩; have HB' := Lib.hid hb; clear hb)
        go_roundw
        case rel =>
          refine ⟨i + 1, by omega, by go_num, fun j a hj hja => ?_, HW.out.trans (HB'.out.mono HW.out.size)⟩
          rcases Nat.lt_succ_iff_lt_or_eq.1 hj with h | rfl
          · exact H.out j a h hja
          · rw [HI.out] at hja; cases hja; exact OK.out
        case measure => simp [intOf]; omega
      | false =>
        rw [hok] at C
        have OK := Lib.hid hok
        clear hok
        go_wp2_with (go_at_call 139; (with_reducible refine C.out.mono ?_); rintro e w' ⟨rfl, hb⟩; have HB' := Lib.hid hb; clear hb)
        go_ret
        refine ⟨⟨_, rfl, ?_, by omega⟩, HW.out.trans (HB'.out.mono HW.out.size)⟩
        have h1 : xs.all p = false := by
          rw [List.all_eq_false]
          exact ⟨_, List.mem_of_getElem? HI.out, by rw [OK.out]; simp⟩
        rw [h1]; simp
    · obtain rfl : i = n := by omega
      have h1 : xs.all p = true := by
        rw [List.all_eq_true]
        intro a ha
        obtain ⟨j, hj⟩ := List.getElem?_of_mem ha
        have hjl : j < xs.length := (List.getElem?_eq_some_iff.1 hj).1
        exact hall j a (by rw [← HN.out]; exact hjl) hj
      have H1 := Lib.hid h1
      clear hall hbw h1
      go_wp2
      go_ret
      exact ⟨⟨-1, rfl, by rw [H1.out]; rfl, by omega⟩, HW.out⟩
set_option maxRecDepth 100000 in
set_option maxHeartbeats 800000 in
theorem containsB (ad : Option Addr) (b o bx cap n : Nat) (xs : List UInt8) (p : UInt8 → Bool) (w : World) (hN : xs.length = n) (had : xs ≠ [] → ad = some ⟨b, o, none⟩) (hb : xs ≠ [] → b < w.heap.size) (hn : n ≤ 100000) (ha : BytesAt w b o xs) (hc : ClosB bx p xs w) :
    Calls Tryz.prog 138 #[.slice ad n cap, .func (.func 139) #[] #[.pointer (some ⟨bx, 0, none⟩)]] w fun e w' => e = .returned (.bool (!(xs.all p))) ∧ Below w.heap.size w w' := by
  have C := Lib.hid (indexB ad b o bx cap n xs p w hN had hb hn ha hc)
  clear had hb hn ha hc hN
  go_enter Tryz.func138, Tryz.ntmps138
  go_wp2_with (go_at_call 161; (with_reducible refine C.out.mono ?_); rintro e w' ⟨⟨r, rfl, hr, hr1⟩, hb⟩; have HB := Lib.hid hb; have HR := Lib.hid hr; clear hb hr)
  go_ret
  exact ⟨by rw [← HR.out]; rfl, HB.out⟩
set_option maxRecDepth 100000 in
set_option maxHeartbeats 800000 in
theorem allB (f : Nat) (pre post : Array Value) (ad : Option Addr) (b o cap n : Nat) (xs : List UInt8) (p : UInt8 → Bool) (w : World) (hN : xs.length = n) (had : xs ≠ [] → ad = some ⟨b, o, none⟩) (hb : xs ≠ [] → b < w.heap.size) (hn : n ≤ 100000) (ha : BytesAt w b o xs)
    (hc : ∀ bx W, Below w.heap.size w W → Blk W bx #[.func (.func f) pre post] 88 → ClosB bx p xs W) :
    Calls Tryz.prog 100 #[.slice ad n cap, .func (.func f) pre post] w fun e w' => e = .returned (.bool (xs.all p)) ∧ Below w.heap.size w w' := by
  obtain ⟨b1, b2, b3⟩ := one_new w #[.func (.func f) pre post] 88
  have ha' : BytesAt (w.alloc (.cells #[.func (.func f) pre post] 88)) b o xs := by
    by_cases hne : xs = []
    · subst hne; intro i a h; simp at h
    · exact ha.below b2 (hb hne)
  have C := Lib.hid (containsB ad b o w.heap.size cap n xs p _ hN had (fun h => Nat.lt_of_lt_of_le (hb h) b2.size) hn ha' (hc _ _ b2 b1))
  have B2 := Lib.hid b2
  clear had hb hn ha ha' b1 b2 b3 hc hN
  go_enter Tryz.func100, Tryz.ntmps100
  go_wp2_with (go_at_call 138; (with_reducible refine C.out.mono ?_); rintro e w' ⟨rfl, hb⟩; have HB := Lib.hid hb; clear hb)
  go_ret
  exact ⟨by simp, B2.out.trans (HB.out.mono B2.out.size)⟩
set_option maxRecDepth 100000 in
set_option maxHeartbeats 1000000 in
theorem clos_short  (x : ByteArray) (bx : Nat) (w : World) (hc : Blk w bx #[.func (.func 61) #[.int .i64 12] #[]] 79) {q : Bool} (hf : Calls Tryz.prog 61 #[.int .i64 12, .string x] w fun e w' => e = .returned (.bool q) ∧ Below w.heap.size w w') :
    Calls Tryz.prog 94 #[.string x, .pointer (some ⟨bx, 0, none⟩)] w fun e w' => e = .returned (.bool (!q)) ∧ Below w.heap.size w w' := by
  have h0 := hc.c1.1
  have HF := Lib.hid hf
  clear hc hf
  go_enter Tryz.func94, Tryz.ntmps94
  go_wp2_with (go_at_call 61; (with_reducible refine HF.out.mono ?_); rintro e w' ⟨rfl, hb⟩; have HB := Lib.hid hb; clear hb)
  go_ret
  exact ⟨rfl, HB.out⟩
set_option maxRecDepth 100000 in
set_option maxHeartbeats 1000000 in
theorem clos_spelt  (x : ByteArray) (bx : Nat) (w : World) (hc : Blk w bx #[.func (.func 64) #[] #[]] 79) {q : Bool} (hf : Calls Tryz.prog 64 #[.string x] w fun e w' => e = .returned (.bool q) ∧ Below w.heap.size w w') :
    Calls Tryz.prog 94 #[.string x, .pointer (some ⟨bx, 0, none⟩)] w fun e w' => e = .returned (.bool (!q)) ∧ Below w.heap.size w w' := by
  have h0 := hc.c1.1
  have HF := Lib.hid hf
  clear hc hf
  go_enter Tryz.func94, Tryz.ntmps94
  go_wp2_with (go_at_call 64; (with_reducible refine HF.out.mono ?_); rintro e w' ⟨rfl, hb⟩; have HB := Lib.hid hb; clear hb)
  go_ret
  exact ⟨rfl, HB.out⟩
set_option maxRecDepth 100000 in
set_option maxHeartbeats 1000000 in
theorem clos_even (a : Option Addr) (n c : Nat) (s : ByteArray) (al ot sk ss db : Int) (x : ByteArray) (bx : Nat) (w : World) (hc : Blk w bx #[.func (.func 97) #[rulesV a n c s al ot sk ss db] #[]] 79) {q : Bool} (hf : Calls Tryz.prog 97 #[rulesV a n c s al ot sk ss db, .string x] w fun e w' => e = .returned (.bool q) ∧ Below w.heap.size w w') :
    Calls Tryz.prog 94 #[.string x, .pointer (some ⟨bx, 0, none⟩)] w fun e w' => e = .returned (.bool (!q)) ∧ Below w.heap.size w w' := by
  have h0 := hc.c1.1
  have HF := Lib.hid hf
  clear hc hf
  go_enter Tryz.func94, Tryz.ntmps94
  go_wp2_with (go_at_call 97; (with_reducible refine HF.out.mono ?_); rintro e w' ⟨rfl, hb⟩; have HB := Lib.hid hb; clear hb)
  go_ret
  exact ⟨rfl, HB.out⟩
set_option maxRecDepth 100000 in
set_option maxHeartbeats 1000000 in
theorem clos_cost  (x : Int) (bx : Nat) (w : World) (hc : Blk w bx #[.func (.func 99) #[] #[]] 110) {q : Bool} (hf : Calls Tryz.prog 99 #[.int .i64 x] w fun e w' => e = .returned (.bool q) ∧ Below w.heap.size w w') :
    Calls Tryz.prog 136 #[.int .i64 x, .pointer (some ⟨bx, 0, none⟩)] w fun e w' => e = .returned (.bool (!q)) ∧ Below w.heap.size w w' := by
  have h0 := hc.c1.1
  have HF := Lib.hid hf
  clear hc hf
  go_enter Tryz.func136, Tryz.ntmps136
  go_wp2_with (go_at_call 99; (with_reducible refine HF.out.mono ?_); rintro e w' ⟨rfl, hb⟩; have HB := Lib.hid hb; clear hb)
  go_ret
  exact ⟨rfl, HB.out⟩
set_option maxRecDepth 100000 in
set_option maxHeartbeats 1000000 in
theorem clos_letter  (x : UInt8) (bx : Nat) (w : World) (hc : Blk w bx #[.func (.func 101) #[] #[]] 88) {q : Bool} (hf : Calls Tryz.prog 101 #[.int .u8 (x.toNat : Int)] w fun e w' => e = .returned (.bool q) ∧ Below w.heap.size w w') :
    Calls Tryz.prog 139 #[.int .u8 (x.toNat : Int), .pointer (some ⟨bx, 0, none⟩)] w fun e w' => e = .returned (.bool (!q)) ∧ Below w.heap.size w w' := by
  have h0 := hc.c1.1
  have HF := Lib.hid hf
  clear hc hf
  go_enter Tryz.func139, Tryz.ntmps139
  go_wp2_with (go_at_call 101; (with_reducible refine HF.out.mono ?_); rintro e w' ⟨rfl, hb⟩; have HB := Lib.hid hb; clear hb)
  go_ret
  exact ⟨rfl, HB.out⟩
set_option maxRecDepth 100000 in
set_option maxHeartbeats 1000000 in
theorem clos_soft (r1 r2 : Nat) (x : UInt8) (bx : Nat) (w : World) (hc : Blk w bx #[.func (.func 135) #[] #[.pointer (some ⟨r1, 0, none⟩), .pointer (some ⟨r2, 0, none⟩)]] 88) {q : Bool} (hf : Calls Tryz.prog 135 #[.int .u8 (x.toNat : Int), .pointer (some ⟨r1, 0, none⟩), .pointer (some ⟨r2, 0, none⟩)] w fun e w' => e = .returned (.bool q) ∧ Below w.heap.size w w') :
    Calls Tryz.prog 139 #[.int .u8 (x.toNat : Int), .pointer (some ⟨bx, 0, none⟩)] w fun e w' => e = .returned (.bool (!q)) ∧ Below w.heap.size w w' := by
  have h0 := hc.c1.1
  have HF := Lib.hid hf
  clear hc hf
  go_enter Tryz.func139, Tryz.ntmps139
  go_wp2_with (go_at_call 135; (with_reducible refine HF.out.mono ?_); rintro e w' ⟨rfl, hb⟩; have HB := Lib.hid hb; clear hb)
  go_ret
  exact ⟨rfl, HB.out⟩
end Go.Proofs.YtdfebccmjbocjaaGreatDoor.Na
namespace Go.Proofs.YtdfebccmjbocjaaGreatDoor.Na
open Go.RowKit Go.Shelf

/-- what it costs to skip a letter -/
def skV (s : ByteArray) (sk ss db : Int) (t : List UInt8) (i : Nat) : Int :=
  if 0 < i ∧ t.getD i 0 = t.getD (i - 1) 0 then db else if decide (t.getD i 0 ∈ s.data.toList) = true then ss else sk
theorem getD_size (t : ByteArray) (i : Nat) (h : i < t.size) : t.data.toList.getD i 0 = t[i] := by
  rw [List.getD_eq_getElem?_getD, List.getElem?_eq_getElem (by simpa using h)]; rfl
end Go.Proofs.YtdfebccmjbocjaaGreatDoor.Na
namespace Go.Proofs.YtdfebccmjbocjaaGreatDoor.Na
open Go.RowKit Go.Shelf

theorem bytes_below (w : World) (e : TypeId) (s : ByteArray) : Below w.heap.size w (Lib.bytesWorld w e s) :=
  ⟨rfl, rfl, rfl, by rw [Lib.bytesWorld_size]; omega, fun k hk => Lib.bytesWorld_at_old w e s k hk⟩
theorem bytes_at (w : World) (e : TypeId) (s : ByteArray) : BytesAt (Lib.bytesWorld w e s) w.heap.size 0 s.data.toList := fun i x h => by
  have hi : i < s.data.toList.length := (List.getElem?_eq_some_iff.1 h).1
  have h2 := Lib.bytesWorld_cell w e s i (by simpa using hi)
  rw [Nat.zero_add, h2]
  rw [List.getD_eq_getElem?_getD, h]; rfl
def spB (s : ByteArray) : Bool := !s.data.toList.isEmpty && s.data.toList.all isL
theorem conv_rule (w : World) (s : ByteArray) : (convert 9 87 (.string s)).run Tryz.prog w = .ok (.slice (some ⟨w.heap.size, 0, none⟩) s.size (grownCap w s.size 0 5)) (Lib.bytesWorld w 5 s) := Lib.run_convert_string_bytes w 9 87 5 s Tryz.underlying9 Tryz.underlying87 Tryz.underlying5
set_option maxRecDepth 100000 in
set_option maxHeartbeats 800000 in
theorem spelt_any (s : ByteArray) (w : World) (hs : s.size ≤ 1000) : Calls Tryz.prog 64 #[.string s] w fun e w' => e = .returned (.bool (spB s)) ∧ Below w.heap.size w w' := by
  cases he : s.data.toList.isEmpty with
  | true =>
    have hv : spB s = false := by simp [spB, he]
    rw [hv]
    have h1 : s.toList = [] := by rw [ByteArray.toList_eq]; simpa using he
    clear he hv
    go_enter Tryz.func64, Tryz.ntmps64
    go_wp2
    go_ret
    exact ⟨rfl, Below.refl _ _⟩
  | false =>
    have h1 : ¬ s.toList = [] := by rw [ByteArray.toList_eq]; simpa using he
    have h1b := Lib.hid (show s.toList.isEmpty = false by rw [ByteArray.toList_eq]; exact he)
    have hv : spB s = s.data.toList.all isL := by simp [spB, he]
    rw [hv]
    have hkc := conv_rule
    have C := Lib.hid (fun c => allB 101 #[] #[] (some ⟨w.heap.size, 0, none⟩) w.heap.size 0 c s.size s.data.toList isL (Lib.bytesWorld w 5 s) (by simp) (fun _ => rfl) (fun _ => by rw [Lib.bytesWorld_size]; omega) (by omega) (bytes_at w 5 s)
      (fun bx W hW hb x hx W2 hW2 => clos_letter x bx W2 (hb.b hW2) ((letter_any x W2).mono fun e w' h => ⟨h.1, by rw [← h.2]; exact Below.refl _ _⟩)))
    have HB := Lib.hid (bytes_below w 5 s)
    generalize s.data.toList.all isL = v at *
    clear he hv
    go_enter Tryz.func64, Tryz.ntmps64
    go_wp2_with (go_at_call 100; (with_reducible refine (C.out _).mono ?_); rintro e w1 ⟨rfl, hb⟩; have HB1 := Lib.hid hb; clear hb)
    go_ret
    exact ⟨by simp [h1b.out], HB.out.trans (HB1.out.mono HB.out.size)⟩
set_option maxRecDepth 100000 in
set_option maxHeartbeats 1000000 in
theorem even1_any (a : Option Addr) (n c : Nat) (s : ByteArray) (al ot sk ss db : Int) (cl : ByteArray) (r1 r2 : Nat) (x : UInt8) (w : World) (hc : 0 < cl.size) (h1 : Blk w r1 (rulesC a n c s al ot sk ss db) 33) (h2 : Blk w r2 #[.string cl] 9) :
    Calls Tryz.prog 135 #[.int .u8 (x.toNat : Int), .pointer (some ⟨r1, 0, none⟩), .pointer (some ⟨r2, 0, none⟩)] w fun e w' => e = .returned (.bool (inS s x == inS s cl[0])) ∧ Below w.heap.size w w' := by
  have C := Lib.hid (fun x w => soft_any a n c s al ot sk ss db x w)
  have l1 := h1.lt
  have l2 := h2.lt
  have H1 := Lib.hid h1
  have H2 := Lib.hid h2
  have ht : (Value.bool (inS s x == inS s cl[0])) = .bool (inS s x == inS s cl[0]) := rfl
  clear h1 h2 ht
  go_enter Tryz.func135, Tryz.ntmps135
  go_wp2_with fail
  obtain ⟨BS, hBS⟩ : ∃ BS : List (Nat × Array Value × TypeId), BS = [] := ⟨_, rfl⟩
  have hS : KS w BS w := by rw [hBS]; exact KS.start w
  have D0 : ∀ W, KS w BS W → W.cell? ⟨r1, 0, none⟩ = some (.slice a n c) := fun W h => (h.bel.cell (p := ⟨r1, _, none⟩) l1).trans (H1.out.cell 0)
  have D1 : ∀ W, KS w BS W → W.cell? ⟨r1, 1, none⟩ = some (.string s) := fun W h => (h.bel.cell (p := ⟨r1, _, none⟩) l1).trans (H1.out.cell 1)
  have D2 : ∀ W, KS w BS W → W.cell? ⟨r1, 2, none⟩ = some (.int .i64 al) := fun W h => (h.bel.cell (p := ⟨r1, _, none⟩) l1).trans (H1.out.cell 2)
  have D3 : ∀ W, KS w BS W → W.cell? ⟨r1, 3, none⟩ = some (.int .i64 ot) := fun W h => (h.bel.cell (p := ⟨r1, _, none⟩) l1).trans (H1.out.cell 3)
  have D4 : ∀ W, KS w BS W → W.cell? ⟨r1, 4, none⟩ = some (.int .i64 sk) := fun W h => (h.bel.cell (p := ⟨r1, _, none⟩) l1).trans (H1.out.cell 4)
  have D5 : ∀ W, KS w BS W → W.cell? ⟨r1, 5, none⟩ = some (.int .i64 ss) := fun W h => (h.bel.cell (p := ⟨r1, _, none⟩) l1).trans (H1.out.cell 5)
  have D6 : ∀ W, KS w BS W → W.cell? ⟨r1, 6, none⟩ = some (.int .i64 db) := fun W h => (h.bel.cell (p := ⟨r1, _, none⟩) l1).trans (H1.out.cell 6)
  have D7 : ∀ W, KS w BS W → W.cell? ⟨r2, 0, none⟩ = some (.string cl) := fun W h => (h.bel.cell (p := ⟨r2, _, none⟩) l2).trans (H2.out.cell 0)
  have HBS := Lib.hid hBS
  clear hBS
  go_region_held3 (KS w BS)
    (first | assumption | exact KS.drew (by assumption) | exact KS.alloc (by assumption) _ | exact KS.drew (KS.alloc (by assumption) _) | exact KS.alloc (KS.drew (by assumption)) _ | go_keep)
    (first | (go_at_call 29; (with_reducible refine (C.out _ _).mono ?_); rintro e wn ⟨rfl, hb⟩; have hSn := KS.below (by first | assumption | exact KS.drew (by assumption)) hb; clear hb))
  all_goals
    go_wp2_with fail
    go_ret
    first | exact ⟨rfl, KS.bel (w := w) (bs := BS) (by assumption)⟩ | exact ⟨rfl, (KS.drew (w := w) (bs := BS) (by assumption)).bel⟩
def evB (s cl : ByteArray) : Bool := !cl.data.toList.isEmpty && cl.data.toList.all fun b => inS s b == inS s (cl.data.toList.headD 0)
theorem headD_get (cl : ByteArray) (h : 0 < cl.size) : cl.data.toList.headD 0 = cl[0] := by
  have e := getD_size cl 0 h
  rw [← e]
  cases cl.data.toList <;> rfl
set_option maxRecDepth 100000 in
set_option maxHeartbeats 1000000 in
theorem even_any (a : Option Addr) (n c : Nat) (s : ByteArray) (al ot sk ss db : Int) (cl : ByteArray) (w : World) (hs : cl.size ≤ 1000) : Calls Tryz.prog 97 #[rulesV a n c s al ot sk ss db, .string cl] w fun e w' => e = .returned (.bool (evB s cl)) ∧ Below w.heap.size w w' := by
  have hb2 := (two_new w (rulesC a n c s al ot sk ss db) #[.string cl] 33 9)
  cases he : cl.data.toList.isEmpty with
  | true =>
    have hv : evB s cl = false := by simp [evB, he]
    rw [hv]
    have h1 : cl.toList = [] := by rw [ByteArray.toList_eq]; simpa using he
    have B2 := Lib.hid hb2.2.2.1
    clear he hv hb2
    go_enter Tryz.func97, Tryz.ntmps97
    go_wp2
    go_ret
    exact ⟨rfl, B2.out⟩
  | false =>
    have h1 : ¬ cl.toList = [] := by rw [ByteArray.toList_eq]; simpa using he
    have h1b := Lib.hid (show cl.toList.isEmpty = false by rw [ByteArray.toList_eq]; exact he)
    have hpos : 0 < cl.size := by
      rcases Nat.eq_zero_or_pos cl.size with h | h
      · have : cl.data.toList = [] := List.eq_nil_of_length_eq_zero (by simpa using h)
        rw [this] at he; cases he
      · exact h
    have hv : evB s cl = cl.data.toList.all fun b => inS s b == inS s cl[0] := by simp only [evB, he, Bool.not_false, Bool.true_and]; rw [headD_get cl hpos]
    rw [hv]
    have hkc := conv_rule
    obtain ⟨g1, g2, g3, g4⟩ := hb2
    have HB := Lib.hid g3
    have G1 := Lib.hid g1
    have G2 := Lib.hid g2
    have hk := g2.c1.1
    clear g1 g2 g3 he hv
    have C := Lib.hid (fun cp => allB 135 #[] #[.pointer (some ⟨w.heap.size, 0, none⟩), .pointer (some ⟨w.heap.size + 1, 0, none⟩)] (some ⟨w.heap.size + 2, 0, none⟩) (w.heap.size + 2) 0 cp cl.size cl.data.toList (fun b => inS s b == inS s cl[0]) (Lib.bytesWorld ((w.alloc (.cells (rulesC a n c s al ot sk ss db) 33)).alloc (.cells #[.string cl] 9)) 5 cl) (by simp) (fun _ => rfl) (fun _ => by rw [Lib.bytesWorld_size, g4]; omega) (by omega) (by have := bytes_at ((w.alloc (.cells (rulesC a n c s al ot sk ss db) 33)).alloc (.cells #[.string cl] 9)) 5 cl; rw [g4] at this; exact this)
      (fun bx W hW hb x hx W2 hW2 => by
        have hA := (bytes_below ((w.alloc (.cells (rulesC a n c s al ot sk ss db) 33)).alloc (.cells #[.string cl] 9)) 5 cl).trans (hW.mono (by rw [Lib.bytesWorld_size]; omega))
        have hB := hA.trans (hW2.mono hA.size)
        exact clos_soft _ _ x bx W2 (hb.b hW2) (even1_any a n c s al ot sk ss db cl _ _ x W2 hpos (G1.out.below hB G1.out.lt) (G2.out.below hB G2.out.lt))))
    have HBB := Lib.hid (HB.out.trans ((bytes_below ((w.alloc (.cells (rulesC a n c s al ot sk ss db) 33)).alloc (.cells #[.string cl] 9)) 5 cl).mono (by simp; omega)))
    generalize (cl.data.toList.all fun b => inS s b == inS s cl[0]) = v at *
    clear g4 G1 G2
    go_enter Tryz.func97, Tryz.ntmps97
    go_wp2_with (go_at_call 100; (with_reducible refine (C.out _).mono ?_); rintro e w1 ⟨rfl, hb⟩; have HB1 := Lib.hid hb; clear hb)
    go_ret
    exact ⟨by simp [h1b.out], HBB.out.trans (HB1.out.mono HBB.out.size)⟩
end Go.Proofs.YtdfebccmjbocjaaGreatDoor.Na
namespace Go.Proofs.YtdfebccmjbocjaaGreatDoor.Na
open Go.RowKit Go.Shelf

/-- only letters, none of them twice -/
def distB (s : List UInt8) : Bool := s.all isL && decide s.Nodup
theorem distB_nil : distB [] = true := by simp [distB]
theorem distB_snoc (l : List UInt8) (x : UInt8) : distB (l ++ [x]) = (distB l && isL x && !decide (x ∈ l)) := by
  rw [Bool.eq_iff_iff]
  simp only [distB, List.all_append, List.all_cons, List.all_nil, Bool.and_true, Bool.and_eq_true, decide_eq_true_eq, Bool.not_eq_true', decide_eq_false_iff_not, List.nodup_append, List.nodup_cons, List.not_mem_nil, not_false_eq_true, List.nodup_nil, and_true, true_and, List.mem_singleton]
  constructor
  · rintro ⟨⟨h1, h2⟩, h3, h4⟩
    exact ⟨⟨⟨h1, h3⟩, h2⟩, fun h => h4 x h x rfl rfl⟩
  · rintro ⟨⟨⟨h1, h2⟩, h3⟩, h4⟩
    exact ⟨⟨h1, h3⟩, h2, fun a ha b hb e => h4 (by rw [← hb, ← e]; exact ha)⟩
theorem distB_pre {l t : List UInt8} (h : distB l = false) : distB (l ++ t) = false := by
  cases e : distB (l ++ t) with
  | false => rfl
  | true =>
    simp only [distB, List.all_append, Bool.and_eq_true, decide_eq_true_eq, List.nodup_append] at e
    have : distB l = true := by simp only [distB, Bool.and_eq_true, decide_eq_true_eq]; exact ⟨e.1.1, e.2.1⟩
    rw [this] at h; cases h
theorem distB_take {l : List UInt8} {i : Nat} (hi : i < l.length) (h : distB (l.take i ++ [l[i]]) = false) : distB l = false := by
  have e : l = (l.take i ++ [l[i]]) ++ l.drop (i + 1) := by simp
  rw [e]; exact distB_pre h
def coB (n : Int) : Bool := inB n 0 100
def cosB (R : RB) : Bool := [R.al, R.ot, R.sk, R.ss, R.db].all coB
def fl (R : RB) : List UInt8 := (R.cls.map (·.data.toList)).flatten
/-- rules that are valid but for the number of classes -/
def rulB (R : RB) : Bool := distB (fl R) && distB R.soft.data.toList && R.cls.all (evB R.soft) && cosB R
/-- the error of rules -/
def chk (R : RB) : Nat := if 8 < R.cls.length then 3 else if rulB R then 0 else 1
/-- the error of rules with names -/
def chkN (R : RB) (l : List ByteArray) : Nat :=
  if 8 < R.cls.length ∨ (l.all fun s => decide (s.size ≤ 12)) = false then 3 else if rulB R = false then 1 else if l.all spB then 0 else 4
/-- the classes are no longer than the laws let them be -/
def Thn (R : RB) : Prop := R.cls.length ≤ 1000 ∧ (∀ c, c ∈ R.cls → c.size ≤ 1000) ∧ R.soft.size ≤ 1000
end Go.Proofs.YtdfebccmjbocjaaGreatDoor.Na

namespace Go.Proofs.YtdfebccmjbocjaaGreatDoor.Na
open Go.RowKit Go.Shelf

theorem letterQ (b : UInt8) (w : World) : Calls Tryz.prog 101 #[.int .u8 (b.toNat : Int)] w fun e w' => e = .returned (.bool (isL b)) ∧ w' = w := (letter_any b w).mono fun _ _ h => ⟨h.1, h.2.symm⟩
theorem indexQ (s : ByteArray) (c : UInt8) (w : World) : Calls Tryz.prog 65 #[.string s, .int .u8 (c.toNat : Int)] w fun e w' => e = .returned (.int .i64 (Lib.indexByte s.data.toList c)) ∧ w' = w := (indexByte_any s c w).mono fun _ _ h => ⟨h.1, h.2.symm⟩
theorem extract_take (s : ByteArray) (i : Nat) : (s.extract 0 i).data.toList = s.data.toList.take i := by simp
set_option maxRecDepth 100000 in
set_option maxHeartbeats 2000000 in
theorem distinct_any (s : ByteArray) (w : World) (hs : s.size ≤ 100000) : Calls Tryz.prog 95 #[.string s] w fun e w' => e = .returned (.bool (distB s.data.toList)) ∧ Below w.heap.size w w' := by
  go_enter Tryz.func95, Tryz.ntmps95
  go_wp2
  go_loopw [6] (fun x wr => ∃ i : Nat, i ≤ s.size ∧ x = .int .i64 (i : Int) ∧ Hid (distB (s.data.toList.take i) = true) ∧ Hid (Below w.heap.size w wr)) (fun x _ => s.size - (intOf x).toNat)
  case atStart => exact ⟨0, Nat.zero_le _, rfl, by rw [List.take_zero]; exact distB_nil, Below.refl _ _⟩
  case round =>
    obtain ⟨i, hi, rfl, HD, HW⟩ := hrel
    by_cases hlt : i < s.size
    · have e0 : s.data.toList.length = s.size := by simp
      have hget : s.data.toList[i]'(by omega) = s[i] := rfl
      have hsn := distB_snoc (s.data.toList.take i) s[i]
      rw [HD.out, Bool.true_and] at hsn
      have htk : s.data.toList.take (i + 1) = s.data.toList.take i ++ [s[i]] := by rw [List.take_succ_eq_append_getElem (by omega)]; rfl
      have hidx := indexByte_in (s.data.toList.take i) s[i]
      have CI := Lib.hid (fun w => indexQ (s.extract 0 i) s[i] w)
      rw [extract_take] at CI
      have CL := Lib.hid (fun w => letterQ s[i] w)
      have HG := Lib.hid (Lib.indexByte_ge (s.data.toList.take i) s[i])
      have HS := Lib.hid hsn
      have HT := Lib.hid htk
      have HX := Lib.hid hidx
      have p1 : (i : Int) < (s.size : Int) := by omega
      have p2 : (0 : Int) ≤ (i : Int) := by omega
      have p3 : (i : Int) ≤ (s.size : Int) := by omega
      have hpre : distB (s.data.toList.take i ++ [s[i]]) = false → distB s.data.toList = false := fun h => distB_take (i := i) (by omega) h
      have HP := Lib.hid hpre
      clear hsn htk hidx hget e0 hpre
      cases hl : isL s[i] with
      | false =>
        rw [hl] at CL
        have HL := Lib.hid hl
        clear hl
        go_wp2_with fail
        go_quiet ((go_at_call 101; exact Calls.quiet_of_same (CL.out _)))
        go_wp2_with fail
        go_ret
        exact ⟨by rw [HP.out (by rw [HS.out, HL.out]; rfl)]; rfl, HW.out.drewN' _⟩
      | true =>
        rw [hl] at CL
        have HL := Lib.hid hl
        clear hl
        by_cases hr : 0 ≤ Lib.indexByte (s.data.toList.take i) s[i]
        · have hm : decide (s[i] ∈ s.data.toList.take i) = true := by rw [← HX.out]; simpa using hr
          have HM := Lib.hid hm
          clear hm
          generalize Lib.indexByte (s.data.toList.take i) s[i] = r at *
          have d1 : decide (0 ≤ r) = true := by simpa using hr
          go_wp2_with fail
          go_quiet (first | (go_at_call 101; exact Calls.quiet_of_same (CL.out _)) | (go_at_call 65; exact Calls.quiet_of_same (CI.out _)))
          go_wp2_with fail
          go_ret
          exact ⟨by rw [HP.out (by rw [HS.out, HL.out, HM.out]; rfl)]; rfl, HW.out.drewN' _⟩
        · have hm : decide (s[i] ∈ s.data.toList.take i) = false := by rw [← HX.out]; simpa using hr
          have HM := Lib.hid hm
          clear hm
          generalize Lib.indexByte (s.data.toList.take i) s[i] = r at *
          have d1 : decide (0 ≤ r) = false := by simpa using hr
          go_wp2_with fail
          go_quiet (first | (go_at_call 101; exact Calls.quiet_of_same (CL.out _)) | (go_at_call 65; exact Calls.quiet_of_same (CI.out _)))
          go_wp2_with fail
          go_roundw
          case rel => exact ⟨i + 1, by omega, by go_num, by rw [HT.out, HS.out, HL.out, HM.out]; rfl, HW.out.drewN' _⟩
          case measure => simp [intOf]; omega
    · obtain rfl : i = s.size := by omega
      have h1 : distB s.data.toList = true := by
        have h := HD.out
        rwa [List.take_of_length_le (by simp)] at h
      have H1 := Lib.hid h1
      clear h1
      go_wp2
      go_ret
      exact ⟨by rw [H1.out]; rfl, HW.out⟩
theorem join_flat : ∀ l : List (List UInt8), Lib.join l [] = l.flatten
  | [] => rfl
  | [x] => by rw [Lib.join_one]; simp
  | x :: y :: l => by
    have ih := join_flat (y :: l)
    unfold Lib.join at ih ⊢
    rw [List.flatten_cons, ← ih]
    simp [List.intercalate, List.intersperse]
theorem join_any (a : Option Addr) (g o c n : Nat) (xs : List ByteArray) (w : World) (hN : xs.length = n) (hk : SK w a g o xs) (hc : n ≤ c) (hn : n ≤ 1000) (hl : ((xs.map (·.data.toList)).flatten).length ≤ 100000) :
    Calls Tryz.prog 96 #[.slice a n c, .string ⟨#[]⟩] w fun e w' => e = .returned (.string ⟨((xs.map (·.data.toList)).flatten).toArray⟩) ∧ Below w.heap.size w w' := by
  subst hN
  by_cases hx : xs = []
  · subst hx
    refine (Tryz.strings_Join_none a c _ w).mono fun e w' h => ⟨h.1, ?_⟩
    rw [h.2]; exact Below.refl _ _
  · obtain ⟨h1, h2, h3⟩ := hk
    obtain rfl := h1 hx
    have h := Tryz.strings_Join g o c xs ⟨#[]⟩ w h2 (h3 hx) (by omega) hc (by rw [show (ByteArray.mk #[]).data.toList = [] from rfl, join_flat]; omega)
    rw [show (ByteArray.mk #[]).data.toList = [] from rfl, join_flat] at h
    exact h
theorem flat_le (R : RB) (h : R.cls.length ≤ 8) (hc : ∀ c, c ∈ R.cls → c.size ≤ 1000) : ((R.cls.map (·.data.toList)).flatten).length ≤ 8000 := by
  have : ∀ (l : List ByteArray), (∀ c, c ∈ l → c.size ≤ 1000) → ((l.map (·.data.toList)).flatten).length ≤ 1000 * l.length := by
    intro l
    induction l with
    | nil => intro _; simp
    | cons c l ih =>
      intro hc
      have h1 := hc c (List.mem_cons_self ..)
      have h2 := ih (fun d hd => hc d (List.mem_cons_of_mem _ hd))
      simp only [List.map_cons, List.flatten_cons, List.length_append, List.length_cons, Array.length_toList]
      have : c.data.size = c.size := rfl
      omega
  have := this R.cls hc
  omega
set_option maxRecDepth 100000 in
set_option maxHeartbeats 2000000 in
theorem chk_lim (a : Option Addr) (g o c n : Nat) (R : RB) (w : World) (hN : R.cls.length = n) (hk : SK w a g o R.cls) (hc : n ≤ c) (ht : Thn R) (h8 : 8 < n) :
    Calls Tryz.prog 63 #[rulesV a n c R.soft R.al R.ot R.sk R.ss R.db] w fun e w' => e = .returned (.int .i64 3) ∧ Below w.heap.size w w' := by
  have t8 : decide ((8 : Int) < (n : Int)) = true := by simp; omega
  clear hk ht hN
  have s0 := (KS.start w).new (rulesC a n c R.soft R.al R.ot R.sk R.ss R.db) 33
  obtain ⟨kb0_0, kb0_1, kb0_2, kb0_3, kb0_4, kb0_5, kb0_6⟩ := (s0.blkAt 0 rfl).c7
  have S0 := Lib.hid s0
  clear s0
  go_enter Tryz.func63, Tryz.ntmps63
  go_wp2_with fail
  go_ret
  exact ⟨rfl, S0.out.bel⟩
set_option maxRecDepth 100000 in
set_option maxHeartbeats 2000000 in
theorem chk_p1 (a : Option Addr) (g o c n : Nat) (R : RB) (w : World) (hN : R.cls.length = n) (hk : SK w a g o R.cls) (hc : n ≤ c) (ht : Thn R) (h8 : n ≤ 8) (h1 : distB (fl R) = false) :
    Calls Tryz.prog 63 #[rulesV a n c R.soft R.al R.ot R.sk R.ss R.db] w fun e w' => e = .returned (.int .i64 1) ∧ Below w.heap.size w w' := by
  have t8 : decide ((8 : Int) < (n : Int)) = false := by simp; omega
  have hfl : ((R.cls.map (·.data.toList)).flatten).length ≤ 8000 := flat_le R (by omega) ht.2.1
  have CJ := Lib.hid (fun W (h : Below w.heap.size w W) => join_any a g o c n R.cls W hN (hk.below h) hc (by omega) (by omega))
  have CD := Lib.hid (fun W => distinct_any ⟨((R.cls.map (·.data.toList)).flatten).toArray⟩ W (by show Array.size _ ≤ _; simp only [List.size_toArray]; omega))
  simp only [] at CD
  unfold fl at h1
  have CS := Lib.hid (fun W => distinct_any R.soft W (by have := ht.2.2; omega))
  have CE := Lib.hid (fun W (h : Below w.heap.size w W) => allS 97 #[rulesV a n c R.soft R.al R.ot R.sk R.ss R.db] #[] a g o c n R.cls (evB R.soft) W hN (hk.below h).1 (hk.below h).2.2 (by omega) (hk.below h).2.1
    (fun bx W1 hW hb x hx W2 hW2 => clos_even a n c R.soft R.al R.ot R.sk R.ss R.db x bx W2 (hb.b hW2) (even_any a n c R.soft R.al R.ot R.sk R.ss R.db x W2 (ht.2.1 x hx))))
  have CC := Lib.hid (fun W b (hb : Blk W b #[.int .i64 R.al, .int .i64 R.ot, .int .i64 R.sk, .int .i64 R.ss, .int .i64 R.db] 3) => allI 99 #[] #[] (some ⟨b, 0, none⟩) b 0 5 5 [R.al, R.ot, R.sk, R.ss, R.db] coB W rfl (fun _ => rfl) (fun _ => hb.lt) (by omega) (fun i x h => by
      match i, h with
      | 0, h => simp at h; subst h; exact hb.cell 0
      | 1, h => simp at h; subst h; exact hb.cell 1
      | 2, h => simp at h; subst h; exact hb.cell 2
      | 3, h => simp at h; subst h; exact hb.cell 3
      | 4, h => simp at h; subst h; exact hb.cell 4)
    (fun bx W1 hW hb x hx W2 hW2 => clos_cost x bx W2 (hb.b hW2) ((cost1_any x W2).mono fun e w' h => ⟨h.1, by rw [← h.2]; exact Below.refl _ _⟩)))
  rw [h1] at CD
  clear hfl hk ht hN h1
  have s0 := (KS.start w).new (rulesC a n c R.soft R.al R.ot R.sk R.ss R.db) 33
  obtain ⟨kb0_0, kb0_1, kb0_2, kb0_3, kb0_4, kb0_5, kb0_6⟩ := (s0.blkAt 0 rfl).c7
  have S0 := Lib.hid s0
  clear s0
  go_enter Tryz.func63, Tryz.ntmps63
  go_wp2_with fail
  refine (CJ.out _ S0.out.bel).mono ?_
  rintro e w1 ⟨rfl, h1⟩
  clear kb0_0 kb0_1 kb0_2 kb0_3 kb0_4 kb0_5 kb0_6
  have s1 := S0.out.below h1
  obtain ⟨kb0_0, kb0_1, kb0_2, kb0_3, kb0_4, kb0_5, kb0_6⟩ := (s1.blkAt 0 rfl).c7
  have S1 := Lib.hid s1
  clear h1 s1
  go_wp2_with fail
  refine (CD.out _).mono ?_
  rintro e w2 ⟨rfl, h2⟩
  clear kb0_0 kb0_1 kb0_2 kb0_3 kb0_4 kb0_5 kb0_6
  have s2 := S1.out.below h2
  obtain ⟨kb0_0, kb0_1, kb0_2, kb0_3, kb0_4, kb0_5, kb0_6⟩ := (s2.blkAt 0 rfl).c7
  have S2 := Lib.hid s2
  clear h2 s2
  go_wp2_with fail
  go_ret
  exact ⟨rfl, S2.out.bel⟩
set_option maxRecDepth 100000 in
set_option maxHeartbeats 2000000 in
theorem chk_p2 (a : Option Addr) (g o c n : Nat) (R : RB) (w : World) (hN : R.cls.length = n) (hk : SK w a g o R.cls) (hc : n ≤ c) (ht : Thn R) (h8 : n ≤ 8) (h1 : distB (fl R) = true) (h2 : distB R.soft.data.toList = false) :
    Calls Tryz.prog 63 #[rulesV a n c R.soft R.al R.ot R.sk R.ss R.db] w fun e w' => e = .returned (.int .i64 1) ∧ Below w.heap.size w w' := by
  have t8 : decide ((8 : Int) < (n : Int)) = false := by simp; omega
  have hfl : ((R.cls.map (·.data.toList)).flatten).length ≤ 8000 := flat_le R (by omega) ht.2.1
  have CJ := Lib.hid (fun W (h : Below w.heap.size w W) => join_any a g o c n R.cls W hN (hk.below h) hc (by omega) (by omega))
  have CD := Lib.hid (fun W => distinct_any ⟨((R.cls.map (·.data.toList)).flatten).toArray⟩ W (by show Array.size _ ≤ _; simp only [List.size_toArray]; omega))
  simp only [] at CD
  unfold fl at h1
  have CS := Lib.hid (fun W => distinct_any R.soft W (by have := ht.2.2; omega))
  have CE := Lib.hid (fun W (h : Below w.heap.size w W) => allS 97 #[rulesV a n c R.soft R.al R.ot R.sk R.ss R.db] #[] a g o c n R.cls (evB R.soft) W hN (hk.below h).1 (hk.below h).2.2 (by omega) (hk.below h).2.1
    (fun bx W1 hW hb x hx W2 hW2 => clos_even a n c R.soft R.al R.ot R.sk R.ss R.db x bx W2 (hb.b hW2) (even_any a n c R.soft R.al R.ot R.sk R.ss R.db x W2 (ht.2.1 x hx))))
  have CC := Lib.hid (fun W b (hb : Blk W b #[.int .i64 R.al, .int .i64 R.ot, .int .i64 R.sk, .int .i64 R.ss, .int .i64 R.db] 3) => allI 99 #[] #[] (some ⟨b, 0, none⟩) b 0 5 5 [R.al, R.ot, R.sk, R.ss, R.db] coB W rfl (fun _ => rfl) (fun _ => hb.lt) (by omega) (fun i x h => by
      match i, h with
      | 0, h => simp at h; subst h; exact hb.cell 0
      | 1, h => simp at h; subst h; exact hb.cell 1
      | 2, h => simp at h; subst h; exact hb.cell 2
      | 3, h => simp at h; subst h; exact hb.cell 3
      | 4, h => simp at h; subst h; exact hb.cell 4)
    (fun bx W1 hW hb x hx W2 hW2 => clos_cost x bx W2 (hb.b hW2) ((cost1_any x W2).mono fun e w' h => ⟨h.1, by rw [← h.2]; exact Below.refl _ _⟩)))
  rw [h1] at CD
  rw [h2] at CS
  clear hfl hk ht hN h1 h2
  have s0 := (KS.start w).new (rulesC a n c R.soft R.al R.ot R.sk R.ss R.db) 33
  obtain ⟨kb0_0, kb0_1, kb0_2, kb0_3, kb0_4, kb0_5, kb0_6⟩ := (s0.blkAt 0 rfl).c7
  have S0 := Lib.hid s0
  clear s0
  go_enter Tryz.func63, Tryz.ntmps63
  go_wp2_with fail
  refine (CJ.out _ S0.out.bel).mono ?_
  rintro e w1 ⟨rfl, h1⟩
  clear kb0_0 kb0_1 kb0_2 kb0_3 kb0_4 kb0_5 kb0_6
  have s1 := S0.out.below h1
  obtain ⟨kb0_0, kb0_1, kb0_2, kb0_3, kb0_4, kb0_5, kb0_6⟩ := (s1.blkAt 0 rfl).c7
  have S1 := Lib.hid s1
  clear h1 s1
  go_wp2_with fail
  refine (CD.out _).mono ?_
  rintro e w2 ⟨rfl, h2⟩
  clear kb0_0 kb0_1 kb0_2 kb0_3 kb0_4 kb0_5 kb0_6
  have s2 := S1.out.below h2
  obtain ⟨kb0_0, kb0_1, kb0_2, kb0_3, kb0_4, kb0_5, kb0_6⟩ := (s2.blkAt 0 rfl).c7
  have S2 := Lib.hid s2
  clear h2 s2
  go_wp2_with fail
  refine (CS.out _).mono ?_
  rintro e w3 ⟨rfl, h3⟩
  clear kb0_0 kb0_1 kb0_2 kb0_3 kb0_4 kb0_5 kb0_6
  have s3 := S2.out.below h3
  obtain ⟨kb0_0, kb0_1, kb0_2, kb0_3, kb0_4, kb0_5, kb0_6⟩ := (s3.blkAt 0 rfl).c7
  have S3 := Lib.hid s3
  clear h3 s3
  go_wp2_with fail
  go_ret
  exact ⟨rfl, S3.out.bel⟩
set_option maxRecDepth 100000 in
set_option maxHeartbeats 2000000 in
theorem chk_p3 (a : Option Addr) (g o c n : Nat) (R : RB) (w : World) (hN : R.cls.length = n) (hk : SK w a g o R.cls) (hc : n ≤ c) (ht : Thn R) (h8 : n ≤ 8) (h1 : distB (fl R) = true) (h2 : distB R.soft.data.toList = true) (h3 : R.cls.all (evB R.soft) = false) :
    Calls Tryz.prog 63 #[rulesV a n c R.soft R.al R.ot R.sk R.ss R.db] w fun e w' => e = .returned (.int .i64 1) ∧ Below w.heap.size w w' := by
  have t8 : decide ((8 : Int) < (n : Int)) = false := by simp; omega
  have hfl : ((R.cls.map (·.data.toList)).flatten).length ≤ 8000 := flat_le R (by omega) ht.2.1
  have CJ := Lib.hid (fun W (h : Below w.heap.size w W) => join_any a g o c n R.cls W hN (hk.below h) hc (by omega) (by omega))
  have CD := Lib.hid (fun W => distinct_any ⟨((R.cls.map (·.data.toList)).flatten).toArray⟩ W (by show Array.size _ ≤ _; simp only [List.size_toArray]; omega))
  simp only [] at CD
  unfold fl at h1
  have CS := Lib.hid (fun W => distinct_any R.soft W (by have := ht.2.2; omega))
  have CE := Lib.hid (fun W (h : Below w.heap.size w W) => allS 97 #[rulesV a n c R.soft R.al R.ot R.sk R.ss R.db] #[] a g o c n R.cls (evB R.soft) W hN (hk.below h).1 (hk.below h).2.2 (by omega) (hk.below h).2.1
    (fun bx W1 hW hb x hx W2 hW2 => clos_even a n c R.soft R.al R.ot R.sk R.ss R.db x bx W2 (hb.b hW2) (even_any a n c R.soft R.al R.ot R.sk R.ss R.db x W2 (ht.2.1 x hx))))
  have CC := Lib.hid (fun W b (hb : Blk W b #[.int .i64 R.al, .int .i64 R.ot, .int .i64 R.sk, .int .i64 R.ss, .int .i64 R.db] 3) => allI 99 #[] #[] (some ⟨b, 0, none⟩) b 0 5 5 [R.al, R.ot, R.sk, R.ss, R.db] coB W rfl (fun _ => rfl) (fun _ => hb.lt) (by omega) (fun i x h => by
      match i, h with
      | 0, h => simp at h; subst h; exact hb.cell 0
      | 1, h => simp at h; subst h; exact hb.cell 1
      | 2, h => simp at h; subst h; exact hb.cell 2
      | 3, h => simp at h; subst h; exact hb.cell 3
      | 4, h => simp at h; subst h; exact hb.cell 4)
    (fun bx W1 hW hb x hx W2 hW2 => clos_cost x bx W2 (hb.b hW2) ((cost1_any x W2).mono fun e w' h => ⟨h.1, by rw [← h.2]; exact Below.refl _ _⟩)))
  rw [h1] at CD
  rw [h2] at CS
  rw [h3] at CE
  clear hfl hk ht hN h1 h2 h3
  have s0 := (KS.start w).new (rulesC a n c R.soft R.al R.ot R.sk R.ss R.db) 33
  obtain ⟨kb0_0, kb0_1, kb0_2, kb0_3, kb0_4, kb0_5, kb0_6⟩ := (s0.blkAt 0 rfl).c7
  have S0 := Lib.hid s0
  clear s0
  go_enter Tryz.func63, Tryz.ntmps63
  go_wp2_with fail
  refine (CJ.out _ S0.out.bel).mono ?_
  rintro e w1 ⟨rfl, h1⟩
  clear kb0_0 kb0_1 kb0_2 kb0_3 kb0_4 kb0_5 kb0_6
  have s1 := S0.out.below h1
  obtain ⟨kb0_0, kb0_1, kb0_2, kb0_3, kb0_4, kb0_5, kb0_6⟩ := (s1.blkAt 0 rfl).c7
  have S1 := Lib.hid s1
  clear h1 s1
  go_wp2_with fail
  refine (CD.out _).mono ?_
  rintro e w2 ⟨rfl, h2⟩
  clear kb0_0 kb0_1 kb0_2 kb0_3 kb0_4 kb0_5 kb0_6
  have s2 := S1.out.below h2
  obtain ⟨kb0_0, kb0_1, kb0_2, kb0_3, kb0_4, kb0_5, kb0_6⟩ := (s2.blkAt 0 rfl).c7
  have S2 := Lib.hid s2
  clear h2 s2
  go_wp2_with fail
  refine (CS.out _).mono ?_
  rintro e w3 ⟨rfl, h3⟩
  clear kb0_0 kb0_1 kb0_2 kb0_3 kb0_4 kb0_5 kb0_6
  have s3 := S2.out.below h3
  obtain ⟨kb0_0, kb0_1, kb0_2, kb0_3, kb0_4, kb0_5, kb0_6⟩ := (s3.blkAt 0 rfl).c7
  have S3 := Lib.hid s3
  clear h3 s3
  go_wp2_with fail
  refine (CE.out _ S3.out.bel).mono ?_
  rintro e w4 ⟨rfl, h4⟩
  clear kb0_0 kb0_1 kb0_2 kb0_3 kb0_4 kb0_5 kb0_6
  have s4 := S3.out.below h4
  obtain ⟨kb0_0, kb0_1, kb0_2, kb0_3, kb0_4, kb0_5, kb0_6⟩ := (s4.blkAt 0 rfl).c7
  have S4 := Lib.hid s4
  clear h4 s4
  go_wp2_with fail
  go_ret
  exact ⟨rfl, S4.out.bel⟩
set_option maxRecDepth 100000 in
set_option maxHeartbeats 2000000 in
theorem chk_p4 (a : Option Addr) (g o c n : Nat) (R : RB) (w : World) (hN : R.cls.length = n) (hk : SK w a g o R.cls) (hc : n ≤ c) (ht : Thn R) (h8 : n ≤ 8) (h1 : distB (fl R) = true) (h2 : distB R.soft.data.toList = true) (h3 : R.cls.all (evB R.soft) = true) (h4 : cosB R = false) :
    Calls Tryz.prog 63 #[rulesV a n c R.soft R.al R.ot R.sk R.ss R.db] w fun e w' => e = .returned (.int .i64 1) ∧ Below w.heap.size w w' := by
  have t8 : decide ((8 : Int) < (n : Int)) = false := by simp; omega
  have hfl : ((R.cls.map (·.data.toList)).flatten).length ≤ 8000 := flat_le R (by omega) ht.2.1
  have CJ := Lib.hid (fun W (h : Below w.heap.size w W) => join_any a g o c n R.cls W hN (hk.below h) hc (by omega) (by omega))
  have CD := Lib.hid (fun W => distinct_any ⟨((R.cls.map (·.data.toList)).flatten).toArray⟩ W (by show Array.size _ ≤ _; simp only [List.size_toArray]; omega))
  simp only [] at CD
  unfold fl at h1
  have CS := Lib.hid (fun W => distinct_any R.soft W (by have := ht.2.2; omega))
  have CE := Lib.hid (fun W (h : Below w.heap.size w W) => allS 97 #[rulesV a n c R.soft R.al R.ot R.sk R.ss R.db] #[] a g o c n R.cls (evB R.soft) W hN (hk.below h).1 (hk.below h).2.2 (by omega) (hk.below h).2.1
    (fun bx W1 hW hb x hx W2 hW2 => clos_even a n c R.soft R.al R.ot R.sk R.ss R.db x bx W2 (hb.b hW2) (even_any a n c R.soft R.al R.ot R.sk R.ss R.db x W2 (ht.2.1 x hx))))
  have CC := Lib.hid (fun W b (hb : Blk W b #[.int .i64 R.al, .int .i64 R.ot, .int .i64 R.sk, .int .i64 R.ss, .int .i64 R.db] 3) => allI 99 #[] #[] (some ⟨b, 0, none⟩) b 0 5 5 [R.al, R.ot, R.sk, R.ss, R.db] coB W rfl (fun _ => rfl) (fun _ => hb.lt) (by omega) (fun i x h => by
      match i, h with
      | 0, h => simp at h; subst h; exact hb.cell 0
      | 1, h => simp at h; subst h; exact hb.cell 1
      | 2, h => simp at h; subst h; exact hb.cell 2
      | 3, h => simp at h; subst h; exact hb.cell 3
      | 4, h => simp at h; subst h; exact hb.cell 4)
    (fun bx W1 hW hb x hx W2 hW2 => clos_cost x bx W2 (hb.b hW2) ((cost1_any x W2).mono fun e w' h => ⟨h.1, by rw [← h.2]; exact Below.refl _ _⟩)))
  rw [h1] at CD
  rw [h2] at CS
  rw [h3] at CE
  rw [show [R.al, R.ot, R.sk, R.ss, R.db].all coB = cosB R from rfl] at CC
  rw [h4] at CC
  clear hfl hk ht hN h1 h2 h3 h4
  have s0 := (KS.start w).new (rulesC a n c R.soft R.al R.ot R.sk R.ss R.db) 33
  obtain ⟨kb0_0, kb0_1, kb0_2, kb0_3, kb0_4, kb0_5, kb0_6⟩ := (s0.blkAt 0 rfl).c7
  have S0 := Lib.hid s0
  clear s0
  go_enter Tryz.func63, Tryz.ntmps63
  go_wp2_with fail
  refine (CJ.out _ S0.out.bel).mono ?_
  rintro e w1 ⟨rfl, h1⟩
  clear kb0_0 kb0_1 kb0_2 kb0_3 kb0_4 kb0_5 kb0_6
  have s1 := S0.out.below h1
  obtain ⟨kb0_0, kb0_1, kb0_2, kb0_3, kb0_4, kb0_5, kb0_6⟩ := (s1.blkAt 0 rfl).c7
  have S1 := Lib.hid s1
  clear h1 s1
  go_wp2_with fail
  refine (CD.out _).mono ?_
  rintro e w2 ⟨rfl, h2⟩
  clear kb0_0 kb0_1 kb0_2 kb0_3 kb0_4 kb0_5 kb0_6
  have s2 := S1.out.below h2
  obtain ⟨kb0_0, kb0_1, kb0_2, kb0_3, kb0_4, kb0_5, kb0_6⟩ := (s2.blkAt 0 rfl).c7
  have S2 := Lib.hid s2
  clear h2 s2
  go_wp2_with fail
  refine (CS.out _).mono ?_
  rintro e w3 ⟨rfl, h3⟩
  clear kb0_0 kb0_1 kb0_2 kb0_3 kb0_4 kb0_5 kb0_6
  have s3 := S2.out.below h3
  obtain ⟨kb0_0, kb0_1, kb0_2, kb0_3, kb0_4, kb0_5, kb0_6⟩ := (s3.blkAt 0 rfl).c7
  have S3 := Lib.hid s3
  clear h3 s3
  go_wp2_with fail
  refine (CE.out _ S3.out.bel).mono ?_
  rintro e w4 ⟨rfl, h4⟩
  clear kb0_0 kb0_1 kb0_2 kb0_3 kb0_4 kb0_5 kb0_6
  have s4 := S3.out.below h4
  obtain ⟨kb0_0, kb0_1, kb0_2, kb0_3, kb0_4, kb0_5, kb0_6⟩ := (s4.blkAt 0 rfl).c7
  have S4 := Lib.hid s4
  clear h4 s4
  go_wp2_with fail
  refine (CC.out _ _ (Blk.new _ _ _)).mono ?_
  rintro e w5 ⟨rfl, h5⟩
  clear kb0_0 kb0_1 kb0_2 kb0_3 kb0_4 kb0_5 kb0_6
  have s5 := (S4.out.alloc (.cells #[.int .i64 R.al, .int .i64 R.ot, .int .i64 R.sk, .int .i64 R.ss, .int .i64 R.db] 3)).below h5
  obtain ⟨kb0_0, kb0_1, kb0_2, kb0_3, kb0_4, kb0_5, kb0_6⟩ := (s5.blkAt 0 rfl).c7
  have S5 := Lib.hid s5
  clear h5 s5
  go_wp2_with fail
  go_ret
  exact ⟨rfl, S5.out.bel⟩
set_option maxRecDepth 100000 in
set_option maxHeartbeats 2000000 in
theorem chk_p5 (a : Option Addr) (g o c n : Nat) (R : RB) (w : World) (hN : R.cls.length = n) (hk : SK w a g o R.cls) (hc : n ≤ c) (ht : Thn R) (h8 : n ≤ 8) (h1 : distB (fl R) = true) (h2 : distB R.soft.data.toList = true) (h3 : R.cls.all (evB R.soft) = true) (h4 : cosB R = true) :
    Calls Tryz.prog 63 #[rulesV a n c R.soft R.al R.ot R.sk R.ss R.db] w fun e w' => e = .returned (.int .i64 0) ∧ Below w.heap.size w w' := by
  have t8 : decide ((8 : Int) < (n : Int)) = false := by simp; omega
  have hfl : ((R.cls.map (·.data.toList)).flatten).length ≤ 8000 := flat_le R (by omega) ht.2.1
  have CJ := Lib.hid (fun W (h : Below w.heap.size w W) => join_any a g o c n R.cls W hN (hk.below h) hc (by omega) (by omega))
  have CD := Lib.hid (fun W => distinct_any ⟨((R.cls.map (·.data.toList)).flatten).toArray⟩ W (by show Array.size _ ≤ _; simp only [List.size_toArray]; omega))
  simp only [] at CD
  unfold fl at h1
  have CS := Lib.hid (fun W => distinct_any R.soft W (by have := ht.2.2; omega))
  have CE := Lib.hid (fun W (h : Below w.heap.size w W) => allS 97 #[rulesV a n c R.soft R.al R.ot R.sk R.ss R.db] #[] a g o c n R.cls (evB R.soft) W hN (hk.below h).1 (hk.below h).2.2 (by omega) (hk.below h).2.1
    (fun bx W1 hW hb x hx W2 hW2 => clos_even a n c R.soft R.al R.ot R.sk R.ss R.db x bx W2 (hb.b hW2) (even_any a n c R.soft R.al R.ot R.sk R.ss R.db x W2 (ht.2.1 x hx))))
  have CC := Lib.hid (fun W b (hb : Blk W b #[.int .i64 R.al, .int .i64 R.ot, .int .i64 R.sk, .int .i64 R.ss, .int .i64 R.db] 3) => allI 99 #[] #[] (some ⟨b, 0, none⟩) b 0 5 5 [R.al, R.ot, R.sk, R.ss, R.db] coB W rfl (fun _ => rfl) (fun _ => hb.lt) (by omega) (fun i x h => by
      match i, h with
      | 0, h => simp at h; subst h; exact hb.cell 0
      | 1, h => simp at h; subst h; exact hb.cell 1
      | 2, h => simp at h; subst h; exact hb.cell 2
      | 3, h => simp at h; subst h; exact hb.cell 3
      | 4, h => simp at h; subst h; exact hb.cell 4)
    (fun bx W1 hW hb x hx W2 hW2 => clos_cost x bx W2 (hb.b hW2) ((cost1_any x W2).mono fun e w' h => ⟨h.1, by rw [← h.2]; exact Below.refl _ _⟩)))
  rw [h1] at CD
  rw [h2] at CS
  rw [h3] at CE
  rw [show [R.al, R.ot, R.sk, R.ss, R.db].all coB = cosB R from rfl] at CC
  rw [h4] at CC
  clear hfl hk ht hN h1 h2 h3 h4
  have s0 := (KS.start w).new (rulesC a n c R.soft R.al R.ot R.sk R.ss R.db) 33
  obtain ⟨kb0_0, kb0_1, kb0_2, kb0_3, kb0_4, kb0_5, kb0_6⟩ := (s0.blkAt 0 rfl).c7
  have S0 := Lib.hid s0
  clear s0
  go_enter Tryz.func63, Tryz.ntmps63
  go_wp2_with fail
  refine (CJ.out _ S0.out.bel).mono ?_
  rintro e w1 ⟨rfl, h1⟩
  clear kb0_0 kb0_1 kb0_2 kb0_3 kb0_4 kb0_5 kb0_6
  have s1 := S0.out.below h1
  obtain ⟨kb0_0, kb0_1, kb0_2, kb0_3, kb0_4, kb0_5, kb0_6⟩ := (s1.blkAt 0 rfl).c7
  have S1 := Lib.hid s1
  clear h1 s1
  go_wp2_with fail
  refine (CD.out _).mono ?_
  rintro e w2 ⟨rfl, h2⟩
  clear kb0_0 kb0_1 kb0_2 kb0_3 kb0_4 kb0_5 kb0_6
  have s2 := S1.out.below h2
  obtain ⟨kb0_0, kb0_1, kb0_2, kb0_3, kb0_4, kb0_5, kb0_6⟩ := (s2.blkAt 0 rfl).c7
  have S2 := Lib.hid s2
  clear h2 s2
  go_wp2_with fail
  refine (CS.out _).mono ?_
  rintro e w3 ⟨rfl, h3⟩
  clear kb0_0 kb0_1 kb0_2 kb0_3 kb0_4 kb0_5 kb0_6
  have s3 := S2.out.below h3
  obtain ⟨kb0_0, kb0_1, kb0_2, kb0_3, kb0_4, kb0_5, kb0_6⟩ := (s3.blkAt 0 rfl).c7
  have S3 := Lib.hid s3
  clear h3 s3
  go_wp2_with fail
  refine (CE.out _ S3.out.bel).mono ?_
  rintro e w4 ⟨rfl, h4⟩
  clear kb0_0 kb0_1 kb0_2 kb0_3 kb0_4 kb0_5 kb0_6
  have s4 := S3.out.below h4
  obtain ⟨kb0_0, kb0_1, kb0_2, kb0_3, kb0_4, kb0_5, kb0_6⟩ := (s4.blkAt 0 rfl).c7
  have S4 := Lib.hid s4
  clear h4 s4
  go_wp2_with fail
  refine (CC.out _ _ (Blk.new _ _ _)).mono ?_
  rintro e w5 ⟨rfl, h5⟩
  clear kb0_0 kb0_1 kb0_2 kb0_3 kb0_4 kb0_5 kb0_6
  have s5 := (S4.out.alloc (.cells #[.int .i64 R.al, .int .i64 R.ot, .int .i64 R.sk, .int .i64 R.ss, .int .i64 R.db] 3)).below h5
  obtain ⟨kb0_0, kb0_1, kb0_2, kb0_3, kb0_4, kb0_5, kb0_6⟩ := (s5.blkAt 0 rfl).c7
  have S5 := Lib.hid s5
  clear h5 s5
  go_wp2_with fail
  go_ret
  exact ⟨rfl, S5.out.bel⟩
theorem CheckRules_any (a : Option Addr) (g o c n : Nat) (R : RB) (w : World) (hN : R.cls.length = n) (hk : SK w a g o R.cls) (hc : n ≤ c) (ht : Thn R) : Calls Tryz.prog 63 #[rulesV a n c R.soft R.al R.ot R.sk R.ss R.db] w fun e w' => e = .returned (.int .i64 (chk R : Nat)) ∧ Below w.heap.size w w' := by
  by_cases h8 : 8 < n
  · rw [show chk R = 3 from if_pos (by omega)]; exact chk_lim a g o c n R w hN hk hc ht h8
  · have e : chk R = if rulB R then 0 else 1 := if_neg (by omega)
    rw [e]
    unfold rulB
    cases h1 : distB (fl R) with
    | false => exact chk_p1 a g o c n R w hN hk hc ht (by omega) h1
    | true =>
      cases h2 : distB R.soft.data.toList with
      | false => exact chk_p2 a g o c n R w hN hk hc ht (by omega) h1 h2
      | true =>
        cases h3 : R.cls.all (evB R.soft) with
        | false => exact chk_p3 a g o c n R w hN hk hc ht (by omega) h1 h2 h3
        | true =>
          cases h4 : cosB R with
          | false => exact chk_p4 a g o c n R w hN hk hc ht (by omega) h1 h2 h3 h4
          | true => exact chk_p5 a g o c n R w hN hk hc ht (by omega) h1 h2 h3 h4
end Go.Proofs.YtdfebccmjbocjaaGreatDoor.Na
namespace Go.Proofs.YtdfebccmjbocjaaGreatDoor.Na
open Go.RowKit Go.Shelf

set_option maxRecDepth 100000 in
set_option maxHeartbeats 2000000 in
theorem chn_lim (a : Option Addr) (g o c n : Nat) (R : RB) (w : World) (hN : R.cls.length = n) (hk : SK w a g o R.cls) (hc : n ≤ c) (ht : Thn R) (a2 : Option Addr) (g2 o2 c2 m : Nat) (l : List ByteArray) (hM : l.length = m) (hk2 : SK w a2 g2 o2 l) (hm : m ≤ 1000) (hl : ∀ x, x ∈ l → x.size ≤ 1000) (h8 : 8 < n) :
    Calls Tryz.prog 27 #[rulesV a n c R.soft R.al R.ot R.sk R.ss R.db, .slice a2 m c2] w fun e w' => e = .returned (.int .i64 3) ∧ Below w.heap.size w w' := by
  have t8 : decide ((8 : Int) < (n : Int)) = true := by simp; omega
  clear hk hk2 ht hN hM hl
  have s0 := (KS.start w).new (rulesC a n c R.soft R.al R.ot R.sk R.ss R.db) 33
  obtain ⟨kb0_0, kb0_1, kb0_2, kb0_3, kb0_4, kb0_5, kb0_6⟩ := (s0.blkAt 0 rfl).c7
  have S0 := Lib.hid s0
  clear s0
  go_enter Tryz.func27, Tryz.ntmps27
  go_wp2_with fail
  go_ret
  exact ⟨rfl, S0.out.bel⟩
set_option maxRecDepth 100000 in
set_option maxHeartbeats 2000000 in
theorem chn_p1 (a : Option Addr) (g o c n : Nat) (R : RB) (w : World) (hN : R.cls.length = n) (hk : SK w a g o R.cls) (hc : n ≤ c) (ht : Thn R) (a2 : Option Addr) (g2 o2 c2 m : Nat) (l : List ByteArray) (hM : l.length = m) (hk2 : SK w a2 g2 o2 l) (hm : m ≤ 1000) (hl : ∀ x, x ∈ l → x.size ≤ 1000) (h8 : n ≤ 8) (h1 : (l.all fun s => decide (s.size ≤ 12)) = false) :
    Calls Tryz.prog 27 #[rulesV a n c R.soft R.al R.ot R.sk R.ss R.db, .slice a2 m c2] w fun e w' => e = .returned (.int .i64 3) ∧ Below w.heap.size w w' := by
  have t8 : decide ((8 : Int) < (n : Int)) = false := by simp; omega
  have C1 := Lib.hid (fun W (h : Below w.heap.size w W) => allS 61 #[.int .i64 12] #[] a2 g2 o2 c2 m l (fun s => decide (s.size ≤ 12)) W hM (hk2.below h).1 (hk2.below h).2.2 (by omega) (hk2.below h).2.1
    (fun bx W1 hW hb x hx W2 hW2 => clos_short x bx W2 (hb.b hW2) ((short_any x W2).mono fun e w' h => ⟨h.1, by rw [← h.2]; exact Below.refl _ _⟩)))
  have C2 := Lib.hid (fun W (h : Below w.heap.size w W) => CheckRules_any a g o c n R W hN (hk.below h) hc ht)
  have C3 := Lib.hid (fun W (h : Below w.heap.size w W) => allS 64 #[] #[] a2 g2 o2 c2 m l spB W hM (hk2.below h).1 (hk2.below h).2.2 (by omega) (hk2.below h).2.1
    (fun bx W1 hW hb x hx W2 hW2 => clos_spelt x bx W2 (hb.b hW2) (spelt_any x W2 (hl x hx))))
  rw [h1] at C1
  clear hk hk2 ht hN hM hl h1
  have s0 := (KS.start w).new (rulesC a n c R.soft R.al R.ot R.sk R.ss R.db) 33
  obtain ⟨kb0_0, kb0_1, kb0_2, kb0_3, kb0_4, kb0_5, kb0_6⟩ := (s0.blkAt 0 rfl).c7
  have S0 := Lib.hid s0
  clear s0
  go_enter Tryz.func27, Tryz.ntmps27
  go_wp2_with fail
  refine (C1.out _ S0.out.bel).mono ?_
  rintro e w1 ⟨rfl, h1⟩
  clear kb0_0 kb0_1 kb0_2 kb0_3 kb0_4 kb0_5 kb0_6
  have s1 := S0.out.below h1
  obtain ⟨kb0_0, kb0_1, kb0_2, kb0_3, kb0_4, kb0_5, kb0_6⟩ := (s1.blkAt 0 rfl).c7
  have S1 := Lib.hid s1
  clear h1 s1
  go_wp2_with fail
  go_ret
  exact ⟨rfl, S1.out.bel⟩
set_option maxRecDepth 100000 in
set_option maxHeartbeats 2000000 in
theorem chn_p2 (a : Option Addr) (g o c n : Nat) (R : RB) (w : World) (hN : R.cls.length = n) (hk : SK w a g o R.cls) (hc : n ≤ c) (ht : Thn R) (a2 : Option Addr) (g2 o2 c2 m : Nat) (l : List ByteArray) (hM : l.length = m) (hk2 : SK w a2 g2 o2 l) (hm : m ≤ 1000) (hl : ∀ x, x ∈ l → x.size ≤ 1000) (h8 : n ≤ 8) (h1 : (l.all fun s => decide (s.size ≤ 12)) = true) (h2 : chk R = 1) :
    Calls Tryz.prog 27 #[rulesV a n c R.soft R.al R.ot R.sk R.ss R.db, .slice a2 m c2] w fun e w' => e = .returned (.int .i64 1) ∧ Below w.heap.size w w' := by
  have t8 : decide ((8 : Int) < (n : Int)) = false := by simp; omega
  have C1 := Lib.hid (fun W (h : Below w.heap.size w W) => allS 61 #[.int .i64 12] #[] a2 g2 o2 c2 m l (fun s => decide (s.size ≤ 12)) W hM (hk2.below h).1 (hk2.below h).2.2 (by omega) (hk2.below h).2.1
    (fun bx W1 hW hb x hx W2 hW2 => clos_short x bx W2 (hb.b hW2) ((short_any x W2).mono fun e w' h => ⟨h.1, by rw [← h.2]; exact Below.refl _ _⟩)))
  have C2 := Lib.hid (fun W (h : Below w.heap.size w W) => CheckRules_any a g o c n R W hN (hk.below h) hc ht)
  have C3 := Lib.hid (fun W (h : Below w.heap.size w W) => allS 64 #[] #[] a2 g2 o2 c2 m l spB W hM (hk2.below h).1 (hk2.below h).2.2 (by omega) (hk2.below h).2.1
    (fun bx W1 hW hb x hx W2 hW2 => clos_spelt x bx W2 (hb.b hW2) (spelt_any x W2 (hl x hx))))
  rw [h1] at C1
  rw [h2] at C2
  clear hk hk2 ht hN hM hl h1 h2
  have s0 := (KS.start w).new (rulesC a n c R.soft R.al R.ot R.sk R.ss R.db) 33
  obtain ⟨kb0_0, kb0_1, kb0_2, kb0_3, kb0_4, kb0_5, kb0_6⟩ := (s0.blkAt 0 rfl).c7
  have S0 := Lib.hid s0
  clear s0
  go_enter Tryz.func27, Tryz.ntmps27
  go_wp2_with fail
  refine (C1.out _ S0.out.bel).mono ?_
  rintro e w1 ⟨rfl, h1⟩
  clear kb0_0 kb0_1 kb0_2 kb0_3 kb0_4 kb0_5 kb0_6
  have s1 := S0.out.below h1
  obtain ⟨kb0_0, kb0_1, kb0_2, kb0_3, kb0_4, kb0_5, kb0_6⟩ := (s1.blkAt 0 rfl).c7
  have S1 := Lib.hid s1
  clear h1 s1
  go_wp2_with fail
  refine (C2.out _ S1.out.bel).mono ?_
  rintro e w2 ⟨rfl, h2⟩
  clear kb0_0 kb0_1 kb0_2 kb0_3 kb0_4 kb0_5 kb0_6
  have s2 := S1.out.below h2
  obtain ⟨kb0_0, kb0_1, kb0_2, kb0_3, kb0_4, kb0_5, kb0_6⟩ := (s2.blkAt 0 rfl).c7
  have S2 := Lib.hid s2
  clear h2 s2
  go_wp2_with fail
  go_ret
  exact ⟨rfl, S2.out.bel⟩
set_option maxRecDepth 100000 in
set_option maxHeartbeats 2000000 in
theorem chn_p3 (a : Option Addr) (g o c n : Nat) (R : RB) (w : World) (hN : R.cls.length = n) (hk : SK w a g o R.cls) (hc : n ≤ c) (ht : Thn R) (a2 : Option Addr) (g2 o2 c2 m : Nat) (l : List ByteArray) (hM : l.length = m) (hk2 : SK w a2 g2 o2 l) (hm : m ≤ 1000) (hl : ∀ x, x ∈ l → x.size ≤ 1000) (h8 : n ≤ 8) (h1 : (l.all fun s => decide (s.size ≤ 12)) = true) (h2 : chk R = 0) (h3 : l.all spB = false) :
    Calls Tryz.prog 27 #[rulesV a n c R.soft R.al R.ot R.sk R.ss R.db, .slice a2 m c2] w fun e w' => e = .returned (.int .i64 4) ∧ Below w.heap.size w w' := by
  have t8 : decide ((8 : Int) < (n : Int)) = false := by simp; omega
  have C1 := Lib.hid (fun W (h : Below w.heap.size w W) => allS 61 #[.int .i64 12] #[] a2 g2 o2 c2 m l (fun s => decide (s.size ≤ 12)) W hM (hk2.below h).1 (hk2.below h).2.2 (by omega) (hk2.below h).2.1
    (fun bx W1 hW hb x hx W2 hW2 => clos_short x bx W2 (hb.b hW2) ((short_any x W2).mono fun e w' h => ⟨h.1, by rw [← h.2]; exact Below.refl _ _⟩)))
  have C2 := Lib.hid (fun W (h : Below w.heap.size w W) => CheckRules_any a g o c n R W hN (hk.below h) hc ht)
  have C3 := Lib.hid (fun W (h : Below w.heap.size w W) => allS 64 #[] #[] a2 g2 o2 c2 m l spB W hM (hk2.below h).1 (hk2.below h).2.2 (by omega) (hk2.below h).2.1
    (fun bx W1 hW hb x hx W2 hW2 => clos_spelt x bx W2 (hb.b hW2) (spelt_any x W2 (hl x hx))))
  rw [h1] at C1
  rw [h2] at C2
  rw [h3] at C3
  clear hk hk2 ht hN hM hl h1 h2 h3
  have s0 := (KS.start w).new (rulesC a n c R.soft R.al R.ot R.sk R.ss R.db) 33
  obtain ⟨kb0_0, kb0_1, kb0_2, kb0_3, kb0_4, kb0_5, kb0_6⟩ := (s0.blkAt 0 rfl).c7
  have S0 := Lib.hid s0
  clear s0
  go_enter Tryz.func27, Tryz.ntmps27
  go_wp2_with fail
  refine (C1.out _ S0.out.bel).mono ?_
  rintro e w1 ⟨rfl, h1⟩
  clear kb0_0 kb0_1 kb0_2 kb0_3 kb0_4 kb0_5 kb0_6
  have s1 := S0.out.below h1
  obtain ⟨kb0_0, kb0_1, kb0_2, kb0_3, kb0_4, kb0_5, kb0_6⟩ := (s1.blkAt 0 rfl).c7
  have S1 := Lib.hid s1
  clear h1 s1
  go_wp2_with fail
  refine (C2.out _ S1.out.bel).mono ?_
  rintro e w2 ⟨rfl, h2⟩
  clear kb0_0 kb0_1 kb0_2 kb0_3 kb0_4 kb0_5 kb0_6
  have s2 := S1.out.below h2
  obtain ⟨kb0_0, kb0_1, kb0_2, kb0_3, kb0_4, kb0_5, kb0_6⟩ := (s2.blkAt 0 rfl).c7
  have S2 := Lib.hid s2
  clear h2 s2
  go_wp2_with fail
  refine (C3.out _ S2.out.bel).mono ?_
  rintro e w3 ⟨rfl, h3⟩
  clear kb0_0 kb0_1 kb0_2 kb0_3 kb0_4 kb0_5 kb0_6
  have s3 := S2.out.below h3
  obtain ⟨kb0_0, kb0_1, kb0_2, kb0_3, kb0_4, kb0_5, kb0_6⟩ := (s3.blkAt 0 rfl).c7
  have S3 := Lib.hid s3
  clear h3 s3
  go_wp2_with fail
  go_ret
  exact ⟨rfl, S3.out.bel⟩
set_option maxRecDepth 100000 in
set_option maxHeartbeats 2000000 in
theorem chn_p4 (a : Option Addr) (g o c n : Nat) (R : RB) (w : World) (hN : R.cls.length = n) (hk : SK w a g o R.cls) (hc : n ≤ c) (ht : Thn R) (a2 : Option Addr) (g2 o2 c2 m : Nat) (l : List ByteArray) (hM : l.length = m) (hk2 : SK w a2 g2 o2 l) (hm : m ≤ 1000) (hl : ∀ x, x ∈ l → x.size ≤ 1000) (h8 : n ≤ 8) (h1 : (l.all fun s => decide (s.size ≤ 12)) = true) (h2 : chk R = 0) (h3 : l.all spB = true) :
    Calls Tryz.prog 27 #[rulesV a n c R.soft R.al R.ot R.sk R.ss R.db, .slice a2 m c2] w fun e w' => e = .returned (.int .i64 0) ∧ Below w.heap.size w w' := by
  have t8 : decide ((8 : Int) < (n : Int)) = false := by simp; omega
  have C1 := Lib.hid (fun W (h : Below w.heap.size w W) => allS 61 #[.int .i64 12] #[] a2 g2 o2 c2 m l (fun s => decide (s.size ≤ 12)) W hM (hk2.below h).1 (hk2.below h).2.2 (by omega) (hk2.below h).2.1
    (fun bx W1 hW hb x hx W2 hW2 => clos_short x bx W2 (hb.b hW2) ((short_any x W2).mono fun e w' h => ⟨h.1, by rw [← h.2]; exact Below.refl _ _⟩)))
  have C2 := Lib.hid (fun W (h : Below w.heap.size w W) => CheckRules_any a g o c n R W hN (hk.below h) hc ht)
  have C3 := Lib.hid (fun W (h : Below w.heap.size w W) => allS 64 #[] #[] a2 g2 o2 c2 m l spB W hM (hk2.below h).1 (hk2.below h).2.2 (by omega) (hk2.below h).2.1
    (fun bx W1 hW hb x hx W2 hW2 => clos_spelt x bx W2 (hb.b hW2) (spelt_any x W2 (hl x hx))))
  rw [h1] at C1
  rw [h2] at C2
  rw [h3] at C3
  clear hk hk2 ht hN hM hl h1 h2 h3
  have s0 := (KS.start w).new (rulesC a n c R.soft R.al R.ot R.sk R.ss R.db) 33
  obtain ⟨kb0_0, kb0_1, kb0_2, kb0_3, kb0_4, kb0_5, kb0_6⟩ := (s0.blkAt 0 rfl).c7
  have S0 := Lib.hid s0
  clear s0
  go_enter Tryz.func27, Tryz.ntmps27
  go_wp2_with fail
  refine (C1.out _ S0.out.bel).mono ?_
  rintro e w1 ⟨rfl, h1⟩
  clear kb0_0 kb0_1 kb0_2 kb0_3 kb0_4 kb0_5 kb0_6
  have s1 := S0.out.below h1
  obtain ⟨kb0_0, kb0_1, kb0_2, kb0_3, kb0_4, kb0_5, kb0_6⟩ := (s1.blkAt 0 rfl).c7
  have S1 := Lib.hid s1
  clear h1 s1
  go_wp2_with fail
  refine (C2.out _ S1.out.bel).mono ?_
  rintro e w2 ⟨rfl, h2⟩
  clear kb0_0 kb0_1 kb0_2 kb0_3 kb0_4 kb0_5 kb0_6
  have s2 := S1.out.below h2
  obtain ⟨kb0_0, kb0_1, kb0_2, kb0_3, kb0_4, kb0_5, kb0_6⟩ := (s2.blkAt 0 rfl).c7
  have S2 := Lib.hid s2
  clear h2 s2
  go_wp2_with fail
  refine (C3.out _ S2.out.bel).mono ?_
  rintro e w3 ⟨rfl, h3⟩
  clear kb0_0 kb0_1 kb0_2 kb0_3 kb0_4 kb0_5 kb0_6
  have s3 := S2.out.below h3
  obtain ⟨kb0_0, kb0_1, kb0_2, kb0_3, kb0_4, kb0_5, kb0_6⟩ := (s3.blkAt 0 rfl).c7
  have S3 := Lib.hid s3
  clear h3 s3
  go_wp2_with fail
  go_ret
  exact ⟨rfl, S3.out.bel⟩
theorem check_any (a : Option Addr) (g o c n : Nat) (R : RB) (w : World) (hN : R.cls.length = n) (hk : SK w a g o R.cls) (hc : n ≤ c) (ht : Thn R) (a2 : Option Addr) (g2 o2 c2 m : Nat) (l : List ByteArray) (hM : l.length = m) (hk2 : SK w a2 g2 o2 l) (hm : m ≤ 1000) (hl : ∀ x, x ∈ l → x.size ≤ 1000) : Calls Tryz.prog 27 #[rulesV a n c R.soft R.al R.ot R.sk R.ss R.db, .slice a2 m c2] w fun e w' => e = .returned (.int .i64 (chkN R l : Nat)) ∧ Below w.heap.size w w' := by
  unfold chkN
  by_cases h8 : 8 < n
  · rw [if_pos (.inl (by omega))]; exact chn_lim a g o c n R w hN hk hc ht a2 g2 o2 c2 m l hM hk2 hm hl h8
  · cases h1 : (l.all fun s => decide (s.size ≤ 12)) with
    | false => rw [if_pos (.inr rfl)]; exact chn_p1 a g o c n R w hN hk hc ht a2 g2 o2 c2 m l hM hk2 hm hl (by omega) h1
    | true =>
      rw [if_neg (by intro h; rcases h with h | h; · omega
                     · cases h)]
      cases h2 : rulB R with
      | false => rw [if_pos rfl]; exact chn_p2 a g o c n R w hN hk hc ht a2 g2 o2 c2 m l hM hk2 hm hl (by omega) h1 (by unfold chk; rw [if_neg (by omega), h2]; rfl)
      | true =>
        have e : chk R = 0 := by unfold chk; rw [if_neg (by omega), h2]; rfl
        rw [if_neg (by simp)]
        cases h3 : l.all spB with
        | false => exact chn_p3 a g o c n R w hN hk hc ht a2 g2 o2 c2 m l hM hk2 hm hl (by omega) h1 e h3
        | true => exact chn_p4 a g o c n R w hN hk hc ht a2 g2 o2 c2 m l hM hk2 hm hl (by omega) h1 e h3
end Go.Proofs.YtdfebccmjbocjaaGreatDoor.Na
namespace Go.Proofs.YtdfebccmjbocjaaGreatDoor.Na
open Go.RowKit Go.Shelf

/-- block d is two names that are compared -/
structure Duel (W : World) (d : Nat) (a : Option Addr) (n c : Nat) (s : ByteArray) (al ot sk ss db : Int) (x y : ByteArray) (sn : UInt8 → UInt8) (mb : Nat) : Prop where
  lt : d < W.heap.size
  r0 : W.cell? ⟨d, 0, none⟩ = some (.slice a n c)
  r1 : W.cell? ⟨d, 1, none⟩ = some (.string s)
  r2 : W.cell? ⟨d, 2, none⟩ = some (.int .i64 al)
  r3 : W.cell? ⟨d, 3, none⟩ = some (.int .i64 ot)
  r4 : W.cell? ⟨d, 4, none⟩ = some (.int .i64 sk)
  r5 : W.cell? ⟨d, 5, none⟩ = some (.int .i64 ss)
  r6 : W.cell? ⟨d, 6, none⟩ = some (.int .i64 db)
  x : W.cell? ⟨d, 7, none⟩ = some (.string x)
  y : W.cell? ⟨d, 8, none⟩ = some (.string y)
  sn : ∀ b : UInt8, isL b = true → W.cell? ⟨d, 9 + (b.toNat - 65), none⟩ = some (.int .u8 ((sn b).toNat : Int))
  mp : W.cell? ⟨d, 35, none⟩ = some (.map (some mb))
theorem Duel.keep {W W' : World} {d : Nat} {a : Option Addr} {n c : Nat} {s : ByteArray} {al ot sk ss db : Int} {x y : ByteArray} {sn : UInt8 → UInt8} {mb : Nat} (h : Duel W d a n c s al ot sk ss db x y sn mb) (hl : d < W'.heap.size) (hk : ∀ o, W'.cell? ⟨d, o, none⟩ = W.cell? ⟨d, o, none⟩) : Duel W' d a n c s al ot sk ss db x y sn mb :=
  ⟨hl, (hk _).trans h.r0, (hk _).trans h.r1, (hk _).trans h.r2, (hk _).trans h.r3, (hk _).trans h.r4, (hk _).trans h.r5, (hk _).trans h.r6, (hk _).trans h.x, (hk _).trans h.y, fun b hb => (hk _).trans (h.sn b hb), (hk _).trans h.mp⟩
theorem Duel.below {W W' : World} {d : Nat} {a : Option Addr} {n c : Nat} {s : ByteArray} {al ot sk ss db : Int} {x y : ByteArray} {sn : UInt8 → UInt8} {mb : Nat} (h : Duel W d a n c s al ot sk ss db x y sn mb) (hb : Below W.heap.size W W') : Duel W' d a n c s al ot sk ss db x y sn mb :=
  h.keep (Nat.lt_of_lt_of_le h.lt hb.size) (fun o => hb.cell (p := ⟨d, o, none⟩) h.lt)
theorem Duel.grown {W W' : World} {d : Nat} {a : Option Addr} {n c : Nat} {s : ByteArray} {al ot sk ss db : Int} {x y : ByteArray} {sn : UInt8 → UInt8} {mb : Nat} (h : Duel W d a n c s al ot sk ss db x y sn mb) {row : Option Nat} (hg : W.grownBy W' row) (hne : some d ≠ row) : Duel W' d a n c s al ot sk ss db x y sn mb :=
  h.keep (Nat.lt_of_lt_of_le h.lt hg.size) (fun o => by unfold World.cell?; simp only [hg.block d h.lt hne])
abbrev cellV (i j : Int) : Value := .agg #[.int .i64 i, .int .i64 j]
end Go.Proofs.YtdfebccmjbocjaaGreatDoor.Na
namespace Go.Proofs.YtdfebccmjbocjaaGreatDoor.Na
open Go.RowKit Go.Shelf

/-- the ways through a region meet again -/
theorem wp_joinG {ι : Type} {P : Program} {code : Code} {Q : Exit → Act → World → Prop} {a : Act} {W : World} (f : Act → ι → Act) (mid : ι → World → Prop)
    (h1 : code.wp P (fun e a' W' => e = .normal ∧ ∃ b, a' = f a b ∧ mid b W') a W) (h2 : ∀ b W', mid b W' → Q .normal (f a b) W') : code.wp P Q a W :=
  Code.wp_mono (fun e a' W' h => by obtain ⟨rfl, b, rfl, hm⟩ := h; exact h2 b W' hm) h1
end Go.Proofs.YtdfebccmjbocjaaGreatDoor.Na
namespace Go.Proofs.YtdfebccmjbocjaaGreatDoor.Na
open Go.RowKit Go.Shelf

theorem u8_sub (b : UInt8) (h : isL b = true) : IntKind.u8.wrap ((b.toNat : Int) - 65) = ((b.toNat - 65 : Nat) : Int) ∧ b.toNat - 65 < 26 ∧ 65 ≤ b.toNat := by
  simp only [isL, decide_eq_true_eq] at h
  refine ⟨?_, by omega, h.1⟩
  have e : (2 : Int) ^ IntKind.u8.bits = 256 := rfl
  have e2 : IntKind.u8.signed = false := rfl
  simp only [IntKind.wrap, e, e2, Bool.false_and, Bool.false_eq_true, if_false]
  omega
end Go.Proofs.YtdfebccmjbocjaaGreatDoor.Na
namespace Go.Proofs.YtdfebccmjbocjaaGreatDoor.Na
open Go.RowKit Go.Shelf

/-- an array of letters -/
def arrL (f : Nat → UInt8) : List Value := (List.range 26).map fun i => .int .u8 ((f i).toNat : Int)
theorem arrL_len (f : Nat → UInt8) : (arrL f).length = 26 := by simp [arrL]
theorem arrL_get (f : Nat → UInt8) (i : Nat) (h : i < 26) : (arrL f).toArray[i]? = some (.int .u8 ((f i).toNat : Int)) := by simp [arrL, h]
theorem arrL_set (f g : Nat → UInt8) (k : Nat) (v : Value) (hk : k < 26) (hv : v = .int .u8 ((g k).toNat : Int)) (h : ∀ i, i < 26 → i ≠ k → f i = g i) : (arrL f).toArray.setIfInBounds k v = (arrL g).toArray := by
  subst hv
  apply Array.ext_getElem?
  intro i
  rw [Array.getElem?_setIfInBounds]
  by_cases h2 : i < 26
  · rw [arrL_get g i h2]
    by_cases e : k = i
    · subst e; simp [arrL_len, hk]
    · rw [if_neg e, arrL_get f i h2, h i h2 (Ne.symm e)]
  · rw [if_neg (by omega), Array.getElem?_eq_none (by simp [arrL_len]; omega), Array.getElem?_eq_none (by simp [arrL_len]; omega)]
theorem arrL_one (f : Nat → UInt8) : ∀ v ∈ arrL f, v.oneCell' = true := by
  intro v hv
  simp [arrL] at hv
  obtain ⟨i, _, rfl⟩ := hv
  rfl
theorem arrL_ext {f g : Nat → UInt8} (h : ∀ i, i < 26 → f i = g i) : arrL f = arrL g := by
  unfold arrL
  exact List.map_congr_left fun i hi => by rw [h i (List.mem_range.1 hi)]
theorem tInfo103 : (Tryz.prog.info? 85).map (·.size) = some 26 := by kernel_rfl
def g1 (k j : Nat) : UInt8 := if j < k then UInt8.ofNat (65 + j) else 0
theorem g1_step (k i : Nat) (h : i ≠ k) : g1 k i = g1 (k + 1) i := by
  unfold g1
  by_cases h1 : i < k
  · rw [if_pos h1, if_pos (by omega)]
  · rw [if_neg h1, if_neg (by omega)]
/-- the representatives, the last class counting -/
def sndL (cls : List (List UInt8)) (b : UInt8) : UInt8 := cls.foldl (fun x c => if decide (b ∈ c) then c.headD 0 else x) b
theorem sndL_snoc (cls : List (List UInt8)) (c : List UInt8) (b : UInt8) : sndL (cls ++ [c]) b = if decide (b ∈ c) then c.headD 0 else sndL cls b := by simp [sndL]
def sF (cls : List (List UInt8)) (j : Nat) : UInt8 := sndL cls (UInt8.ofNat (65 + j))
def inF (F : Nat → UInt8) (cl : List UInt8) (i j : Nat) : UInt8 := if UInt8.ofNat (65 + j) ∈ cl.take i then cl.headD 0 else F j
theorem zeros26 : (#[.int .u8 0, .int .u8 0, .int .u8 0, .int .u8 0, .int .u8 0, .int .u8 0, .int .u8 0, .int .u8 0, .int .u8 0, .int .u8 0, .int .u8 0, .int .u8 0, .int .u8 0, .int .u8 0, .int .u8 0, .int .u8 0, .int .u8 0, .int .u8 0, .int .u8 0, .int .u8 0, .int .u8 0, .int .u8 0, .int .u8 0, .int .u8 0, .int .u8 0, .int .u8 0] : Array Value) = (arrL (g1 0)).toArray := by kernel_rfl
theorem BytesAt.other {W : World} {b o : Nat} {xs : List UInt8} (h : BytesAt W b o xs) {ad : Addr} (hne : b ≠ ad.block) (v : Value) : BytesAt (W.setCell ad v) b o xs := fun i x e => cell_setCell_far (h i x e) ad v hne
/-- classes of letters, none empty -/
def LetC (R : RB) : Prop := ∀ c, c ∈ R.cls → 0 < c.size ∧ ∀ i (h : i < c.size), isL c[i] = true
theorem ofNat_sub (b : UInt8) (h : isL b = true) : UInt8.ofNat (65 + (b.toNat - 65)) = b := by
  have := (u8_sub b h).2.2
  rw [show 65 + (b.toNat - 65) = b.toNat by omega]
  simp
theorem inF_zero (F : Nat → UInt8) (cl : List UInt8) : inF F cl 0 = F := by funext j; simp [inF]
theorem inF_set (F : Nat → UInt8) (cl : List UInt8) (i : Nat) (b : UInt8) (hi : cl[i]? = some b) (hb : isL b = true) : (arrL (inF F cl i)).toArray.setIfInBounds (b.toNat - 65) (.int .u8 ((cl.headD 0).toNat : Int)) = (arrL (inF F cl (i + 1))).toArray := by
  have e := ofNat_sub b hb
  have h26 := (u8_sub b hb).2.1
  have htk : cl.take (i + 1) = cl.take i ++ [b] := by rw [List.take_add_one, hi]; rfl
  refine arrL_set _ _ _ _ h26 ?_ (fun j hj hne => ?_)
  · unfold inF; rw [e, htk, if_pos (by simp)]
  · unfold inF
    rw [htk]
    have hnb : UInt8.ofNat (65 + j) ≠ b := fun h => by
      have h2 := congrArg UInt8.toNat h
      rw [UInt8.toNat_ofNat'] at h2
      simp only [isL, decide_eq_true_eq] at hb
      omega
    by_cases hm : UInt8.ofNat (65 + j) ∈ cl.take i
    · rw [if_pos hm, if_pos (List.mem_append_left _ hm)]
    · rw [if_neg hm, if_neg (by rw [List.mem_append, List.mem_singleton]; exact fun h => h.elim hm hnb)]
theorem sF_snoc (cls : List (List UInt8)) (cl : List UInt8) : sF (cls ++ [cl]) = inF (sF cls) cl cl.length := by
  funext j
  unfold sF inF
  rw [sndL_snoc, List.take_length]
  by_cases h : UInt8.ofNat (65 + j) ∈ cl <;> simp [h]

set_option maxRecDepth 100000 in
set_option maxHeartbeats 4000000 in
theorem sounds_any (a : Option Addr) (g o c n : Nat) (R : RB) (w : World) (hN : R.cls.length = n) (hk : SK w a g o R.cls) (hc : n ≤ c) (ht : Thn R) (hlet : LetC R) : Calls Tryz.prog 28 #[rulesV a n c R.soft R.al R.ot R.sk R.ss R.db] w fun e w' => e = .returned (.agg (arrL (sF (R.cls.map (·.data.toList)))).toArray) ∧ Below w.heap.size w w' := by
  go_enter Tryz.func28, Tryz.ntmps28
  go_wp2
  have hn2 := two_new w (rulesC a n c R.soft R.al R.ot R.sk R.ss R.db) #[.int .u8 0, .int .u8 0, .int .u8 0, .int .u8 0, .int .u8 0, .int .u8 0, .int .u8 0, .int .u8 0, .int .u8 0, .int .u8 0, .int .u8 0, .int .u8 0, .int .u8 0, .int .u8 0, .int .u8 0, .int .u8 0, .int .u8 0, .int .u8 0, .int .u8 0, .int .u8 0, .int .u8 0, .int .u8 0, .int .u8 0, .int .u8 0, .int .u8 0, .int .u8 0] 33 85
  have hkk := hk.below hn2.2.2.1
  generalize (w.alloc (.cells (rulesC a n c R.soft R.al R.ot R.sk R.ss R.db) 33)).alloc (.cells #[.int .u8 0, .int .u8 0, .int .u8 0, .int .u8 0, .int .u8 0, .int .u8 0, .int .u8 0, .int .u8 0, .int .u8 0, .int .u8 0, .int .u8 0, .int .u8 0, .int .u8 0, .int .u8 0, .int .u8 0, .int .u8 0, .int .u8 0, .int .u8 0, .int .u8 0, .int .u8 0, .int .u8 0, .int .u8 0, .int .u8 0, .int .u8 0, .int .u8 0, .int .u8 0] 85) = W0 at *
  rw [zeros26] at hn2
  obtain ⟨d1, d2, d3, d4⟩ := hn2
  have HK := Lib.hid hk
  have HLET := Lib.hid hlet
  have HT := Lib.hid ht
  have HN := Lib.hid hN
  have S0 := Lib.hid (And.intro d1 (And.intro d2 d3))
  clear hk hkk hlet hN d1 d2 d3 d4 ht
  go_loopw [8] (fun y wr => ∃ k : Nat, k ≤ 26 ∧ y = .int .i64 (k : Int) ∧ Hid (Blk wr w.heap.size (rulesC a n c R.soft R.al R.ot R.sk R.ss R.db) 33 ∧ Blk wr (w.heap.size + 1) (arrL (g1 k)).toArray 85 ∧ Below w.heap.size w wr)) (fun y _ => 26 - (intOf y).toNat)
  case atStart => exact ⟨0, by omega, rfl, S0.out⟩
  case round =>
    clear S0
    obtain ⟨k, hk26, rfl, H⟩ := hrel
    have c2 := H.out.2.1
    have lt2 := c2.lt
    by_cases hlt : k < 26
    · have q0 : (0 : Int) ≤ (k : Int) := by omega
      have q1 : (k : Int) < 26 := by omega
      have e0 : IntKind.i64.wrap (65 + (k : Int)) = 65 + (k : Int) := IntWalk.i64_in _ (by omega)
      have e1 : IntKind.u8.wrap (65 + (k : Int)) = 65 + (k : Int) := by
        have e : (2 : Int) ^ IntKind.u8.bits = 256 := rfl
        have e2 : IntKind.u8.signed = false := rfl
        simp only [IntKind.wrap, e, e2, Bool.false_and, Bool.false_eq_true, if_false]
        omega
      have hset := arrL_set (g1 k) (g1 (k + 1)) k (.int .u8 (65 + (k : Int))) hlt (by rw [g1, if_pos (by omega)]; congr 1; simp; omega) (fun i _ hi => g1_step k i hi)
      have HSET := Lib.hid hset
      have hcell := c2.cell k
      rw [arrL_get _ _ hlt] at hcell
      have hfz := c2.frozen k
      clear hset c2
      go_wp2
      go_roundw
      case rel => exact ⟨k + 1, by omega, by go_num, H.out.1.other (by simp) _, by rw [← HSET.out]; exact H.out.2.1.set k _, H.out.2.2.setCell (p := ⟨w.heap.size + 1, k, none⟩) (Nat.le_succ _) _⟩
      case measure => simp [intOf]; omega
    · have HK26 := Lib.hid (show k = 26 by omega)
      have hz26 : ¬ (k : Int) < 26 := by omega
      have hn1000 : n ≤ 1000 := by have := HT.out.1; rw [HN.out] at this; exact this
      have hs26 : arrL (g1 26) = arrL (sF []) := arrL_ext fun i hi => by simp [g1, sF, sndL, hi]
      have S1 := Lib.hid (show Blk wr w.heap.size (rulesC a n c R.soft R.al R.ot R.sk R.ss R.db) 33 ∧ Blk wr (w.heap.size + 1) (arrL (sF ((R.cls.map (·.data.toList)).take 0))).toArray 85 ∧ Below w.heap.size w wr by rw [List.take_zero, ← hs26]; have h := H.out; rw [HK26.out] at h; exact h)
      have hc0 := H.out.1.c7.1
      clear hs26 H c2 lt2
      go_wp2
      go_loopw [20] (fun y w2 => ∃ k : Nat, k ≤ n ∧ y = .int .i64 (k : Int) ∧ Hid (Blk w2 w.heap.size (rulesC a n c R.soft R.al R.ot R.sk R.ss R.db) 33 ∧ Blk w2 (w.heap.size + 1) (arrL (sF ((R.cls.map (·.data.toList)).take k))).toArray 85 ∧ Below w.heap.size w w2)) (fun y _ => n - (intOf y).toNat)
      case atStart => exact ⟨0, Nat.zero_le _, rfl, S1.out⟩
      case round =>
        clear S1 hc0
        obtain ⟨k, hkn, rfl, H⟩ := hrel
        by_cases hkl : k < n
        · obtain ⟨cl, hcl⟩ : ∃ cl, R.cls[k]? = some cl := ⟨R.cls[k]'(by rw [HN.out]; exact hkl), by simp⟩
          have hmem := List.mem_of_getElem? hcl
          have hne : R.cls ≠ [] := by rintro e; rw [e] at hcl; simp at hcl
          have e1 := HK.out.1 hne
          subst e1
          have k0 := (HK.out.2.1.below H.out.2.2 (HK.out.2.2 hne)) k cl hcl
          obtain ⟨hpos, hletc⟩ := HLET.out cl hmem
          have hcs := HT.out.2.1 cl hmem
          have hsn : (R.cls.map (·.data.toList)).take (k + 1) = (R.cls.map (·.data.toList)).take k ++ [cl.data.toList] := by
            rw [List.take_add_one, List.getElem?_map, hcl]; rfl
          have HSN := Lib.hid hsn
          have HLE := Lib.hid hletc
          have hkc := conv_rule
          have hpz : (0 : Int) < (cl.size : Int) := by omega
          have hsz := H.out.2.1.lt
          have hbb := bytes_below wr 5 cl
          have S2 := Lib.hid (show Blk (Lib.bytesWorld wr 5 cl) w.heap.size (rulesC (some ⟨g, o, none⟩) n c R.soft R.al R.ot R.sk R.ss R.db) 33 ∧ Blk (Lib.bytesWorld wr 5 cl) (w.heap.size + 1) (arrL (inF (sF ((R.cls.map (·.data.toList)).take k)) cl.data.toList 0)).toArray 85 ∧ BytesAt (Lib.bytesWorld wr 5 cl) wr.heap.size 0 cl.data.toList ∧ Below w.heap.size w (Lib.bytesWorld wr 5 cl) from
            ⟨H.out.1.b hbb, by rw [inF_zero]; exact H.out.2.1.b hbb, bytes_at wr 5 cl, H.out.2.2.trans (hbb.mono H.out.2.2.size)⟩)
          clear hcl hmem hne hletc hsn hbb
          go_wp2
          generalize wr.heap.size = B at *
          clear H k0
          go_loopw [27] (fun y w3 => ∃ i : Nat, i ≤ cl.size ∧ y = .int .i64 (i : Int) ∧ Hid (Blk w3 w.heap.size (rulesC (some ⟨g, o, none⟩) n c R.soft R.al R.ot R.sk R.ss R.db) 33 ∧ Blk w3 (w.heap.size + 1) (arrL (inF (sF ((R.cls.map (·.data.toList)).take k)) cl.data.toList i)).toArray 85 ∧ BytesAt w3 B 0 cl.data.toList ∧ Below w.heap.size w w3)) (fun y _ => cl.size - (intOf y).toNat)
          case atStart => exact ⟨0, Nat.zero_le _, rfl, S2.out⟩
          case round =>
            clear S2
            obtain ⟨i, hi, rfl, H⟩ := hrel
            by_cases hil : i < cl.size
            · have hget : cl.data.toList[i]? = some cl[i] := by rw [List.getElem?_eq_getElem (by simpa using hil)]; rfl
              have b0 := H.out.2.2.1 i cl[i] hget
              rw [Nat.zero_add] at b0
              obtain ⟨u1, u2, u3⟩ := u8_sub cl[i] (HLE.out i hil)
              have hset := inF_set (sF ((R.cls.map (·.data.toList)).take k)) cl.data.toList i cl[i] hget (HLE.out i hil)
              rw [headD_get cl hpos] at hset
              have HSET := Lib.hid hset
              have hcell := H.out.2.1.cell (cl[i].toNat - 65)
              rw [arrL_get _ _ u2] at hcell
              have hfz := H.out.2.1.frozen (cl[i].toNat - 65)
              have hne1 : B ≠ w.heap.size + 1 := by omega
              have HNE := Lib.hid hne1
              clear hget hset hne1
              go_wp2
              go_roundw
              case rel => exact ⟨i + 1, by omega, by go_num, H.out.1.other (by simp) _, by rw [← HSET.out]; exact H.out.2.1.set _ _, H.out.2.2.1.other HNE.out _, H.out.2.2.2.setCell (p := ⟨w.heap.size + 1, _, none⟩) (Nat.le_succ _) _⟩
              case measure => simp [intOf]; omega
            · obtain rfl : i = cl.size := by omega
              have S3 := Lib.hid (show Blk wr w.heap.size (rulesC (some ⟨g, o, none⟩) n c R.soft R.al R.ot R.sk R.ss R.db) 33 ∧ Blk wr (w.heap.size + 1) (arrL (sF ((R.cls.map (·.data.toList)).take (k + 1)))).toArray 85 ∧ Below w.heap.size w wr by
                rw [HSN.out, sF_snoc, show cl.data.toList.length = cl.size by simp]; exact ⟨H.out.1, H.out.2.1, H.out.2.2.2⟩)
              clear H
              go_wp2
              go_roundw
              case rel => exact ⟨k + 1, by omega, by go_num, S3.out⟩
              case measure => simp [intOf]; omega
        · obtain rfl : k = n := by omega
          have S4 := Lib.hid (show Blk wr (w.heap.size + 1) (arrL (sF (R.cls.map (·.data.toList)))).toArray 85 ∧ Below w.heap.size w wr by
            have h := H.out
            rw [List.take_of_length_le (by simp [HN.out])] at h
            exact h.2)
          clear H
          generalize hvs : arrL (sF (R.cls.map (·.data.toList))) = vs at *
          have hlen : vs.length = 26 := by rw [← hvs]; exact arrL_len _
          have hone : ∀ v, v ∈ vs → v.oneCell' = true := fun v hv => arrL_one _ v (by rw [hvs]; exact hv)
          have HLN := Lib.hid hlen
          have HON := Lib.hid hone
          have HVS := Lib.hid hvs
          clear hlen hone hvs
          go_wp2_with (first
            | (refine wpList_load_row rfl 85 _ rfl _ rfl 85 vs.toArray (0, 0) _ S4.out.1 Tryz.underlying85 rfl (by rw [tInfo103]; simp [HLN.out]) ?_)
            | (refine wpList_store_row rfl 85 _ _ rfl (w.heap.size + 1) rfl 85 vs.toArray vs.toArray rfl S4.out.1 (by rw [tInfo103]; simp [HLN.out]) rfl (by simpa using HON.out) ?_; intro w9 hb9 hg9; have HB9 := Lib.hid hb9; have HG9 := Lib.hid hg9; clear hb9 hg9))
          simp only [Act.put, List.setIfInBounds_toArray, List.set_cons_zero, List.set_cons_succ]
          have hlv : (loadVar 85 ⟨w.heap.size + 1, 0, none⟩).run Tryz.prog w9 = .ok (.agg vs.toArray) w9 :=
            run_loadVar_mid _ _ 0 85 vs _ (Blk.range HB9.out) Tryz.underlying85 rfl (by rw [tInfo103]; simp [HLN.out])
          refine bodyPost_ret (v := .agg vs.toArray) (by simp [results, Tryz.results28, asAddr, hlv]) rfl ⟨by rw [HVS.out], ?_⟩
          exact below_grownBy S4.out.2 HG9.out (Nat.le_succ _)
end Go.Proofs.YtdfebccmjbocjaaGreatDoor.Na
namespace Go.Proofs.YtdfebccmjbocjaaGreatDoor.Na
open Go.RowKit
theorem tLaidOut : laidOutB Tryz.prog = true := by kernel_rfl
theorem tCells3 : Tryz.prog.cellsOf 3 = 1 := by kernel_rfl
theorem tSize : ∃ D, Tryz.prog.types.size = D + 1 := ⟨Tryz.prog.types.size - 1, by kernel_rfl⟩
open Go.WideElems (Fit)
open Go.MapKept Go.ChangeMaps
theorem wf64 {n : Int} (h1 : -9223372036854775808 ≤ n) (h2 : n ≤ 9223372036854775807) : (Lit.int .i64 n).wf = true := WalkArith.wf_i64 ⟨h1, h2⟩

theorem nodup_len {l : List Nat} {n : Nat} (h : l.Nodup) (hl : ∀ x, x ∈ l → x < n) : l.length ≤ n := by
  have hp : l.Perm ((List.range n).filter fun x => decide (x ∈ l)) := by
    refine (List.perm_ext_iff_of_nodup h (List.Nodup.sublist List.filter_sublist List.nodup_range)).2 fun x => ?_
    simp only [List.mem_filter, List.mem_range, decide_eq_true_eq]
    exact ⟨fun hx => ⟨hl x hx, hx⟩, fun hx => hx.2⟩
  have h1 := hp.length_eq
  have h2 := List.length_filter_le (fun x => decide (x ∈ l)) (List.range n)
  rw [List.length_range] at h2
  omega
/-- the number that stands for a key -/
def codeOf (v : Value) : Nat :=
  match v with
  | .agg cs => match cs.toList with
    | [.int _ n, .int _ k] => n.toNat * 61 + k.toNat
    | _ => 0
  | _ => 0
theorem codeOf_cell (n k : Nat) : codeOf (cellV n k) = n * 61 + k := rfl
section
variable {w w' : World} {b : Nat} {f : Nat → Nat → Nat}
end
end Go.Proofs.YtdfebccmjbocjaaGreatDoor.Na
