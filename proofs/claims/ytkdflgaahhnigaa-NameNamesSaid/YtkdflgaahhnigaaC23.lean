/- Texts of package name, for this seat. -/
import Derived.Test.YtkdflgaahhnigaaC22
import Derived.RangeFuncLeaves
import Derived.RangeFuncRecord
set_option linter.unusedVariables false
set_option linter.unusedSimpArgs false
namespace Go.Proofs.Ytkdflgaahhnigaa
open Go.RowKit Go.Shelf

/-- the steps from a cell, by rules -/
def stR (R : RB) (x y : ByteArray) (i j : Nat) : List Nm.St := stL R.soft R.al.toNat R.ot.toNat R.sk.toNat R.ss.toNat R.db.toNat x y (sndR R) i j
theorem stR_eq (R : RB) (x y : ByteArray) (i j : Nat) : stR R x y i j = Nm.stepsOf (SWR R x y) (SAR R x) (SAR R y) x.size y.size i j := rfl
theorem cR_eq (R : RB) (x y : ByteArray) (i j : Nat) : cR R x y i j = Nm.cs (SWR R x y) (SAR R x) (SAR R y) x.size y.size i j := rfl
theorem step1_in {sw : Nat → Nat → Nat} {sa sb : Nat → Nat} {n m i j : Nat} {t : Nm.St} (h : t ∈ Nm.stepsOf sw sa sb n m i j) (k : Nat) : Nm.step1 sw sa sb n m (i, j, k) t.1 = some ((Nm.aft (i, j) t.1).1, (Nm.aft (i, j) t.1).2, k + t.2) := by
  have e1 : ((-1 : Int) = (j : Int)) = False := eq_false (by omega)
  have e2 : ((-1 : Int) = (i : Int)) = False := eq_false (by omega)
  rcases Nm.stepsOf_cases h with ⟨rfl, h1, h2, h3⟩ | ⟨rfl, h1, h3⟩ | ⟨rfl, h1, h3⟩
  · rw [h3]; unfold Nm.step1; simp [h1, h2]
  · rw [h3]; unfold Nm.step1; simp [h1, e1]
  · rw [h3]; unfold Nm.step1; simp [h1, e2]
theorem step1_out {sw : Nat → Nat → Nat} {sa sb : Nat → Nat} {n m i j : Nat} {s : Int × Int} (h : ∀ t, t ∈ Nm.stepsOf sw sa sb n m i j → t.1 ≠ s) (k : Nat) : Nm.step1 sw sa sb n m (i, j, k) s = none := by
  rw [Nm.step1_find, Option.map_eq_none_iff, List.find?_eq_none]
  intro t ht e
  exact h t ht (by simpa using e)
/-- l leads to the cell, and the least cost is still to be had -/
def WayR (R : RB) (x y : ByteArray) (l : List (Int × Int)) (i j : Nat) : Prop := ∃ t, WS R x y l = some (i, j, t) ∧ t + cR R x y i j = cR R x y 0 0
theorem WayR.nil (R : RB) (x y : ByteArray) : WayR R x y [] 0 0 := ⟨0, rfl, by omega⟩
theorem WayR.step {R : RB} {x y : ByteArray} {l : List (Int × Int)} {i j : Nat} (h : WayR R x y l i j) {t : Nm.St} (ht : t ∈ stR R x y i j) (hc : t.2 + cR R x y (Nm.aft (i, j) t.1).1 (Nm.aft (i, j) t.1).2 = cR R x y i j) : WayR R x y (l ++ [t.1]) (Nm.aft (i, j) t.1).1 (Nm.aft (i, j) t.1).2 := by
  obtain ⟨k, h1, h2⟩ := h
  refine ⟨k + t.2, ?_, by omega⟩
  unfold WS at *
  rw [Nm.walkS_snoc, h1]
  exact step1_in ht k
theorem WayR.done {R : RB} {x y : ByteArray} {l : List (Int × Int)} (h : WayR R x y l x.size y.size) : costsV R x y l = (cR R x y 0 0 : Int) := by
  obtain ⟨k, h1, h2⟩ := h
  have h3 : cR R x y x.size y.size = 0 := Nm.cs_end
  unfold costsV Nm.costsR
  unfold WS at h1
  rw [h1]
  simp only [Nat.lt_irrefl, or_self, if_false]
  omega
/-- some step goes on at the least cost -/
theorem way_some {R : RB} {x y : ByteArray} {i j : Nat} (hi : i ≤ x.size) (hj : j ≤ y.size) (h : i < x.size ∨ j < y.size) : ∃ t, t ∈ stR R x y i j ∧ t.2 + cR R x y (Nm.aft (i, j) t.1).1 (Nm.aft (i, j) t.1).2 = cR R x y i j := Nm.cs_some hi hj h
theorem aft_R {R : RB} {x y : ByteArray} {i j : Nat} {t : Nm.St} (ht : t ∈ stR R x y i j) (hi : i ≤ x.size) (hj : j ≤ y.size) : (Nm.aft (i, j) t.1).1 ≤ x.size ∧ (Nm.aft (i, j) t.1).2 ≤ y.size ∧ i + j < (Nm.aft (i, j) t.1).1 + (Nm.aft (i, j) t.1).2 := aft_ok _ _ _ _ _ _ _ _ _ i j t ht hi hj
theorem len_way {R : RB} {x y : ByteArray} {l : List (Int × Int)} {i j : Nat} (h : WayR R x y l i j) : l.length ≤ i + j ∧ i ≤ x.size ∧ j ≤ y.size := by
  obtain ⟨k, h1, _⟩ := h
  obtain ⟨a, b, _, d⟩ := Nm.walkS_bound l (0, 0, 0) (i, j, k) h1 (Nat.zero_le _) (Nat.zero_le _)
  simp only at a b d
  exact ⟨by omega, a, b⟩
/-- the first step that goes on at the least cost -/
def nextR (R : RB) (x y : ByteArray) (i j : Nat) : Option Nm.St := (stR R x y i j).find? fun t => t.2 + cR R x y (Nm.aft (i, j) t.1).1 (Nm.aft (i, j) t.1).2 == cR R x y i j
/-- the way that is taken -/
def gN (R : RB) (x y : ByteArray) : Nat → (Nat × Nat) × List (Int × Int)
  | 0 => ((0, 0), [])
  | k + 1 => match nextR R x y (gN R x y k).1.1 (gN R x y k).1.2 with
    | some t => (Nm.aft (gN R x y k).1 t.1, (gN R x y k).2 ++ [t.1])
    | none => gN R x y k
theorem next_pre {R : RB} {x y : ByteArray} {i j : Nat} {pre : List Nm.St} {t : Nm.St} (h : pre ++ [t] <+: stR R x y i j) (hp : ∀ u, u ∈ pre → u.2 + cR R x y (Nm.aft (i, j) u.1).1 (Nm.aft (i, j) u.1).2 ≠ cR R x y i j) (ht : t.2 + cR R x y (Nm.aft (i, j) t.1).1 (Nm.aft (i, j) t.1).2 = cR R x y i j) : nextR R x y i j = some t := by
  obtain ⟨rest, e⟩ := h
  have h0 : pre.find? (fun t => t.2 + cR R x y (Nm.aft (i, j) t.1).1 (Nm.aft (i, j) t.1).2 == cR R x y i j) = none := by
    rw [List.find?_eq_none]
    intro u hu e2
    exact hp u hu (by simpa using e2)
  unfold nextR
  rw [← e, List.find?_append, List.find?_append, h0]
  simp [ht]
/-- l is the way taken so far, the least cost is still to be had -/
def AlnR (R : RB) (x y : ByteArray) (l : List (Int × Int)) (i j : Nat) : Prop := WayR R x y l i j ∧ gN R x y l.length = ((i, j), l)
theorem AlnR.nil (R : RB) (x y : ByteArray) : AlnR R x y [] 0 0 := ⟨.nil R x y, rfl⟩
theorem AlnR.step {R : RB} {x y : ByteArray} {l : List (Int × Int)} {i j : Nat} (h : AlnR R x y l i j) {pre : List Nm.St} {t : Nm.St} (hpt : pre ++ [t] <+: stR R x y i j) (hp : ∀ u, u ∈ pre → u.2 + cR R x y (Nm.aft (i, j) u.1).1 (Nm.aft (i, j) u.1).2 ≠ cR R x y i j) (hc : t.2 + cR R x y (Nm.aft (i, j) t.1).1 (Nm.aft (i, j) t.1).2 = cR R x y i j) : AlnR R x y (l ++ [t.1]) (Nm.aft (i, j) t.1).1 (Nm.aft (i, j) t.1).2 := by
  have hm : t ∈ stR R x y i j := hpt.subset (by simp)
  refine ⟨h.1.step hm hc, ?_⟩
  have hn := next_pre hpt hp hc
  have h2 := h.2
  rw [List.length_append, List.length_singleton]
  unfold gN
  rw [h2]
  simp only [hn]
end Go.Proofs.Ytkdflgaahhnigaa

namespace Go.Proofs.Ytkdflgaahhnigaa
open Go.RowKit Go.Shelf

def mark (D : Nat) : Deferred := { target := .collected D, args := #[] }
/-- marks whose blocks hold no call, the newest first -/
def MarksB (B : Nat) (W : World) : Nat → List Deferred → Prop
  | _, [] => True
  | top, d :: ds => ∃ D, d = mark D ∧ B ≤ D ∧ D < top ∧ W.heap[D]? = some (.deferred (some [])) ∧ MarksB B W D ds
theorem MarksB.kept {B : Nat} {W W' : World} : ∀ {ds : List Deferred} {top top' : Nat}, MarksB B W top ds → (∀ D, D < top → W.heap[D]? = some (.deferred (some [])) → W'.heap[D]? = some (.deferred (some []))) → top ≤ top' → MarksB B W' top' ds
  | [], _, _, _, _, _ => trivial
  | _ :: _, _, _, ⟨D, h1, h2, h3, h4, h5⟩, hk, ht => ⟨D, h1, h2, Nat.lt_of_lt_of_le h3 ht, hk D h3 h4, h5.kept (fun D' hD h => hk D' (Nat.lt_trans hD h3) h) (Nat.le_refl _)⟩
theorem MarksB.cons {B D top : Nat} {W : World} {ds : List Deferred} (h : MarksB B W D ds) (hB : B ≤ D) (hD : D < top) (hb : W.heap[D]? = some (.deferred (some []))) : MarksB B W top (mark D :: ds) := ⟨D, rfl, hB, hD, hb, h⟩
theorem MarksB.grown {B top top' : Nat} {W W' : World} {ds : List Deferred} {row : Option Nat} (h : MarksB B W top ds) (hg : W.grownBy W' row) (hr : ∀ r, row = some r → top ≤ r ∨ W.heap[r]? ≠ some (.deferred (some []))) (ht : top ≤ top') : MarksB B W' top' ds :=
  h.kept (fun D hD hb => (hg.block D (Array.getElem?_eq_some_iff.1 hb).1 (fun e => by rcases hr D e.symm with h | h; omega; exact h hb)).trans hb) ht
theorem MarksB.below {B top top' : Nat} {W W' : World} {ds : List Deferred} (h : MarksB B W top ds) (hb : Below W.heap.size W W') (ht : top ≤ top') : MarksB B W' top' ds := h.grown (grownBy_below hb none) (fun _ e => by cases e) ht
/-- the function leaves: each mark's block is shut -/
theorem leaves_marks {F : Fence} {n : Nat} {P : Program} {fn : Func} {tmps : Array Value} {R : Ending → World → Prop} {u : FrameMode} (hu : u ≠ .run) {B : Nat} : ∀ (ds : List Deferred) (top : Nat) (W : World), MarksB B W top ds → (∀ W', Below B W W' → KpE (fun _ => False) W W' → LeavesInM F n P fn tmps R [] u W') → LeavesInM F n P fn tmps R ds u W
  | [], _, W, _, h => h W (Below.refl _ _) (KpE.below (Below.refl _ _))
  | _ :: ds, _, W, ⟨D, h1, h2, _, h4, h5⟩, h => ⟨hu, .inl ⟨D, W.putObj D (.deferred none), by rw [h1]; rfl, run_takeDeferred h4, leaves_marks hu ds D _ (h5.kept (fun D' hD hb => (World.putObj_heap_other (Nat.ne_of_lt hD)).trans hb) (Nat.le_refl _)) (fun W' hb hk => h W' (Below.trans (show Below B W (W.putObj D (.deferred none)) from ⟨rfl, rfl, rfl, by simp [World.putObj], fun k hk => World.putObj_heap_other (by omega)⟩) hb) ((KpE.putObj D _ _ h4 rfl).trans hk))⟩⟩
theorem ownsRow_kp {W W' : World} {B : Nat} {e : TypeId} {size : Nat} {v : Value} {k : Nat} {xs : List Value} (h : W.ownsRow B e size v k xs) (hk : KpE (fun _ => False) W W') : W'.ownsRow B e size v k xs := by
  refine ⟨h.1, ?_⟩
  rcases h.2 with h2 | ⟨g, cap, cur, h2, h3, h4, h5⟩
  · exact .inl h2
  · exact .inr ⟨g, cap, cur, h2, h3, hk g _ (fun h => h) h4 rfl, h5⟩
end Go.Proofs.Ytkdflgaahhnigaa
