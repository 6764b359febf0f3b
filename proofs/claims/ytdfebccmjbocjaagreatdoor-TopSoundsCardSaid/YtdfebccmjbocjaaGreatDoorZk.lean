/- sheet: whether the entries of a set fit. -/
import Derived.Test.YtdfebccmjbocjaaGreatDoorZj
import Derived.Test.YtdfebccmjbocjaaGreatDoorZn
set_option linter.unusedVariables false
set_option linter.unusedSimpArgs false
namespace Go.Proofs.YtdfebccmjbocjaaGreatDoor
open Go.RowKit Go.Shelf

/-- a slice of entries, of pairs: reads as a list -/
structure Loc where
  a : Option Addr
  b : Nat
  o : Nat
  c : Nat
structure SlE (W : World) (l : Loc) (es : List Ent) : Prop where
  at_ : es ≠ [] → l.a = some ⟨l.b, l.o, none⟩
  lt : es ≠ [] → l.b < W.heap.size
  cells : EntsAt W l.b l.o es
structure SlP (W : World) (l : Loc) (ps : List (Nat × Nat)) : Prop where
  at_ : ps ≠ [] → l.a = some ⟨l.b, l.o, none⟩
  lt : ps ≠ [] → l.b < W.heap.size
  cells : PairsAt W l.b l.o ps
theorem SlE.below {W W' : World} {l : Loc} {es : List Ent} (h : SlE W l es) (hb : Below W.heap.size W W') : SlE W' l es := ⟨h.at_, fun hn => Nat.lt_of_lt_of_le (h.lt hn) hb.size, by
  by_cases hn : es = []
  · subst hn; intro i e hi; simp at hi
  · exact h.cells.below hb (h.lt hn)⟩
theorem SlP.below {W W' : World} {l : Loc} {ps : List (Nat × Nat)} (h : SlP W l ps) (hb : Below W.heap.size W W') : SlP W' l ps := ⟨h.at_, fun hn => Nat.lt_of_lt_of_le (h.lt hn) hb.size, by
  by_cases hn : ps = []
  · subst hn; intro i e hi; simp at hi
  · exact h.cells.below hb (h.lt hn)⟩
theorem bits_sorted (s : Nat) : (Sh.bits s).Pairwise (fun a b : Nat => a < b) := List.Pairwise.filter _ List.pairwise_lt_range
theorem bits_lt_of {s i j x y : Nat} (hi : (Sh.bits s)[i]? = some x) (hj : (Sh.bits s)[j]? = some y) (h : j < i) : y < x := by
  have hil := (List.getElem?_eq_some_iff.1 hi)
  have hjl := (List.getElem?_eq_some_iff.1 hj)
  have := List.pairwise_iff_getElem.1 (bits_sorted s) j i hjl.1 hil.1 h
  rw [hil.2, hjl.2] at this
  exact this
theorem bits_idx {s i j x y : Nat} (hi : (Sh.bits s)[i]? = some x) (hj : (Sh.bits s)[j]? = some y) (h : y < x) : j < i := by
  rcases Nat.lt_trichotomy j i with h1 | h1 | h1
  · exact h1
  · subst h1; rw [hi] at hj; cases hj; omega
  · have := bits_lt_of hj hi h1; omega
/-- the pairs that were tried -/
def pairsOk (fit : Nat → Nat → Bool) (S : Nat) : Bool := (Sh.bits S).all fun a => (Sh.bits S).all fun b => !decide (b < a) || fit a b
theorem pairsOk_false {fit : Nat → Nat → Bool} {S i j x y : Nat} (hi : (Sh.bits S)[i]? = some x) (hj : (Sh.bits S)[j]? = some y) (h : j < i) (hf : fit x y = false) : pairsOk fit S = false := by
  rw [Bool.eq_false_iff]
  intro hp
  simp only [pairsOk, List.all_eq_true] at hp
  have := hp x (List.mem_of_getElem? hi) y (List.mem_of_getElem? hj)
  simp [bits_lt_of hi hj h, hf] at this
theorem pairsOk_true {fit : Nat → Nat → Bool} {S : Nat} (h : ∀ (i j x y : Nat), (Sh.bits S)[i]? = some x → (Sh.bits S)[j]? = some y → j < i → fit x y = true) : pairsOk fit S = true := by
  simp only [pairsOk, List.all_eq_true]
  intro x hx y hy
  obtain ⟨i, hi⟩ := List.getElem?_of_mem hx
  obtain ⟨j, hj⟩ := List.getElem?_of_mem hy
  by_cases hlt : y < x
  · simp [h i j x y hi hj (bits_idx hi hj hlt)]
  · simp [hlt]
theorem fitsB_eq (fit : Nat → Nat → Bool) (ap : List (Nat × Nat)) (S : Nat) : Sh.fitsB fit ap S = (pairsOk fit S && ap.all fun p => !S.testBit p.1 || !S.testBit p.2) := rfl
/-- what fits() reads of a work -/
structure FW (W : World) (g : Nat) (e a : Loc) (es : List Ent) (ap : List (Nat × Nat)) : Prop where
  lt : g < W.heap.size
  c0 : W.cell? ⟨g, 0, none⟩ = some (.slice e.a es.length e.c)
  c2 : W.cell? ⟨g, 2, none⟩ = some (.slice a.a ap.length a.c)
  es : SlE W e es
  ap : SlP W a ap
  gt : GT W
  one : 1 < W.heap.size
theorem FW.below {W W' : World} {g : Nat} {e a : Loc} {es : List Ent} {ap : List (Nat × Nat)} (h : FW W g e a es ap) (hb : Below W.heap.size W W') : FW W' g e a es ap :=
  ⟨Nat.lt_of_lt_of_le h.lt hb.size, (hb.cell (p := ⟨g, 0, none⟩) h.lt).trans h.c0, (hb.cell (p := ⟨g, 2, none⟩) h.lt).trans h.c2, h.es.below hb, h.ap.below hb, h.gt.below hb h.one, Nat.lt_of_lt_of_le h.one hb.size⟩
end Go.Proofs.YtdfebccmjbocjaaGreatDoor
