/- Texts of package name, for this seat. -/
import Derived.Test.YtkdflgaahhnigaaC17
import Derived.Test.YtkdflgaahhnigaaC19
set_option linter.unusedVariables false
set_option linter.unusedSimpArgs false
namespace Go.Proofs.Ytkdflgaahhnigaa
open Go.RowKit Go.Shelf

/-- steps that lie in a row -/
def StepsAt (W : World) (b o : Nat) (l : List (Int × Int)) : Prop := ∀ i s, l[i]? = some s → W.cell? ⟨b, o + i * 2, none⟩ = some (.int .i64 s.1) ∧ W.cell? ⟨b, o + i * 2 + 1, none⟩ = some (.int .i64 s.2)
def StK (W : World) (a : Option Addr) (g o n : Nat) (l : List (Int × Int)) : Prop := l.length = n ∧ (l ≠ [] → a = some ⟨g, o, none⟩) ∧ StepsAt W g o l ∧ (l ≠ [] → g < W.heap.size)
theorem StK.below {W W' : World} {a : Option Addr} {g o n : Nat} {l : List (Int × Int)} (h : StK W a g o n l) (hb : Below W.heap.size W W') : StK W' a g o n l := by
  refine ⟨h.1, h.2.1, fun i s e => ?_, fun hx => Nat.lt_of_lt_of_le (h.2.2.2 hx) hb.size⟩
  have hx : l ≠ [] := by rintro rfl; simp at e
  have := h.2.2.1 i s e
  exact ⟨(hb.cell (p := ⟨g, _, none⟩) (h.2.2.2 hx)).trans this.1, (hb.cell (p := ⟨g, _, none⟩) (h.2.2.2 hx)).trans this.2⟩
def WS (R : RB) (x y : ByteArray) (l : List (Int × Int)) : Option (Nat × Nat × Nat) := Nm.walkS (SWR R x y) (SAR R x) (SAR R y) x.size y.size (0, 0, 0) l
def costsV (R : RB) (x y : ByteArray) (l : List (Int × Int)) : Int := Nm.costsR (SWR R x y) (SAR R x) (SAR R y) x.size y.size l
theorem WS_snoc {R : RB} {x y : ByteArray} {l : List (Int × Int)} {s : Int × Int} {j i k t : Nat} (h : WS R x y (l.take j) = some (i, k, t)) (hs : l[j]? = some s) : WS R x y (l.take (j + 1)) = Nm.step1 (SWR R x y) (SAR R x) (SAR R y) x.size y.size (i, k, t) s := by
  unfold WS at *
  rw [List.take_add_one, hs]
  show Nm.walkS _ _ _ _ _ _ (l.take j ++ [s]) = _
  rw [Nm.walkS_snoc, h]; rfl
theorem WS_none {R : RB} {x y : ByteArray} {l : List (Int × Int)} {j : Nat} (h : WS R x y (l.take (j + 1)) = none) : costsV R x y l = -1 := by
  unfold costsV Nm.costsR
  have e : Nm.walkS (SWR R x y) (SAR R x) (SAR R y) x.size y.size (0, 0, 0) l = none := by
    rw [← List.take_append_drop (j + 1) l, Nm.walkS_append]
    unfold WS at h
    rw [h]; rfl
  rw [e]
end Go.Proofs.Ytkdflgaahhnigaa

namespace Go.Proofs.Ytkdflgaahhnigaa
open Go.RowKit Go.Shelf

/-- small numbers that lie in a row -/
def U16K (W : World) (a : Option Addr) (g o n : Nat) (l : List Nat) : Prop := l.length = n ∧ (l ≠ [] → a = some ⟨g, o, none⟩) ∧ (∀ (i x : Nat), l[i]? = some x → W.cell? ⟨g, o + i, none⟩ = some (.int .u16 (x : Int))) ∧ (l ≠ [] → g < W.heap.size) ∧ ∀ x, x ∈ l → x < 65536
theorem U16K.below {W W' : World} {a : Option Addr} {g o n : Nat} {l : List Nat} (h : U16K W a g o n l) (hb : Below W.heap.size W W') : U16K W' a g o n l := by
  refine ⟨h.1, h.2.1, fun i x e => ?_, fun hx => Nat.lt_of_lt_of_le (h.2.2.2.1 hx) hb.size, h.2.2.2.2⟩
  have hx : l ≠ [] := by rintro rfl; simp at e
  exact (hb.cell (p := ⟨g, _, none⟩) (h.2.2.2.1 hx)).trans (h.2.2.1 i x e)
def wordN (l : List Nat) (n : Nat) : Nat := l.getD (n % l.length) 0
end Go.Proofs.Ytkdflgaahhnigaa

namespace Go.Proofs.Ytkdflgaahhnigaa
open Go.RowKit Go.Shelf

def stepsV (l : List (Int × Int)) : List Value := l.flatMap fun s => [.int .i64 s.1, .int .i64 s.2]
theorem stepsV_snoc (l : List (Int × Int)) (s : Int × Int) : stepsV (l ++ [s]) = stepsV l ++ [.int .i64 s.1, .int .i64 s.2] := by simp [stepsV]
theorem stepsV_len (l : List (Int × Int)) : (stepsV l).length = l.length * 2 := by
  induction l with
  | nil => rfl
  | cons s l ih => simp [stepsV] at *; omega
theorem news_two {W : World} {nb : Nat} {x y : Value} (h0 : W.cell? ⟨nb, 0, none⟩ = some x) (h1 : W.cell? ⟨nb, 1, none⟩ = some y) : ∀ (j : Nat) (u : Value), ([x, y] : List Value)[j]? = some u → W.cell? ((⟨nb, 0, none⟩ : Addr).add j) = some u := fun j u hj => by
  match j with
  | 0 => simp at hj; subst hj; simpa [Addr.add] using h0
  | 1 => simp at hj; subst hj; simpa [Addr.add] using h1
  | k+2 => simp at hj
theorem stepsV_get : ∀ (l : List (Int × Int)) (i : Nat) (s : Int × Int), l[i]? = some s → (stepsV l)[i * 2]? = some (.int .i64 s.1) ∧ (stepsV l)[i * 2 + 1]? = some (.int .i64 s.2)
  | [], i, s, h => by simp at h
  | t :: l, 0, s, h => by simp at h; subst h; exact ⟨rfl, rfl⟩
  | t :: l, i+1, s, h => by
    have ih := stepsV_get l i s (by simpa using h)
    have e1 : (i + 1) * 2 = i * 2 + 1 + 1 := by omega
    have e : stepsV (t :: l) = .int .i64 t.1 :: .int .i64 t.2 :: stepsV l := rfl
    rw [e, e1]
    exact ⟨by simpa using ih.1, by simpa using ih.2⟩
theorem tInfo122 : (Try.prog.info? 41).map (fun i => (i.zero, i.size, i.bytes)) = some (some (.agg #[.int .i64 0, .int .i64 0]), 2, 16) := by kernel_rfl
theorem stk_own122 {W : World} {B n : Nat} {v : Value} {l : List (Int × Int)} (h : W.ownsRow B 41 2 v n (stepsV l)) : ∃ a g c, v = .slice a n c ∧ StK W a g 0 n l := by
  have hl : l.length = n := by have := h.1; rw [stepsV_len] at this; omega
  rcases Joins.ownsRow_forms h with ⟨rfl, rfl⟩ | ⟨g, c, rfl⟩
  · have e : l = [] := List.eq_nil_of_length_eq_zero hl
    subst e
    exact ⟨none, 0, 0, rfl, rfl, fun h => absurd rfl h, fun i x e => by simp at e, fun h => absurd rfl h⟩
  · refine ⟨_, g, c, rfl, hl, fun _ => rfl, fun i s e => ?_, fun _ => (h.lt g rfl).2⟩
    have hi := (List.getElem?_eq_some_iff.1 e).1
    obtain ⟨k1, k2⟩ := stepsV_get l i s e
    rw [Nat.zero_add, h.cellAt (i * 2) (by omega), h.cellAt (i * 2 + 1) (by omega)]
    exact ⟨k1, k2⟩
end Go.Proofs.Ytkdflgaahhnigaa
