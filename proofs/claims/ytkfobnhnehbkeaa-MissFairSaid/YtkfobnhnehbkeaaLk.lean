/- What is kept while a list is gathered beside calls that make memory. -/
import Derived.Test.YtkfobnhnehbkeaaExcl
import Derived.Test.YtkfobnhnehbkeaaDraws
namespace Go.Proofs.Ytkfobnhnehbkeaa
open Go.RowKit Go.Shelf
open Mis (ch sets tot sm low up lower)

/-- the blocks bs; the gathered list (v, due) from block B2 on; the numbers ys at lb -/
def Lk (w : World) (B2 : Nat) (v : Value) (due : List Nat) (lb : Nat) (ys : List Int) (bs : List (Nat × Array Value × TypeId)) (W : World) : Prop :=
  KS w bs W ∧ W.ownsRow B2 3 1 v due.length (intsV due) ∧ IntsAt W lb 0 ys ∧ (ys ≠ [] → lb < B2) ∧ B2 ≤ W.heap.size
section
variable {w W W' : World} {B2 lb : Nat} {v v' : Value} {due : List Nat} {ys : List Int} {bs bs' : List (Nat × Array Value × TypeId)}
theorem Lk.below (h : Lk w B2 v due lb ys bs W) (hb : Below W.heap.size W W') : Lk w B2 v due lb ys bs W' := by
  obtain ⟨h1, h2, h3, h4, h5⟩ := h
  refine ⟨h1.below hb, row_below h2 hb, ?_, h4, Nat.le_trans h5 hb.size⟩
  by_cases hne : ys = []
  · subst hne; intro i a h; simp at h
  · exact h3.below hb (by have := h4 hne; omega)
theorem Lk.alloc (h : Lk w B2 v due lb ys bs W) (o : Obj) : Lk w B2 v due lb ys bs (W.alloc o) := h.below ((Below.refl _ _).alloc (Nat.le_refl _) o)
theorem Lk.drew (h : Lk w B2 v due lb ys bs W) : Lk w B2 v due lb ys bs W.drew := h.below (Below.refl _ _).drew
theorem Lk.drewN (h : Lk w B2 v due lb ys bs W) (q : Nat) : Lk w B2 v due lb ys bs (W.drewN q) := h.below ((Below.refl _ _).drewN' q)
theorem Lk.ks (h : Lk w B2 v due lb ys bs W) : KS w bs W := h.1
theorem Lk.new (h : Lk w B2 v due lb ys bs W) (cs : Array Value) (t : TypeId) : Lk w B2 v due lb ys ((W.heap.size, cs, t) :: bs) (W.alloc (.cells cs t)) := ⟨h.1.new cs t, (h.alloc _).2⟩
theorem Lk.sub (h : Lk w B2 v due lb ys bs W) (hx : ∀ x, x ∈ bs' → x ∈ bs) : Lk w B2 v due lb ys bs' W := ⟨h.1.sub hx, h.2⟩
theorem KS.kept {row : Option Nat} {B : Nat} (h : KS w bs W) (hg : W.grownBy W' row) (hr : ∀ j, row = some j → B ≤ j) (hb : ∀ x, x ∈ bs → x.1 < B) (hB : w.heap.size ≤ B) : KS w bs W' :=
  ⟨fun x hx => (h.1 x hx).kept hg (fun e => by have h1 := hr _ e.symm; have h2 := hb x hx; omega), h.2.grown hg h.2.size (fun j e => by have := hr j e; omega)⟩
theorem Lk.app {u : Nat} {tmp : Obj} (h : Lk w B2 v due lb ys bs W) (ho : W'.ownsRow B2 3 1 v' (due.length + 1) (intsV due ++ [.int .i64 (u : Int)])) (hg : (W.alloc tmp).grownBy W' v.ownBlock) (hb : ∀ x, x ∈ bs → x.1 < B2) (hB : w.heap.size ≤ B2) :
    Lk w B2 v' (due ++ [u]) lb ys bs W' := by
  have h0 := h.alloc tmp
  obtain ⟨h1, h2, h3, h4, h5⟩ := h0
  refine ⟨h1.kept hg (fun j e => (h2.lt j e).1) hb hB, ?_, ?_, h4, Nat.le_trans h5 hg.size⟩
  · rw [List.length_append]
    have e : intsV (due ++ [u]) = intsV due ++ [.int .i64 (u : Int)] := by unfold intsV; rw [List.map_append]; rfl
    rw [e]; exact ho
  · by_cases hne : ys = []
    · subst hne; intro i a h; simp at h
    · intro i a e
      have hlt := h4 hne
      have h6 := h3 i a e
      obtain ⟨cs, hcs⟩ : ∃ o, (W.alloc tmp).heap[lb]? = some o := by
        have : lb < (W.alloc tmp).heap.size := by omega
        exact ⟨_, Array.getElem?_eq_getElem this⟩
      have h7 := hg.block lb (by omega) (fun e => by have := (h2.lt lb e.symm).1; omega)
      have : W'.cell? ⟨lb, 0 + i, none⟩ = (W.alloc tmp).cell? ⟨lb, 0 + i, none⟩ := by simp [World.cell?, h7]
      rw [this]; exact h6
end
end Go.Proofs.Ytkfobnhnehbkeaa
