/- Marks of ranges over a function, when the function leaves: a list of them. -/
import Derived.Test.YtkfobnhnehbkeaaEnough2
namespace Go.Proofs.Ytkfobnhnehbkeaa
open Go.RowKit Go.Shelf

def markOf (D : Nat) : Deferred := { target := .collected D, args := #[] }
/-- a list of open marks, above B -/
def Marks (B : Nat) (W : World) (Ds : List Nat) : Prop := Ds.Nodup ∧ ∀ D, D ∈ Ds → B ≤ D ∧ W.heap[D]? = some (.deferred (some []))
theorem Marks.nil (B : Nat) (W : World) : Marks B W [] := ⟨List.nodup_nil, fun _ h => by cases h⟩
theorem Marks.below {B n : Nat} {W W' : World} {Ds : List Nat} (h : Marks B W Ds) (hb : Below n W W') (hn : W.heap.size ≤ n) : Marks B W' Ds := by
  refine ⟨h.1, fun D hD => ⟨(h.2 D hD).1, ?_⟩⟩
  have h1 := (h.2 D hD).2
  have hlt : D < W.heap.size := (Array.getElem?_eq_some_iff.1 h1).1
  exact (hb.block D (by omega)).trans h1
theorem Marks.kept {B : Nat} {row : Option Nat} {W W' : World} {Ds : List Nat} (h : Marks B W Ds) (hg : W.grownBy W' row) (hr : ∀ D, D ∈ Ds → some D ≠ row) : Marks B W' Ds := by
  refine ⟨h.1, fun D hD => ⟨(h.2 D hD).1, ?_⟩⟩
  have h1 := (h.2 D hD).2
  have hlt : D < W.heap.size := (Array.getElem?_eq_some_iff.1 h1).1
  exact (hg.block D hlt (hr D hD)).trans h1
theorem Marks.cons {B D : Nat} {W : World} {Ds : List Nat} (h : Marks B W Ds) (hB : B ≤ D) (hD : W.heap[D]? = some (.deferred (some []))) (hn : D ∉ Ds) : Marks B W (D :: Ds) := by
  refine ⟨List.nodup_cons.2 ⟨hn, h.1⟩, fun D' hD' => ?_⟩
  rcases List.mem_cons.1 hD' with rfl | h'
  · exact ⟨hB, hD⟩
  · exact h.2 D' h'

theorem leaves_marks {F : Fence} {n : Nat} {P : Program} {fn : Func} {tmps : Array Value} {R : Ending → World → Prop} {B : Nat} {J : World → Prop}
    (hJ : ∀ (W : World) (D : Nat) (o' : Obj), B ≤ D → J W → W.heap[D]? = some (.deferred (some [])) → J (W.putObj D o'))
    (hend : ∀ W, J W → LeavesIn F n P fn tmps R [] .returning W) : ∀ (Ds : List Nat) (W : World), Marks B W Ds → J W → LeavesInM F n P fn tmps R (Ds.map markOf) .returning W
  | [], W, _, h => hend W h
  | D :: Ds, W, hm, h => by
    obtain ⟨hB, hD⟩ := hm.2 D (List.mem_cons_self ..)
    have hnd := List.nodup_cons.1 hm.1
    refine ⟨by simp, .inl ⟨D, _, rfl, run_takeDeferred hD, ?_⟩⟩
    refine leaves_marks hJ hend Ds _ ⟨hnd.2, fun D' hD' => ?_⟩ (hJ W D _ hB h hD)
    obtain ⟨h1, h2⟩ := hm.2 D' (List.mem_cons_of_mem _ hD')
    exact ⟨h1, (World.putObj_heap_other (fun e => hnd.1 (by rw [← e] at *; first | exact hD' | (rw [e]; exact hD')))).trans h2⟩
end Go.Proofs.Ytkfobnhnehbkeaa
