/- slices.Delete and slices.Sort at rows that the call owns. -/
import Derived.Test.YtkfobnhnehbkeaaShelf
import Derived.Lib.OwnBridge
import Derived.Shelf.SortM.SortNone
import Derived.Sort.OwnSortedInts
namespace Go.Proofs.Ytkfobnhnehbkeaa
open Go.RowKit Go.Shelf

theorem delete_own {base g n cap i : Nat} {zs : List Int} {w : World} (h : w.ownsRow base 3 1 (.slice (some ⟨g, 0, none⟩) n cap) n (zs.map (Value.int .i64))) (hi : i < n) :
    Calls Try.prog 72 #[.slice (some ⟨g, 0, none⟩) n cap, .int .i64 i, .int .i64 ((i : Int) + 1)] w fun e w' =>
      e = .returned (.slice (some ⟨g, 0, none⟩) (n - 1) cap) ∧ w'.ownsRow base 3 1 (.slice (some ⟨g, 0, none⟩) (n - 1) cap) (n - 1) ((zs.eraseIdx i).map (Value.int .i64)) ∧ w.grownBy w' (some g) := by
  obtain ⟨i0, hi0, hz0, hz1, hz2⟩ := info_parts tInfo3
  obtain ⟨g', cap', hv, hb, hlt, hnc, hcm, hl, hH⟩ := Lib.holds_of_ownsRow h (by simp)
  cases hv
  have hD := AnyE.slices_Delete Try.laysDel (Value.int .i64) (fun _ => rfl) (0 : Int) Try.zeroValue3 i0 hi0 hz1 g 0 cap i (i + 1) zs.toArray w hH (by simp; omega) (by unfold maxLen at hcm; omega) (by omega) (by simp; omega)
  have hs : zs.toArray.size = n := by simp [hl]
  rw [hs] at hD
  refine Calls.mono hD ?_
  rintro e w' ⟨rfl, q, rfl⟩
  have e1 : n - (i + 1 - i) = n - 1 := by omega
  rw [e1]
  have e2 : zs.take i ++ zs.drop (i + 1) = zs.eraseIdx i := (List.eraseIdx_eq_take_drop_succ zs i).symm
  have hle : (zs.eraseIdx i).length = n - 1 := by rw [List.length_eraseIdx_of_lt (by omega)]; omega
  refine ⟨rfl, ?_, ?_⟩
  · have := Lib.ownsRow_putRow (q := q) (k := n - 1) (ys := zs.take i ++ zs.drop (i + 1) ++ List.replicate (i + 1 - i) 0) h (by rw [e2]; simp [hle]; omega) (by omega)
    rw [e2] at this
    rw [List.take_append_of_le_length (by omega), List.take_of_length_le (by omega)] at this
    rw [show (zs.toArray.toList.take i ++ zs.toArray.toList.drop (i + 1) ++ List.replicate (i + 1 - i) 0) = zs.eraseIdx i ++ List.replicate (i + 1 - i) 0 by rw [List.toList_toArray, e2]]
    exact this
  · have := grownBy_sortedI (w := w) (g := g) (n := q) (os := #[]) (zs.toArray.toList.take i ++ zs.toArray.toList.drop (i + 1) ++ List.replicate (i + 1 - i) 0).toArray
    rwa [«Sort».grow_empty] at this

theorem sort_nil (w : World) : Calls Try.prog 73 #[.slice none 0 0] w fun e w' => e = .returned (.tuple #[]) ∧ w' = w := AnyM.slices_Sort_int_none Try.laysSort none 0 w
theorem sort_own {base g n cap : Nat} {zs : List Int} {w : World} (h : w.ownsRow base 3 1 (.slice (some ⟨g, 0, none⟩) n cap) n (zs.map (Value.int .i64))) (hn : n ≤ 1000) :
    Calls Try.prog 73 #[.slice (some ⟨g, 0, none⟩) n cap] w fun e w' => e = .returned (.tuple #[]) ∧ w'.ownsRow base 3 1 (.slice (some ⟨g, 0, none⟩) n cap) n ((zs.mergeSort fun x y => decide (x ≤ y)).map (Value.int .i64)) ∧ w.grownBy w' (some g) := by
  obtain ⟨g', cap', hv, hb, hlt, hnc, hcm, hl, hH⟩ := Lib.holds_of_ownsRow h (by simp)
  cases hv
  have hS := AnyM.slices_Sort_int Try.laysSort g 0 cap zs w hH hlt (by omega)
  rw [hl] at hS
  refine Calls.mono hS ?_
  rintro e w' ⟨rfl, q, os, rfl⟩
  refine ⟨rfl, ?_, grownBy_sortedI _⟩
  rcases h.2 with ⟨e0, _⟩ | ⟨g', cap', cur, e0, hb', hg, hn', hm, hs, ht⟩
  · cases e0
  · cases e0
    have := ownsRow_sortedI (w := w) (base := base) (g := g) (cap := cap) (n := q) (os := os) (ss := zs) (ts := zs.mergeSort fun x y => decide (x ≤ y)) (List.length_mergeSort _) hb hg (by omega) hcm (by simpa using hs)
    rw [hl] at this
    exact this
end Go.Proofs.Ytkfobnhnehbkeaa
