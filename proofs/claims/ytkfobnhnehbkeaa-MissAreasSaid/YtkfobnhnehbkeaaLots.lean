/- Lots: the sorted draw; the reference's way to the person that a lot names. No program in sight. -/
import Derived.Test.YtkfobnhnehbkeaaMath
namespace Mis
theorem sorted_drawn (n : Nat) (lots : List Nat) (h : lots.length ≤ n) :
    ((dl n lots lots.length).2.map (fun (x : Nat) => (x : Int))).mergeSort (fun x y => decide (x ≤ y)) = (drawn n lots).map (fun (x : Nat) => (x : Int)) := by
  refine ((List.mergeSort_perm _ _).trans ((drawn_perm n lots h).map _)).eq_of_pairwise (le := (· ≤ ·)) (fun a b _ _ h1 h2 => by omega) ?_ ?_
  · exact (List.pairwise_mergeSort (le := fun x y : Int => decide (x ≤ y)) (by intro a b c; simp; omega) (by intro a b; simp; omega) _).imp (by intro a b h; simpa using h)
  · rw [List.pairwise_map]
    exact (drawn_sorted n lots).imp (by intro a b h; omega)
theorem drawn_len (n : Nat) (lots : List Nat) (h : lots.length ≤ n) : (drawn n lots).length = lots.length := by
  rw [← (drawn_perm n lots h).length_eq]; exact (dl_len n lots _ h).2
theorem drawn_lt {n : Nat} {lots : List Nat} {x : Nat} (h : x ∈ drawn n lots) : x < n := by
  unfold drawn at h; rw [List.mem_filter] at h; exact List.mem_range.1 h.1
/-- how many of the first k are not in l -/
def cnt (l : List Nat) (k : Nat) : Nat := ((List.range k).filter fun x => !decide (x ∈ l)).length
theorem cnt_zero (l : List Nat) : cnt l 0 = 0 := rfl
theorem cnt_in {l : List Nat} {k : Nat} (h : k ∈ l) : cnt l (k+1) = cnt l k := by
  unfold cnt; rw [List.range_succ, List.filter_append]; simp [h]
theorem cnt_out {l : List Nat} {k : Nat} (h : k ∉ l) : cnt l (k+1) = cnt l k + 1 := by
  unfold cnt; rw [List.range_succ, List.filter_append]; simp [h]
theorem cnt_all (n : Nat) (lots : List Nat) (j : Nat) (hj : j ≤ n) : cnt (dl n lots j).2 n = n - j := by
  rw [← (dl_len n lots j hj).1]; unfold cnt; rw [← dl_left n lots j hj]
theorem range_split {k n : Nat} (h : k < n) : ∃ r, List.range n = List.range k ++ k :: r := by
  obtain ⟨d, rfl⟩ : ∃ d, n = k + (d + 1) := ⟨n - k - 1, by omega⟩
  rw [List.range_add]
  refine ⟨(List.range d).map (fun i => k + (i + 1)), ?_⟩
  rw [List.range_succ_eq_map]; simp [Function.comp_def]
theorem left_at (n : Nat) (lots : List Nat) (j k : Nat) (hj : j ≤ n) (hk : k < n) (hkl : k ∉ (dl n lots j).2) : (dl n lots j).1[cnt (dl n lots j).2 k]? = some k := by
  have e := dl_left n lots j hj
  obtain ⟨r, hr⟩ := range_split hk
  rw [hr, List.filter_append, List.filter_cons_of_pos (by simp [hkl])] at e
  rw [e]
  unfold cnt
  rw [List.getElem?_append_right (Nat.le_refl _)]
  simp
end Mis
