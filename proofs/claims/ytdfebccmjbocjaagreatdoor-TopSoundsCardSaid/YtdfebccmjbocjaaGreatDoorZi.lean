/- sheet: slices.Delete, slices.Clone at their own types; join. -/
import Derived.Test.YtdfebccmjbocjaaGreatDoorZs
import Derived.Test.YtdfebccmjbocjaaGreatDoorZh
set_option linter.unusedVariables false
set_option linter.unusedSimpArgs false
namespace Go.Proofs.YtdfebccmjbocjaaGreatDoor
open Go.RowKit Go.Shelf Go.Sort

theorem grownBy_putRow {α : Type} [Inhabited α] {enc : α → Value} {w : World} {g n : Nat} (d : Array α) : w.grownBy (putRow enc (Sort.ahead w n) g 0 d) (some g) := by
  refine ⟨rfl, rfl, rfl, by simp, fun k hk hne => ?_⟩
  have : g ≠ k := fun e => hne (by rw [e])
  simp [putRow, mapBlock, Sort.ahead, Array.getElem?_modify, this]
theorem Tryz.info109 : (Tryz.prog.info? 109).map (fun i => (i.zero, i.size, i.bytes)) = some (some (.int .u64 0), 1, 8) := by kernel_rfl
theorem delete_set {base g n cap i : Nat} {l : List Nat} {w : World} (h : w.ownsRow base 109 1 (.slice (some ⟨g, 0, none⟩) n cap) n (setsV l)) (hi : i < n) :
    Calls Tryz.prog 142 #[.slice (some ⟨g, 0, none⟩) n cap, .int .i64 i, .int .i64 ((i : Int) + 1)] w fun e w' =>
      e = .returned (.slice (some ⟨g, 0, none⟩) (n - 1) cap) ∧ w'.ownsRow base 109 1 (.slice (some ⟨g, 0, none⟩) (n - 1) cap) (n - 1) (setsV (l.eraseIdx i)) ∧ w.grownBy w' (some g) := by
  obtain ⟨i0, hi0, hz0, hz1, hz2⟩ := info_parts Tryz.info109
  obtain ⟨g', cap', hv, hb, hlt, hnc, hcm, hl, hH⟩ := Lib.holds_of_ownsRow (enc := fun (k : Nat) => Value.int .u64 (k : Int)) (zs := l) h (by simp)
  cases hv
  have hD := AnyE.slices_Delete Tryz.laysSlE45_f142 (fun (k : Nat) => Value.int .u64 (k : Int)) (fun _ => rfl) (0 : Nat) Tryz.zeroValue109 i0 hi0 hz1 g 0 cap i (i + 1) l.toArray w hH (by simp; omega) (by unfold maxLen at hcm; omega) (by omega) (by simp; omega)
  have hs : l.toArray.size = n := by simp [hl]
  rw [hs] at hD
  refine Calls.mono hD ?_
  rintro e w' ⟨rfl, q, rfl⟩
  have e1 : n - (i + 1 - i) = n - 1 := by omega
  rw [e1]
  have e2 : l.take i ++ l.drop (i + 1) = l.eraseIdx i := (List.eraseIdx_eq_take_drop_succ l i).symm
  have hle : (l.eraseIdx i).length = n - 1 := by rw [List.length_eraseIdx_of_lt (by omega)]; omega
  refine ⟨rfl, ?_, grownBy_putRow _⟩
  have := Lib.ownsRow_putRow (q := q) (k := n - 1) (ys := l.take i ++ l.drop (i + 1) ++ List.replicate (i + 1 - i) 0) h (by rw [e2]; simp [hle]; omega) (by omega)
  rw [e2] at this
  rw [List.take_append_of_le_length (by omega), List.take_of_length_le (by omega)] at this
  rw [show (l.toArray.toList.take i ++ l.toArray.toList.drop (i + 1) ++ List.replicate (i + 1 - i) 0) = l.eraseIdx i ++ List.replicate (i + 1 - i) 0 by rw [List.toList_toArray, e2]]
  exact this
theorem setsV_set (l : List Nat) (i x : Nat) : setsV (l.set i x) = (setsV l).set i (.int .u64 (x : Int)) := by simp [setsV, List.map_set]
end Go.Proofs.YtdfebccmjbocjaaGreatDoor
