/- sheet: a new work's cells. -/
import Derived.Test.YtdfebccmjbocjaaGreatDoorZr
import Derived.Laws.Tables
set_option linter.unusedVariables false
set_option linter.unusedSimpArgs false
namespace Go.Proofs.YtdfebccmjbocjaaGreatDoor
open Go.RowKit Go.Shelf
def isF : Value → Bool
  | .bool false => true
  | _ => false
def isZ : Value → Bool
  | .int .i64 0 => true
  | _ => false
def isN : Value → Bool
  | .slice none 0 0 => true
  | _ => false
def cellsOk (l : List Value) : Bool := l.length == 2056 && (((l.drop 7).take 1).all isN && (((l.drop 8).take 1024).all isF && (l.drop 1032).all isZ))
theorem info107 : ((Tryz.prog.info? 107).map fun i => (i.zero.map fun z => cellsOk z.cells.toList)) = some (some true) := by kernel_rfl
theorem under107 : ∃ fs : Array Field, Tryz.prog.underlying 107 = some (.struct fs) ∧ (fs.toList.mapM fun f => (Tryz.prog.info? f.type).map fun i => (f.offset, i.size)) = some [(0, 7), (7, 1), (8, 1024), (1032, 1024)] := ⟨_, Tryz.underlying107, by kernel_rfl⟩
theorem all_get {p : Value → Bool} {l : List Value} (h : l.all p = true) {i : Nat} (hi : i < l.length) : ∃ v, l[i]? = some v ∧ p v = true :=
  ⟨l[i], List.getElem?_eq_getElem hi, List.all_eq_true.1 h _ (List.getElem_mem hi)⟩
/-- a new work's cells -/
theorem built107 (a b c d e f g : Value) : ∃ cs, Tryz.prog.built 107 [(0, .agg #[a, b, c, d, e, f, g])] = some cs ∧ cs.size = 2056 ∧ (cs[0]? = some a ∧ cs[1]? = some b ∧ cs[2]? = some c ∧ cs[3]? = some d ∧ cs[4]? = some e ∧ cs[5]? = some f ∧ cs[6]? = some g) ∧
    cs[7]? = some (.slice none 0 0) ∧ (∀ j, j < 1024 → cs[8 + j]? = some (.bool false)) ∧ ∀ j, j < 1024 → cs[1032 + j]? = some (.int .i64 0) := by
  have h := info107
  cases hi : Tryz.prog.info? 107 with
  | none => rw [hi] at h; cases h
  | some it =>
    rw [hi] at h
    simp only [Option.map_some, Option.some.injEq] at h
    cases hz : it.zero with
    | none => rw [hz] at h; cases h
    | some z =>
      rw [hz] at h
      simp only [Option.map_some, Option.some.injEq] at h
      obtain ⟨fs, hu, hp⟩ := under107
      simp only [cellsOk, Bool.and_eq_true, beq_iff_eq] at h
      obtain ⟨h0, h1, h2, h3⟩ := h
      have hsz : z.cells.size = 2056 := by rw [← Array.length_toList]; exact h0
      refine ⟨((((((((z.cells.setIfInBounds 0 a).setIfInBounds 1 b).setIfInBounds 2 c).setIfInBounds 3 d).setIfInBounds 4 e).setIfInBounds 5 f).setIfInBounds 6 g)), ?_, by simp [hsz], ?_, ?_, fun j hj => ?_, fun j hj => ?_⟩
      · unfold Program.built
        rw [hi, hu]
        simp only [hz, hp]
        have e1 : (Value.agg #[a, b, c, d, e, f, g]).cells = #[a, b, c, d, e, f, g] := rfl
        simp [Instr.fill, e1, hsz]
      · simp [Array.getElem?_setIfInBounds, hsz]
      · obtain ⟨v, hv, hp⟩ := all_get h1 (i := 0) (by rw [List.length_take, List.length_drop, h0]; omega)
        rw [List.getElem?_take_of_lt (by omega), List.getElem?_drop, Array.getElem?_toList] at hv
        have : v = .slice none 0 0 := by
          unfold isN at hp
          split at hp
          · rfl
          · cases hp
        subst this
        simp only [Array.getElem?_setIfInBounds]
        simpa using hv
      · obtain ⟨v, hv, hp⟩ := all_get h2 (i := j) (by rw [List.length_take, List.length_drop, h0]; omega)
        rw [List.getElem?_take_of_lt (by omega), List.getElem?_drop, Array.getElem?_toList] at hv
        have : v = .bool false := by
          unfold isF at hp
          split at hp
          · rfl
          · cases hp
        subst this
        simp only [Array.getElem?_setIfInBounds]
        rw [if_neg (by omega), if_neg (by omega), if_neg (by omega), if_neg (by omega), if_neg (by omega), if_neg (by omega), if_neg (by omega)]
        exact hv
      · obtain ⟨v, hv, hp⟩ := all_get h3 (i := j) (by rw [List.length_drop, h0]; omega)
        rw [List.getElem?_drop, Array.getElem?_toList] at hv
        have : v = .int .i64 0 := by
          unfold isZ at hp
          split at hp
          · rfl
          · cases hp
        subst this
        simp only [Array.getElem?_setIfInBounds]
        rw [if_neg (by omega), if_neg (by omega), if_neg (by omega), if_neg (by omega), if_neg (by omega), if_neg (by omega), if_neg (by omega)]
        exact hv
end Go.Proofs.YtdfebccmjbocjaaGreatDoor
