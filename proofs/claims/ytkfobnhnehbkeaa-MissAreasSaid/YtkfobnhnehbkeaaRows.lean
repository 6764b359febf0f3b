/-
  No cell of these rows narrows 'for every input' (looked for: loops, veiled, ifaces, maps, wideKeys, modest, calm, conditions, laid).
  DERIVED. THE GIVEN ROWS OF THIS SEAT. 16 by the template 'for every input the law returns true; each argument reads behind the call as it read before'; 0 by the template 'total and deterministic' (their statements: YtkfobnhnehbkeaaTotals.lean).
  GIVEN WITH THE SEED: the statements are not yours to turn. If you find one false, say at which input.
  Laid BY PROGRAM, IN A SANDBOX (cutbox-rows.mjs): the forced cells as the released guide's own fill.sh prints them over the translation b23491a76be6e772… (all of the seat's roots in one cut). By AI agents, Wed Nov 11 2026. No macro, syntax, notation, axiom, sorry.
-/
import Derived.Test.YtkfobnhnehbkeaaChecked
import GoSem.Claim
import GoSem.ClaimJoined
import GoSem.ClaimMapViews
import Derived.JoinedTies
import Derived.KernelRfl
namespace Go.Proofs.Ytkfobnhnehbkeaa
/- THE CELL 'sum', in the pinned program and in every row, IS THE sha256 OF THE DUMP (.gsa) THAT YtkfobnhnehbkeaaProg.lean LOADS. Nothing in Lean hashes anything: it is a label: what it is worth is what the hold of that sum in a sandbox is worth. -/
noncomputable def Try.pinned : Pinned := { name := "ytkfobnhnehbkeaa", sum := "b23491a76be6e7728d06c3ef0d0b4954c0695a5e82c50dab98105b0b6e56dcdd", checked := Try.checked }
namespace Rows
def none {H : Type} : Left H := { results := [], args := [] }

/-- 'tithinglaw06.MissChances': WHATEVER THE INPUT: true; the input reads as it did. -/
def missChancesSpec : ChangeSpec := { name := "missChances", fn := fun _ => fun
  | [d1, d2] => { results := [.lit (.bool true)], args := [d1, d2] }
  | _ => none }
def missChancesRow : OpenClaim := { program := "ytkfobnhnehbkeaa", sum := "b23491a76be6e7728d06c3ef0d0b4954c0695a5e82c50dab98105b0b6e56dcdd", func := "tithing/tithinglaw06.MissChances", spec := "missChances", unfollowed := true, recurses := true, plainKeys := false, apart := false }
def MissChancesSaid : Prop := missChancesRow.holds Try.pinned (OpenSpec.ofChange missChancesSpec)

/-- ITS FALSE NEIGHBOUR: 'it returns false'. Refute it at one input. -/
def missChancesWrong : ChangeSpec := { name := "missChances", fn := fun _ => fun
  | [d1, d2] => { results := [.lit (.bool false)], args := [d1, d2] }
  | _ => none }
def MissChancesWrongFalsely : Prop := missChancesRow.holds Try.pinned (OpenSpec.ofChange missChancesWrong)

/-- 'tithinglaw06.MissLikely': WHATEVER THE INPUT: true; the input reads as it did. -/
def missLikelySpec : ChangeSpec := { name := "missLikely", fn := fun _ => fun
  | [d] => { results := [.lit (.bool true)], args := [d] }
  | _ => none }
def missLikelyRow : OpenClaim := { program := "ytkfobnhnehbkeaa", sum := "b23491a76be6e7728d06c3ef0d0b4954c0695a5e82c50dab98105b0b6e56dcdd", func := "tithing/tithinglaw06.MissLikely", spec := "missLikely", unfollowed := true, recurses := true, plainKeys := false, apart := false }
def MissLikelySaid : Prop := missLikelyRow.holds Try.pinned (OpenSpec.ofChange missLikelySpec)

/-- ITS FALSE NEIGHBOUR: 'it returns false'. Refute it at one input. -/
def missLikelyWrong : ChangeSpec := { name := "missLikely", fn := fun _ => fun
  | [d] => { results := [.lit (.bool false)], args := [d] }
  | _ => none }
def MissLikelyWrongFalsely : Prop := missLikelyRow.holds Try.pinned (OpenSpec.ofChange missLikelyWrong)

/-- 'tithinglaw06.MissTotals': WHATEVER THE INPUT: true; the input reads as it did. -/
def missTotalsSpec : ChangeSpec := { name := "missTotals", fn := fun _ => fun
  | [d1, d2] => { results := [.lit (.bool true)], args := [d1, d2] }
  | _ => none }
def missTotalsRow : OpenClaim := { program := "ytkfobnhnehbkeaa", sum := "b23491a76be6e7728d06c3ef0d0b4954c0695a5e82c50dab98105b0b6e56dcdd", func := "tithing/tithinglaw06.MissTotals", spec := "missTotals", unfollowed := true, recurses := true, plainKeys := false, apart := false }
def MissTotalsSaid : Prop := missTotalsRow.holds Try.pinned (OpenSpec.ofChange missTotalsSpec)

/-- ITS FALSE NEIGHBOUR: 'it returns false'. Refute it at one input. -/
def missTotalsWrong : ChangeSpec := { name := "missTotals", fn := fun _ => fun
  | [d1, d2] => { results := [.lit (.bool false)], args := [d1, d2] }
  | _ => none }
def MissTotalsWrongFalsely : Prop := missTotalsRow.holds Try.pinned (OpenSpec.ofChange missTotalsWrong)

/-- 'tithinglaw06.MissEnough': WHATEVER THE INPUT: true; the input reads as it did. -/
def missEnoughSpec : ChangeSpec := { name := "missEnough", fn := fun _ => fun
  | [d1, d2, d3, d4] => { results := [.lit (.bool true)], args := [d1, d2, d3, d4] }
  | _ => none }
def missEnoughRow : OpenClaim := { program := "ytkfobnhnehbkeaa", sum := "b23491a76be6e7728d06c3ef0d0b4954c0695a5e82c50dab98105b0b6e56dcdd", func := "tithing/tithinglaw06.MissEnough", spec := "missEnough", unfollowed := true, recurses := true, plainKeys := false, apart := false }
def MissEnoughSaid : Prop := missEnoughRow.holds Try.pinned (OpenSpec.ofChange missEnoughSpec)

/-- ITS FALSE NEIGHBOUR: 'it returns false'. Refute it at one input. -/
def missEnoughWrong : ChangeSpec := { name := "missEnough", fn := fun _ => fun
  | [d1, d2, d3, d4] => { results := [.lit (.bool false)], args := [d1, d2, d3, d4] }
  | _ => none }
def MissEnoughWrongFalsely : Prop := missEnoughRow.holds Try.pinned (OpenSpec.ofChange missEnoughWrong)

/-- 'tithinglaw06.MissDraws': WHATEVER THE INPUT: true; the input reads as it did. -/
def missDrawsSpec : ChangeSpec := { name := "missDraws", fn := fun _ => fun
  | [d1, d2] => { results := [.lit (.bool true)], args := [d1, d2] }
  | _ => none }
def missDrawsRow : OpenClaim := { program := "ytkfobnhnehbkeaa", sum := "b23491a76be6e7728d06c3ef0d0b4954c0695a5e82c50dab98105b0b6e56dcdd", func := "tithing/tithinglaw06.MissDraws", spec := "missDraws", unfollowed := true, recurses := true, plainKeys := false, apart := false }
def MissDrawsSaid : Prop := missDrawsRow.holds Try.pinned (OpenSpec.ofChange missDrawsSpec)

/-- ITS FALSE NEIGHBOUR: 'it returns false'. Refute it at one input. -/
def missDrawsWrong : ChangeSpec := { name := "missDraws", fn := fun _ => fun
  | [d1, d2] => { results := [.lit (.bool false)], args := [d1, d2] }
  | _ => none }
def MissDrawsWrongFalsely : Prop := missDrawsRow.holds Try.pinned (OpenSpec.ofChange missDrawsWrong)

/-- 'tithinglaw06.MissAll': WHATEVER THE INPUT: true; the input reads as it did. -/
def missAllSpec : ChangeSpec := { name := "missAll", fn := fun _ => fun
  | [d1, d2] => { results := [.lit (.bool true)], args := [d1, d2] }
  | _ => none }
def missAllRow : OpenClaim := { program := "ytkfobnhnehbkeaa", sum := "b23491a76be6e7728d06c3ef0d0b4954c0695a5e82c50dab98105b0b6e56dcdd", func := "tithing/tithinglaw06.MissAll", spec := "missAll", unfollowed := true, recurses := true, plainKeys := false, apart := false }
def MissAllSaid : Prop := missAllRow.holds Try.pinned (OpenSpec.ofChange missAllSpec)

/-- ITS FALSE NEIGHBOUR: 'it returns false'. Refute it at one input. -/
def missAllWrong : ChangeSpec := { name := "missAll", fn := fun _ => fun
  | [d1, d2] => { results := [.lit (.bool false)], args := [d1, d2] }
  | _ => none }
def MissAllWrongFalsely : Prop := missAllRow.holds Try.pinned (OpenSpec.ofChange missAllWrong)

/-- 'tithinglaw06.MissConfident': WHATEVER THE INPUT: true; the input reads as it did. -/
def missConfidentSpec : ChangeSpec := { name := "missConfident", fn := fun _ => fun
  | [d1, d2, d3] => { results := [.lit (.bool true)], args := [d1, d2, d3] }
  | _ => none }
def missConfidentRow : OpenClaim := { program := "ytkfobnhnehbkeaa", sum := "b23491a76be6e7728d06c3ef0d0b4954c0695a5e82c50dab98105b0b6e56dcdd", func := "tithing/tithinglaw06.MissConfident", spec := "missConfident", unfollowed := true, recurses := true, plainKeys := false, apart := false }
def MissConfidentSaid : Prop := missConfidentRow.holds Try.pinned (OpenSpec.ofChange missConfidentSpec)

/-- ITS FALSE NEIGHBOUR: 'it returns false'. Refute it at one input. -/
def missConfidentWrong : ChangeSpec := { name := "missConfident", fn := fun _ => fun
  | [d1, d2, d3] => { results := [.lit (.bool false)], args := [d1, d2, d3] }
  | _ => none }
def MissConfidentWrongFalsely : Prop := missConfidentRow.holds Try.pinned (OpenSpec.ofChange missConfidentWrong)

/-- 'tithinglaw06.MissRises': WHATEVER THE INPUT: true; the input reads as it did. -/
def missRisesSpec : ChangeSpec := { name := "missRises", fn := fun _ => fun
  | [d1, d2, d3] => { results := [.lit (.bool true)], args := [d1, d2, d3] }
  | _ => none }
def missRisesRow : OpenClaim := { program := "ytkfobnhnehbkeaa", sum := "b23491a76be6e7728d06c3ef0d0b4954c0695a5e82c50dab98105b0b6e56dcdd", func := "tithing/tithinglaw06.MissRises", spec := "missRises", unfollowed := true, recurses := true, plainKeys := false, apart := false }
def MissRisesSaid : Prop := missRisesRow.holds Try.pinned (OpenSpec.ofChange missRisesSpec)

/-- ITS FALSE NEIGHBOUR: 'it returns false'. Refute it at one input. -/
def missRisesWrong : ChangeSpec := { name := "missRises", fn := fun _ => fun
  | [d1, d2, d3] => { results := [.lit (.bool false)], args := [d1, d2, d3] }
  | _ => none }
def MissRisesWrongFalsely : Prop := missRisesRow.holds Try.pinned (OpenSpec.ofChange missRisesWrong)

/-- 'tithinglaw06.MissLevels': WHATEVER THE INPUT: true; the input reads as it did. -/
def missLevelsSpec : ChangeSpec := { name := "missLevels", fn := fun _ => fun
  | [d1, d2, d3] => { results := [.lit (.bool true)], args := [d1, d2, d3] }
  | _ => none }
def missLevelsRow : OpenClaim := { program := "ytkfobnhnehbkeaa", sum := "b23491a76be6e7728d06c3ef0d0b4954c0695a5e82c50dab98105b0b6e56dcdd", func := "tithing/tithinglaw06.MissLevels", spec := "missLevels", unfollowed := true, recurses := true, plainKeys := false, apart := false }
def MissLevelsSaid : Prop := missLevelsRow.holds Try.pinned (OpenSpec.ofChange missLevelsSpec)

/-- ITS FALSE NEIGHBOUR: 'it returns false'. Refute it at one input. -/
def missLevelsWrong : ChangeSpec := { name := "missLevels", fn := fun _ => fun
  | [d1, d2, d3] => { results := [.lit (.bool false)], args := [d1, d2, d3] }
  | _ => none }
def MissLevelsWrongFalsely : Prop := missLevelsRow.holds Try.pinned (OpenSpec.ofChange missLevelsWrong)

/-- 'tithinglaw06.MissSmallest': WHATEVER THE INPUT: true; the input reads as it did. -/
def missSmallestSpec : ChangeSpec := { name := "missSmallest", fn := fun _ => fun
  | [d1, d2, d3, d4, d5, d6] => { results := [.lit (.bool true)], args := [d1, d2, d3, d4, d5, d6] }
  | _ => none }
def missSmallestRow : OpenClaim := { program := "ytkfobnhnehbkeaa", sum := "b23491a76be6e7728d06c3ef0d0b4954c0695a5e82c50dab98105b0b6e56dcdd", func := "tithing/tithinglaw06.MissSmallest", spec := "missSmallest", unfollowed := true, recurses := true, plainKeys := false, apart := false }
def MissSmallestSaid : Prop := missSmallestRow.holds Try.pinned (OpenSpec.ofChange missSmallestSpec)

/-- ITS FALSE NEIGHBOUR: 'it returns false'. Refute it at one input. -/
def missSmallestWrong : ChangeSpec := { name := "missSmallest", fn := fun _ => fun
  | [d1, d2, d3, d4, d5, d6] => { results := [.lit (.bool false)], args := [d1, d2, d3, d4, d5, d6] }
  | _ => none }
def MissSmallestWrongFalsely : Prop := missSmallestRow.holds Try.pinned (OpenSpec.ofChange missSmallestWrong)

/-- 'tithinglaw06.MissFair': WHATEVER THE INPUT: true; the input reads as it did. -/
def missFairSpec : ChangeSpec := { name := "missFair", fn := fun _ => fun
  | [d1, d2] => { results := [.lit (.bool true)], args := [d1, d2] }
  | _ => none }
def missFairRow : OpenClaim := { program := "ytkfobnhnehbkeaa", sum := "b23491a76be6e7728d06c3ef0d0b4954c0695a5e82c50dab98105b0b6e56dcdd", func := "tithing/tithinglaw06.MissFair", spec := "missFair", unfollowed := true, recurses := true, plainKeys := false, apart := false }
def MissFairSaid : Prop := missFairRow.holds Try.pinned (OpenSpec.ofChange missFairSpec)

/-- ITS FALSE NEIGHBOUR: 'it returns false'. Refute it at one input. -/
def missFairWrong : ChangeSpec := { name := "missFair", fn := fun _ => fun
  | [d1, d2] => { results := [.lit (.bool false)], args := [d1, d2] }
  | _ => none }
def MissFairWrongFalsely : Prop := missFairRow.holds Try.pinned (OpenSpec.ofChange missFairWrong)

/-- 'tithinglaw06.MissNobody': WHATEVER THE INPUT: true; the input reads as it did. -/
def missNobodySpec : ChangeSpec := { name := "missNobody", fn := fun _ => fun
  | [d1, d2] => { results := [.lit (.bool true)], args := [d1, d2] }
  | _ => none }
def missNobodyRow : OpenClaim := { program := "ytkfobnhnehbkeaa", sum := "b23491a76be6e7728d06c3ef0d0b4954c0695a5e82c50dab98105b0b6e56dcdd", func := "tithing/tithinglaw06.MissNobody", spec := "missNobody", unfollowed := true, recurses := true, plainKeys := false, apart := false }
def MissNobodySaid : Prop := missNobodyRow.holds Try.pinned (OpenSpec.ofChange missNobodySpec)

/-- ITS FALSE NEIGHBOUR: 'it returns false'. Refute it at one input. -/
def missNobodyWrong : ChangeSpec := { name := "missNobody", fn := fun _ => fun
  | [d1, d2] => { results := [.lit (.bool false)], args := [d1, d2] }
  | _ => none }
def MissNobodyWrongFalsely : Prop := missNobodyRow.holds Try.pinned (OpenSpec.ofChange missNobodyWrong)

/-- 'tithinglaw06.MissAreas': WHATEVER THE INPUT: true; the input reads as it did. -/
def missAreasSpec : ChangeSpec := { name := "missAreas", fn := fun _ => fun
  | [d1, d2, d3, d4] => { results := [.lit (.bool true)], args := [d1, d2, d3, d4] }
  | _ => none }
def missAreasRow : OpenClaim := { program := "ytkfobnhnehbkeaa", sum := "b23491a76be6e7728d06c3ef0d0b4954c0695a5e82c50dab98105b0b6e56dcdd", func := "tithing/tithinglaw06.MissAreas", spec := "missAreas", unfollowed := true, recurses := true, plainKeys := false, apart := false }
def MissAreasSaid : Prop := missAreasRow.holds Try.pinned (OpenSpec.ofChange missAreasSpec)

/-- ITS FALSE NEIGHBOUR: 'it returns false'. Refute it at one input. -/
def missAreasWrong : ChangeSpec := { name := "missAreas", fn := fun _ => fun
  | [d1, d2, d3, d4] => { results := [.lit (.bool false)], args := [d1, d2, d3, d4] }
  | _ => none }
def MissAreasWrongFalsely : Prop := missAreasRow.holds Try.pinned (OpenSpec.ofChange missAreasWrong)

/-- 'tithinglaw06.MissPascal': WHATEVER THE INPUT: true; the input reads as it did. -/
def missPascalSpec : ChangeSpec := { name := "missPascal", fn := fun _ => fun
  | [d1, d2] => { results := [.lit (.bool true)], args := [d1, d2] }
  | _ => none }
def missPascalRow : OpenClaim := { program := "ytkfobnhnehbkeaa", sum := "b23491a76be6e7728d06c3ef0d0b4954c0695a5e82c50dab98105b0b6e56dcdd", func := "tithing/tithinglaw06.MissPascal", spec := "missPascal", unfollowed := true, recurses := true, plainKeys := false, apart := false }
def MissPascalSaid : Prop := missPascalRow.holds Try.pinned (OpenSpec.ofChange missPascalSpec)

/-- ITS FALSE NEIGHBOUR: 'it returns false'. Refute it at one input. -/
def missPascalWrong : ChangeSpec := { name := "missPascal", fn := fun _ => fun
  | [d1, d2] => { results := [.lit (.bool false)], args := [d1, d2] }
  | _ => none }
def MissPascalWrongFalsely : Prop := missPascalRow.holds Try.pinned (OpenSpec.ofChange missPascalWrong)

/-- 'tithinglaw06.MissWays': WHATEVER THE INPUT: true; the input reads as it did. -/
def missWaysSpec : ChangeSpec := { name := "missWays", fn := fun _ => fun
  | [d1, d2, d3] => { results := [.lit (.bool true)], args := [d1, d2, d3] }
  | _ => none }
def missWaysRow : OpenClaim := { program := "ytkfobnhnehbkeaa", sum := "b23491a76be6e7728d06c3ef0d0b4954c0695a5e82c50dab98105b0b6e56dcdd", func := "tithing/tithinglaw06.MissWays", spec := "missWays", unfollowed := true, recurses := true, plainKeys := false, apart := false }
def MissWaysSaid : Prop := missWaysRow.holds Try.pinned (OpenSpec.ofChange missWaysSpec)

/-- ITS FALSE NEIGHBOUR: 'it returns false'. Refute it at one input. -/
def missWaysWrong : ChangeSpec := { name := "missWays", fn := fun _ => fun
  | [d1, d2, d3] => { results := [.lit (.bool false)], args := [d1, d2, d3] }
  | _ => none }
def MissWaysWrongFalsely : Prop := missWaysRow.holds Try.pinned (OpenSpec.ofChange missWaysWrong)

/-- 'tithinglaw06.MissNames': WHATEVER THE INPUT: true; the input reads as it did. -/
def missNamesSpec : ChangeSpec := { name := "missNames", fn := fun _ => fun
  | [] => { results := [.lit (.bool true)], args := [] }
  | _ => none }
def missNamesRow : OpenClaim := { program := "ytkfobnhnehbkeaa", sum := "b23491a76be6e7728d06c3ef0d0b4954c0695a5e82c50dab98105b0b6e56dcdd", func := "tithing/tithinglaw06.MissNames", spec := "missNames", unfollowed := true, recurses := true, plainKeys := false, apart := false }
def MissNamesSaid : Prop := missNamesRow.holds Try.pinned (OpenSpec.ofChange missNamesSpec)

/-- ITS FALSE NEIGHBOUR: 'it returns false'. Refute it at one input. -/
def missNamesWrong : ChangeSpec := { name := "missNames", fn := fun _ => fun
  | [] => { results := [.lit (.bool false)], args := [] }
  | _ => none }
def MissNamesWrongFalsely : Prop := missNamesRow.holds Try.pinned (OpenSpec.ofChange missNamesWrong)

/- THE SECOND FORM. 'bulk': how many values and letters a reading holds, each counted each time it is reached (what is shared counts as often as it is met; a slice's spare places count too). A statement '..UptoSaid' is the law's where the arguments, and the package variables that the reading takes, are together of bulk at most 1048576: NARROWER than '..Said'. Prove '..Said' where nothing that the law and all that it calls make is longer than what came in: it says more and counts as full. Else prove '..UptoSaid'. A law counts once. -/
mutual
def uptoBulk {H : Type} : DataW H → Nat
  | .lit (.string bytes) => bytes.length + 1
  | .lit _ => 1
  | .nil => 1
  | .ptr d => uptoBulk d + 1
  | .slice elems spare => uptoBulkAll elems + uptoBulkAll spare + 1
  | .agg parts => uptoBulkAll parts + 1
  | .iface _ d => uptoBulk d + 1
  | .map entries => uptoBulkEntries entries + 1
  | .held _ => 1
def uptoBulkAll {H : Type} : List (DataW H) → Nat
  | [] => 0
  | d :: r => uptoBulk d + uptoBulkAll r
def uptoBulkEntries {H : Type} : List (Lit × DataW H) → Nat
  | [] => 0
  | x :: r => uptoBulkEntry x + uptoBulkEntries r
def uptoBulkEntry {H : Type} : Lit × DataW H → Nat
  | (.string bytes, d) => bytes.length + uptoBulk d + 1
  | (_, d) => uptoBulk d + 1
 end
def uptoSmall : (H : Type) → List (DataW H) → Bool := fun _ ds => decide (uptoBulkAll ds ≤ 1048576)
def OpenSpec.upto (s : _root_.Go.ChangeSpec) : _root_.Go.OpenSpec := { _root_.Go.OpenSpec.ofChange s with cond := some uptoSmall }

/-- 'tithinglaw06.MissChances', WHERE WHAT IT READS IS OF BULK AT MOST 1048576: true; the input reads as it did. -/
def missChancesUptoRow : OpenClaim := { program := "ytkfobnhnehbkeaa", sum := "b23491a76be6e7728d06c3ef0d0b4954c0695a5e82c50dab98105b0b6e56dcdd", func := "tithing/tithinglaw06.MissChances", spec := "missChances", unfollowed := true, recurses := true, plainKeys := false, apart := false, narrowed := true }
def MissChancesUptoSaid : Prop := missChancesUptoRow.holds Try.pinned (OpenSpec.upto missChancesSpec)

/-- 'tithinglaw06.MissLikely', WHERE WHAT IT READS IS OF BULK AT MOST 1048576: true; the input reads as it did. -/
def missLikelyUptoRow : OpenClaim := { program := "ytkfobnhnehbkeaa", sum := "b23491a76be6e7728d06c3ef0d0b4954c0695a5e82c50dab98105b0b6e56dcdd", func := "tithing/tithinglaw06.MissLikely", spec := "missLikely", unfollowed := true, recurses := true, plainKeys := false, apart := false, narrowed := true }
def MissLikelyUptoSaid : Prop := missLikelyUptoRow.holds Try.pinned (OpenSpec.upto missLikelySpec)

/-- 'tithinglaw06.MissTotals', WHERE WHAT IT READS IS OF BULK AT MOST 1048576: true; the input reads as it did. -/
def missTotalsUptoRow : OpenClaim := { program := "ytkfobnhnehbkeaa", sum := "b23491a76be6e7728d06c3ef0d0b4954c0695a5e82c50dab98105b0b6e56dcdd", func := "tithing/tithinglaw06.MissTotals", spec := "missTotals", unfollowed := true, recurses := true, plainKeys := false, apart := false, narrowed := true }
def MissTotalsUptoSaid : Prop := missTotalsUptoRow.holds Try.pinned (OpenSpec.upto missTotalsSpec)

/-- 'tithinglaw06.MissEnough', WHERE WHAT IT READS IS OF BULK AT MOST 1048576: true; the input reads as it did. -/
def missEnoughUptoRow : OpenClaim := { program := "ytkfobnhnehbkeaa", sum := "b23491a76be6e7728d06c3ef0d0b4954c0695a5e82c50dab98105b0b6e56dcdd", func := "tithing/tithinglaw06.MissEnough", spec := "missEnough", unfollowed := true, recurses := true, plainKeys := false, apart := false, narrowed := true }
def MissEnoughUptoSaid : Prop := missEnoughUptoRow.holds Try.pinned (OpenSpec.upto missEnoughSpec)

/-- 'tithinglaw06.MissDraws', WHERE WHAT IT READS IS OF BULK AT MOST 1048576: true; the input reads as it did. -/
def missDrawsUptoRow : OpenClaim := { program := "ytkfobnhnehbkeaa", sum := "b23491a76be6e7728d06c3ef0d0b4954c0695a5e82c50dab98105b0b6e56dcdd", func := "tithing/tithinglaw06.MissDraws", spec := "missDraws", unfollowed := true, recurses := true, plainKeys := false, apart := false, narrowed := true }
def MissDrawsUptoSaid : Prop := missDrawsUptoRow.holds Try.pinned (OpenSpec.upto missDrawsSpec)

/-- 'tithinglaw06.MissAll', WHERE WHAT IT READS IS OF BULK AT MOST 1048576: true; the input reads as it did. -/
def missAllUptoRow : OpenClaim := { program := "ytkfobnhnehbkeaa", sum := "b23491a76be6e7728d06c3ef0d0b4954c0695a5e82c50dab98105b0b6e56dcdd", func := "tithing/tithinglaw06.MissAll", spec := "missAll", unfollowed := true, recurses := true, plainKeys := false, apart := false, narrowed := true }
def MissAllUptoSaid : Prop := missAllUptoRow.holds Try.pinned (OpenSpec.upto missAllSpec)

/-- 'tithinglaw06.MissConfident', WHERE WHAT IT READS IS OF BULK AT MOST 1048576: true; the input reads as it did. -/
def missConfidentUptoRow : OpenClaim := { program := "ytkfobnhnehbkeaa", sum := "b23491a76be6e7728d06c3ef0d0b4954c0695a5e82c50dab98105b0b6e56dcdd", func := "tithing/tithinglaw06.MissConfident", spec := "missConfident", unfollowed := true, recurses := true, plainKeys := false, apart := false, narrowed := true }
def MissConfidentUptoSaid : Prop := missConfidentUptoRow.holds Try.pinned (OpenSpec.upto missConfidentSpec)

/-- 'tithinglaw06.MissRises', WHERE WHAT IT READS IS OF BULK AT MOST 1048576: true; the input reads as it did. -/
def missRisesUptoRow : OpenClaim := { program := "ytkfobnhnehbkeaa", sum := "b23491a76be6e7728d06c3ef0d0b4954c0695a5e82c50dab98105b0b6e56dcdd", func := "tithing/tithinglaw06.MissRises", spec := "missRises", unfollowed := true, recurses := true, plainKeys := false, apart := false, narrowed := true }
def MissRisesUptoSaid : Prop := missRisesUptoRow.holds Try.pinned (OpenSpec.upto missRisesSpec)

/-- 'tithinglaw06.MissLevels', WHERE WHAT IT READS IS OF BULK AT MOST 1048576: true; the input reads as it did. -/
def missLevelsUptoRow : OpenClaim := { program := "ytkfobnhnehbkeaa", sum := "b23491a76be6e7728d06c3ef0d0b4954c0695a5e82c50dab98105b0b6e56dcdd", func := "tithing/tithinglaw06.MissLevels", spec := "missLevels", unfollowed := true, recurses := true, plainKeys := false, apart := false, narrowed := true }
def MissLevelsUptoSaid : Prop := missLevelsUptoRow.holds Try.pinned (OpenSpec.upto missLevelsSpec)

/-- 'tithinglaw06.MissSmallest', WHERE WHAT IT READS IS OF BULK AT MOST 1048576: true; the input reads as it did. -/
def missSmallestUptoRow : OpenClaim := { program := "ytkfobnhnehbkeaa", sum := "b23491a76be6e7728d06c3ef0d0b4954c0695a5e82c50dab98105b0b6e56dcdd", func := "tithing/tithinglaw06.MissSmallest", spec := "missSmallest", unfollowed := true, recurses := true, plainKeys := false, apart := false, narrowed := true }
def MissSmallestUptoSaid : Prop := missSmallestUptoRow.holds Try.pinned (OpenSpec.upto missSmallestSpec)

/-- 'tithinglaw06.MissFair', WHERE WHAT IT READS IS OF BULK AT MOST 1048576: true; the input reads as it did. -/
def missFairUptoRow : OpenClaim := { program := "ytkfobnhnehbkeaa", sum := "b23491a76be6e7728d06c3ef0d0b4954c0695a5e82c50dab98105b0b6e56dcdd", func := "tithing/tithinglaw06.MissFair", spec := "missFair", unfollowed := true, recurses := true, plainKeys := false, apart := false, narrowed := true }
def MissFairUptoSaid : Prop := missFairUptoRow.holds Try.pinned (OpenSpec.upto missFairSpec)

/-- 'tithinglaw06.MissNobody', WHERE WHAT IT READS IS OF BULK AT MOST 1048576: true; the input reads as it did. -/
def missNobodyUptoRow : OpenClaim := { program := "ytkfobnhnehbkeaa", sum := "b23491a76be6e7728d06c3ef0d0b4954c0695a5e82c50dab98105b0b6e56dcdd", func := "tithing/tithinglaw06.MissNobody", spec := "missNobody", unfollowed := true, recurses := true, plainKeys := false, apart := false, narrowed := true }
def MissNobodyUptoSaid : Prop := missNobodyUptoRow.holds Try.pinned (OpenSpec.upto missNobodySpec)

/-- 'tithinglaw06.MissAreas', WHERE WHAT IT READS IS OF BULK AT MOST 1048576: true; the input reads as it did. -/
def missAreasUptoRow : OpenClaim := { program := "ytkfobnhnehbkeaa", sum := "b23491a76be6e7728d06c3ef0d0b4954c0695a5e82c50dab98105b0b6e56dcdd", func := "tithing/tithinglaw06.MissAreas", spec := "missAreas", unfollowed := true, recurses := true, plainKeys := false, apart := false, narrowed := true }
def MissAreasUptoSaid : Prop := missAreasUptoRow.holds Try.pinned (OpenSpec.upto missAreasSpec)

/-- 'tithinglaw06.MissPascal', WHERE WHAT IT READS IS OF BULK AT MOST 1048576: true; the input reads as it did. -/
def missPascalUptoRow : OpenClaim := { program := "ytkfobnhnehbkeaa", sum := "b23491a76be6e7728d06c3ef0d0b4954c0695a5e82c50dab98105b0b6e56dcdd", func := "tithing/tithinglaw06.MissPascal", spec := "missPascal", unfollowed := true, recurses := true, plainKeys := false, apart := false, narrowed := true }
def MissPascalUptoSaid : Prop := missPascalUptoRow.holds Try.pinned (OpenSpec.upto missPascalSpec)

/-- 'tithinglaw06.MissWays', WHERE WHAT IT READS IS OF BULK AT MOST 1048576: true; the input reads as it did. -/
def missWaysUptoRow : OpenClaim := { program := "ytkfobnhnehbkeaa", sum := "b23491a76be6e7728d06c3ef0d0b4954c0695a5e82c50dab98105b0b6e56dcdd", func := "tithing/tithinglaw06.MissWays", spec := "missWays", unfollowed := true, recurses := true, plainKeys := false, apart := false, narrowed := true }
def MissWaysUptoSaid : Prop := missWaysUptoRow.holds Try.pinned (OpenSpec.upto missWaysSpec)

/-- 'tithinglaw06.MissNames', WHERE WHAT IT READS IS OF BULK AT MOST 1048576: true; the input reads as it did. -/
def missNamesUptoRow : OpenClaim := { program := "ytkfobnhnehbkeaa", sum := "b23491a76be6e7728d06c3ef0d0b4954c0695a5e82c50dab98105b0b6e56dcdd", func := "tithing/tithinglaw06.MissNames", spec := "missNames", unfollowed := true, recurses := true, plainKeys := false, apart := false, narrowed := true }
def MissNamesUptoSaid : Prop := missNamesUptoRow.holds Try.pinned (OpenSpec.upto missNamesSpec)

end Rows
end Go.Proofs.Ytkfobnhnehbkeaa
