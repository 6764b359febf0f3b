/-
  No cell of these rows narrows 'for every input' (looked for: loops, veiled, ifaces, maps, wideKeys, modest, calm, conditions, laid).
  DERIVED. THE GIVEN ROWS OF THIS SEAT. 14 by the template 'for every input the law returns true; each argument reads behind the call as it read before'; 0 by the template 'total and deterministic' (their statements: YtkdflgaahhnigaaGreatTotals.lean).
  GIVEN WITH THE SEED: the statements are not yours to turn. If you find one false, say at which input.
  Laid BY PROGRAM, IN A SANDBOX (cutbox-rows.mjs): the forced cells as the released guide's own fill.sh prints them over the translation d09f0e2b18ee6082… (all of the seat's roots in one cut). By AI agents, Wed Nov 11 2026. No macro, syntax, notation, axiom, sorry.
-/
import Derived.Test.YtkdflgaahhnigaaGreatChecked
import GoSem.Claim
import GoSem.ClaimJoined
import GoSem.ClaimMapViews
import Derived.JoinedTies
import Derived.KernelRfl
namespace Go.Proofs.YtkdflgaahhnigaaGreat
/- THE CELL 'sum', in the pinned program and in every row, IS THE sha256 OF THE DUMP (.gsa) THAT YtkdflgaahhnigaaGreatProg.lean LOADS. Nothing in Lean hashes anything: it is a label: what it is worth is what the hold of that sum in a sandbox is worth. -/
noncomputable def Tryz.pinned : Pinned := { name := "ytkdflgaahhnigaagreat", sum := "d09f0e2b18ee608213820128fc163cfb5ebd73371f55b351c2eae1e50cb047f0", checked := Tryz.checked }
namespace Rows
def none {H : Type} : Left H := { results := [], args := [] }

/-- 'tithinglaw04.NameCosts': WHATEVER THE INPUT: true; the input reads as it did. -/
def nameCostsSpec : ChangeSpec := { name := "nameCosts", fn := fun _ => fun
  | [d1, d2, d3] => { results := [.lit (.bool true)], args := [d1, d2, d3] }
  | _ => none }
def nameCostsRow : OpenClaim := { program := "ytkdflgaahhnigaagreat", sum := "d09f0e2b18ee608213820128fc163cfb5ebd73371f55b351c2eae1e50cb047f0", func := "tithing/tithinglaw04.NameCosts", spec := "nameCosts", inPlace := ["internal/abi.NoEscape", "internal/bytealg.MakeNoZero", "internal/bytealg.IndexByteString"], unfollowed := true, recurses := true, plainKeys := false, apart := false }
def NameCostsSaid : Prop := nameCostsRow.holds Tryz.pinned (OpenSpec.ofChange nameCostsSpec)

/-- ITS FALSE NEIGHBOUR: 'it returns false'. Refute it at one input. -/
def nameCostsWrong : ChangeSpec := { name := "nameCosts", fn := fun _ => fun
  | [d1, d2, d3] => { results := [.lit (.bool false)], args := [d1, d2, d3] }
  | _ => none }
def NameCostsWrongFalsely : Prop := nameCostsRow.holds Tryz.pinned (OpenSpec.ofChange nameCostsWrong)

/-- 'tithinglaw04.NameKeys': WHATEVER THE INPUT: true; the input reads as it did. -/
def nameKeysSpec : ChangeSpec := { name := "nameKeys", fn := fun _ => fun
  | [d1, d2] => { results := [.lit (.bool true)], args := [d1, d2] }
  | _ => none }
def nameKeysRow : OpenClaim := { program := "ytkdflgaahhnigaagreat", sum := "d09f0e2b18ee608213820128fc163cfb5ebd73371f55b351c2eae1e50cb047f0", func := "tithing/tithinglaw04.NameKeys", spec := "nameKeys", inPlace := ["internal/abi.NoEscape", "internal/bytealg.MakeNoZero", "internal/bytealg.IndexByteString"], unfollowed := true, recurses := true, plainKeys := false, apart := false }
def NameKeysSaid : Prop := nameKeysRow.holds Tryz.pinned (OpenSpec.ofChange nameKeysSpec)

/-- ITS FALSE NEIGHBOUR: 'it returns false'. Refute it at one input. -/
def nameKeysWrong : ChangeSpec := { name := "nameKeys", fn := fun _ => fun
  | [d1, d2] => { results := [.lit (.bool false)], args := [d1, d2] }
  | _ => none }
def NameKeysWrongFalsely : Prop := nameKeysRow.holds Tryz.pinned (OpenSpec.ofChange nameKeysWrong)

/-- 'tithinglaw04.NameNears': WHATEVER THE INPUT: true; the input reads as it did. -/
def nameNearsSpec : ChangeSpec := { name := "nameNears", fn := fun _ => fun
  | [d1, d2, d3, d4] => { results := [.lit (.bool true)], args := [d1, d2, d3, d4] }
  | _ => none }
def nameNearsRow : OpenClaim := { program := "ytkdflgaahhnigaagreat", sum := "d09f0e2b18ee608213820128fc163cfb5ebd73371f55b351c2eae1e50cb047f0", func := "tithing/tithinglaw04.NameNears", spec := "nameNears", inPlace := ["internal/abi.NoEscape", "internal/bytealg.MakeNoZero", "internal/bytealg.IndexByteString"], unfollowed := true, recurses := true, plainKeys := false, apart := false }
def NameNearsSaid : Prop := nameNearsRow.holds Tryz.pinned (OpenSpec.ofChange nameNearsSpec)

/-- ITS FALSE NEIGHBOUR: 'it returns false'. Refute it at one input. -/
def nameNearsWrong : ChangeSpec := { name := "nameNears", fn := fun _ => fun
  | [d1, d2, d3, d4] => { results := [.lit (.bool false)], args := [d1, d2, d3, d4] }
  | _ => none }
def NameNearsWrongFalsely : Prop := nameNearsRow.holds Tryz.pinned (OpenSpec.ofChange nameNearsWrong)

/-- 'tithinglaw04.NameCenters': WHATEVER THE INPUT: true; the input reads as it did. -/
def nameCentersSpec : ChangeSpec := { name := "nameCenters", fn := fun _ => fun
  | [d1, d2] => { results := [.lit (.bool true)], args := [d1, d2] }
  | _ => none }
def nameCentersRow : OpenClaim := { program := "ytkdflgaahhnigaagreat", sum := "d09f0e2b18ee608213820128fc163cfb5ebd73371f55b351c2eae1e50cb047f0", func := "tithing/tithinglaw04.NameCenters", spec := "nameCenters", inPlace := ["internal/abi.NoEscape", "internal/bytealg.MakeNoZero", "internal/bytealg.IndexByteString"], unfollowed := true, recurses := true, plainKeys := false, apart := false }
def NameCentersSaid : Prop := nameCentersRow.holds Tryz.pinned (OpenSpec.ofChange nameCentersSpec)

/-- ITS FALSE NEIGHBOUR: 'it returns false'. Refute it at one input. -/
def nameCentersWrong : ChangeSpec := { name := "nameCenters", fn := fun _ => fun
  | [d1, d2] => { results := [.lit (.bool false)], args := [d1, d2] }
  | _ => none }
def NameCentersWrongFalsely : Prop := nameCentersRow.holds Tryz.pinned (OpenSpec.ofChange nameCentersWrong)

/-- 'tithinglaw04.NameSame': WHATEVER THE INPUT: true; the input reads as it did. -/
def nameSameSpec : ChangeSpec := { name := "nameSame", fn := fun _ => fun
  | [d1, d2, d3] => { results := [.lit (.bool true)], args := [d1, d2, d3] }
  | _ => none }
def nameSameRow : OpenClaim := { program := "ytkdflgaahhnigaagreat", sum := "d09f0e2b18ee608213820128fc163cfb5ebd73371f55b351c2eae1e50cb047f0", func := "tithing/tithinglaw04.NameSame", spec := "nameSame", inPlace := ["internal/abi.NoEscape", "internal/bytealg.MakeNoZero", "internal/bytealg.IndexByteString"], unfollowed := true, recurses := true, plainKeys := false, apart := false }
def NameSameSaid : Prop := nameSameRow.holds Tryz.pinned (OpenSpec.ofChange nameSameSpec)

/-- ITS FALSE NEIGHBOUR: 'it returns false'. Refute it at one input. -/
def nameSameWrong : ChangeSpec := { name := "nameSame", fn := fun _ => fun
  | [d1, d2, d3] => { results := [.lit (.bool false)], args := [d1, d2, d3] }
  | _ => none }
def NameSameWrongFalsely : Prop := nameSameRow.holds Tryz.pinned (OpenSpec.ofChange nameSameWrong)

/-- 'tithinglaw04.NameLonger': WHATEVER THE INPUT: true; the input reads as it did. -/
def nameLongerSpec : ChangeSpec := { name := "nameLonger", fn := fun _ => fun
  | [d1, d2, d3, d4] => { results := [.lit (.bool true)], args := [d1, d2, d3, d4] }
  | _ => none }
def nameLongerRow : OpenClaim := { program := "ytkdflgaahhnigaagreat", sum := "d09f0e2b18ee608213820128fc163cfb5ebd73371f55b351c2eae1e50cb047f0", func := "tithing/tithinglaw04.NameLonger", spec := "nameLonger", inPlace := ["internal/abi.NoEscape", "internal/bytealg.MakeNoZero", "internal/bytealg.IndexByteString"], unfollowed := true, recurses := true, plainKeys := false, apart := false }
def NameLongerSaid : Prop := nameLongerRow.holds Tryz.pinned (OpenSpec.ofChange nameLongerSpec)

/-- ITS FALSE NEIGHBOUR: 'it returns false'. Refute it at one input. -/
def nameLongerWrong : ChangeSpec := { name := "nameLonger", fn := fun _ => fun
  | [d1, d2, d3, d4] => { results := [.lit (.bool false)], args := [d1, d2, d3, d4] }
  | _ => none }
def NameLongerWrongFalsely : Prop := nameLongerRow.holds Tryz.pinned (OpenSpec.ofChange nameLongerWrong)

/-- 'tithinglaw04.NameCheaper': WHATEVER THE INPUT: true; the input reads as it did. -/
def nameCheaperSpec : ChangeSpec := { name := "nameCheaper", fn := fun _ => fun
  | [d1, d2, d3, d4, d5] => { results := [.lit (.bool true)], args := [d1, d2, d3, d4, d5] }
  | _ => none }
def nameCheaperRow : OpenClaim := { program := "ytkdflgaahhnigaagreat", sum := "d09f0e2b18ee608213820128fc163cfb5ebd73371f55b351c2eae1e50cb047f0", func := "tithing/tithinglaw04.NameCheaper", spec := "nameCheaper", inPlace := ["internal/abi.NoEscape", "internal/bytealg.MakeNoZero", "internal/bytealg.IndexByteString"], unfollowed := true, recurses := true, plainKeys := false, apart := false }
def NameCheaperSaid : Prop := nameCheaperRow.holds Tryz.pinned (OpenSpec.ofChange nameCheaperSpec)

/-- ITS FALSE NEIGHBOUR: 'it returns false'. Refute it at one input. -/
def nameCheaperWrong : ChangeSpec := { name := "nameCheaper", fn := fun _ => fun
  | [d1, d2, d3, d4, d5] => { results := [.lit (.bool false)], args := [d1, d2, d3, d4, d5] }
  | _ => none }
def NameCheaperWrongFalsely : Prop := nameCheaperRow.holds Tryz.pinned (OpenSpec.ofChange nameCheaperWrong)

/-- 'tithinglaw04.NameSounds': WHATEVER THE INPUT: true; the input reads as it did. -/
def nameSoundsSpec : ChangeSpec := { name := "nameSounds", fn := fun _ => fun
  | [d1, d2, d3, d4] => { results := [.lit (.bool true)], args := [d1, d2, d3, d4] }
  | _ => none }
def nameSoundsRow : OpenClaim := { program := "ytkdflgaahhnigaagreat", sum := "d09f0e2b18ee608213820128fc163cfb5ebd73371f55b351c2eae1e50cb047f0", func := "tithing/tithinglaw04.NameSounds", spec := "nameSounds", inPlace := ["internal/abi.NoEscape", "internal/bytealg.MakeNoZero", "internal/bytealg.IndexByteString"], unfollowed := true, recurses := true, plainKeys := false, apart := false }
def NameSoundsSaid : Prop := nameSoundsRow.holds Tryz.pinned (OpenSpec.ofChange nameSoundsSpec)

/-- ITS FALSE NEIGHBOUR: 'it returns false'. Refute it at one input. -/
def nameSoundsWrong : ChangeSpec := { name := "nameSounds", fn := fun _ => fun
  | [d1, d2, d3, d4] => { results := [.lit (.bool false)], args := [d1, d2, d3, d4] }
  | _ => none }
def NameSoundsWrongFalsely : Prop := nameSoundsRow.holds Tryz.pinned (OpenSpec.ofChange nameSoundsWrong)

/-- 'tithinglaw04.NameCenter': WHATEVER THE INPUT: true; the input reads as it did. -/
def nameCenterSpec : ChangeSpec := { name := "nameCenter", fn := fun _ => fun
  | [d1, d2, d3] => { results := [.lit (.bool true)], args := [d1, d2, d3] }
  | _ => none }
def nameCenterRow : OpenClaim := { program := "ytkdflgaahhnigaagreat", sum := "d09f0e2b18ee608213820128fc163cfb5ebd73371f55b351c2eae1e50cb047f0", func := "tithing/tithinglaw04.NameCenter", spec := "nameCenter", inPlace := ["internal/abi.NoEscape", "internal/bytealg.MakeNoZero", "internal/bytealg.IndexByteString"], unfollowed := true, recurses := true, plainKeys := false, apart := false }
def NameCenterSaid : Prop := nameCenterRow.holds Tryz.pinned (OpenSpec.ofChange nameCenterSpec)

/-- ITS FALSE NEIGHBOUR: 'it returns false'. Refute it at one input. -/
def nameCenterWrong : ChangeSpec := { name := "nameCenter", fn := fun _ => fun
  | [d1, d2, d3] => { results := [.lit (.bool false)], args := [d1, d2, d3] }
  | _ => none }
def NameCenterWrongFalsely : Prop := nameCenterRow.holds Tryz.pinned (OpenSpec.ofChange nameCenterWrong)

/-- 'tithinglaw04.NameGroups': WHATEVER THE INPUT: true; the input reads as it did. -/
def nameGroupsSpec : ChangeSpec := { name := "nameGroups", fn := fun _ => fun
  | [d1, d2, d3] => { results := [.lit (.bool true)], args := [d1, d2, d3] }
  | _ => none }
def nameGroupsRow : OpenClaim := { program := "ytkdflgaahhnigaagreat", sum := "d09f0e2b18ee608213820128fc163cfb5ebd73371f55b351c2eae1e50cb047f0", func := "tithing/tithinglaw04.NameGroups", spec := "nameGroups", inPlace := ["internal/abi.NoEscape", "internal/bytealg.MakeNoZero", "internal/bytealg.IndexByteString"], unfollowed := true, recurses := true, plainKeys := false, apart := false }
def NameGroupsSaid : Prop := nameGroupsRow.holds Tryz.pinned (OpenSpec.ofChange nameGroupsSpec)

/-- ITS FALSE NEIGHBOUR: 'it returns false'. Refute it at one input. -/
def nameGroupsWrong : ChangeSpec := { name := "nameGroups", fn := fun _ => fun
  | [d1, d2, d3] => { results := [.lit (.bool false)], args := [d1, d2, d3] }
  | _ => none }
def NameGroupsWrongFalsely : Prop := nameGroupsRow.holds Tryz.pinned (OpenSpec.ofChange nameGroupsWrong)

/-- 'tithinglaw04.NameParts': WHATEVER THE INPUT: true; the input reads as it did. -/
def namePartsSpec : ChangeSpec := { name := "nameParts", fn := fun _ => fun
  | [d1, d2, d3, d4] => { results := [.lit (.bool true)], args := [d1, d2, d3, d4] }
  | _ => none }
def namePartsRow : OpenClaim := { program := "ytkdflgaahhnigaagreat", sum := "d09f0e2b18ee608213820128fc163cfb5ebd73371f55b351c2eae1e50cb047f0", func := "tithing/tithinglaw04.NameParts", spec := "nameParts", inPlace := ["internal/abi.NoEscape", "internal/bytealg.MakeNoZero", "internal/bytealg.IndexByteString"], unfollowed := true, recurses := true, plainKeys := false, apart := false }
def NamePartsSaid : Prop := namePartsRow.holds Tryz.pinned (OpenSpec.ofChange namePartsSpec)

/-- ITS FALSE NEIGHBOUR: 'it returns false'. Refute it at one input. -/
def namePartsWrong : ChangeSpec := { name := "nameParts", fn := fun _ => fun
  | [d1, d2, d3, d4] => { results := [.lit (.bool false)], args := [d1, d2, d3, d4] }
  | _ => none }
def NamePartsWrongFalsely : Prop := namePartsRow.holds Tryz.pinned (OpenSpec.ofChange namePartsWrong)

/-- 'tithinglaw04.NameBridge': WHATEVER THE INPUT: true; the input reads as it did. -/
def nameBridgeSpec : ChangeSpec := { name := "nameBridge", fn := fun _ => fun
  | [d1, d2, d3] => { results := [.lit (.bool true)], args := [d1, d2, d3] }
  | _ => none }
def nameBridgeRow : OpenClaim := { program := "ytkdflgaahhnigaagreat", sum := "d09f0e2b18ee608213820128fc163cfb5ebd73371f55b351c2eae1e50cb047f0", func := "tithing/tithinglaw04.NameBridge", spec := "nameBridge", inPlace := ["internal/abi.NoEscape", "internal/bytealg.MakeNoZero", "internal/bytealg.IndexByteString"], unfollowed := true, recurses := true, plainKeys := false, apart := false }
def NameBridgeSaid : Prop := nameBridgeRow.holds Tryz.pinned (OpenSpec.ofChange nameBridgeSpec)

/-- ITS FALSE NEIGHBOUR: 'it returns false'. Refute it at one input. -/
def nameBridgeWrong : ChangeSpec := { name := "nameBridge", fn := fun _ => fun
  | [d1, d2, d3] => { results := [.lit (.bool false)], args := [d1, d2, d3] }
  | _ => none }
def NameBridgeWrongFalsely : Prop := nameBridgeRow.holds Tryz.pinned (OpenSpec.ofChange nameBridgeWrong)

/-- 'tithinglaw04.NameAligns': WHATEVER THE INPUT: true; the input reads as it did. -/
def nameAlignsSpec : ChangeSpec := { name := "nameAligns", fn := fun _ => fun
  | [d1, d2, d3, d4, d5] => { results := [.lit (.bool true)], args := [d1, d2, d3, d4, d5] }
  | _ => none }
def nameAlignsRow : OpenClaim := { program := "ytkdflgaahhnigaagreat", sum := "d09f0e2b18ee608213820128fc163cfb5ebd73371f55b351c2eae1e50cb047f0", func := "tithing/tithinglaw04.NameAligns", spec := "nameAligns", inPlace := ["internal/abi.NoEscape", "internal/bytealg.MakeNoZero", "internal/bytealg.IndexByteString"], unfollowed := true, recurses := true, plainKeys := false, apart := false }
def NameAlignsSaid : Prop := nameAlignsRow.holds Tryz.pinned (OpenSpec.ofChange nameAlignsSpec)

/-- ITS FALSE NEIGHBOUR: 'it returns false'. Refute it at one input. -/
def nameAlignsWrong : ChangeSpec := { name := "nameAligns", fn := fun _ => fun
  | [d1, d2, d3, d4, d5] => { results := [.lit (.bool false)], args := [d1, d2, d3, d4, d5] }
  | _ => none }
def NameAlignsWrongFalsely : Prop := nameAlignsRow.holds Tryz.pinned (OpenSpec.ofChange nameAlignsWrong)

/-- 'tithinglaw04.NameCheapest': WHATEVER THE INPUT: true; the input reads as it did. -/
def nameCheapestSpec : ChangeSpec := { name := "nameCheapest", fn := fun _ => fun
  | [d1, d2, d3, d4] => { results := [.lit (.bool true)], args := [d1, d2, d3, d4] }
  | _ => none }
def nameCheapestRow : OpenClaim := { program := "ytkdflgaahhnigaagreat", sum := "d09f0e2b18ee608213820128fc163cfb5ebd73371f55b351c2eae1e50cb047f0", func := "tithing/tithinglaw04.NameCheapest", spec := "nameCheapest", inPlace := ["internal/abi.NoEscape", "internal/bytealg.MakeNoZero", "internal/bytealg.IndexByteString"], unfollowed := true, recurses := true, plainKeys := false, apart := false }
def NameCheapestSaid : Prop := nameCheapestRow.holds Tryz.pinned (OpenSpec.ofChange nameCheapestSpec)

/-- ITS FALSE NEIGHBOUR: 'it returns false'. Refute it at one input. -/
def nameCheapestWrong : ChangeSpec := { name := "nameCheapest", fn := fun _ => fun
  | [d1, d2, d3, d4] => { results := [.lit (.bool false)], args := [d1, d2, d3, d4] }
  | _ => none }
def NameCheapestWrongFalsely : Prop := nameCheapestRow.holds Tryz.pinned (OpenSpec.ofChange nameCheapestWrong)

/- THE SECOND FORM. 'bulk': how many values and letters a reading holds, each counted each time it is reached (what is shared counts as often as it is met; a slice's spare places count too). A statement '..UptoSaid' is the law's where the arguments, and the package variables that the reading takes, are together of bulk at most 1048576: NARROWER than '..Said'. Prove '..Said' where nothing that the law and all that it calls make is longer than what came in: it says more and counts as full. Else prove '..UptoSaid'. A law counts once. -/
mutual
def uptoBulk {H : Type} : DataW H → Nat
  | .lit (.string bytes) => bytes.length + 1
  | .lit _ => 1
  | .nil => 1
  | .ptr d => uptoBulk d + 1
  | .slice elems spare => uptoBulkAll elems + uptoBulkAll spare + 1
  | .agg parts => uptoBulkAll parts + 1
  | .iface _ d => uptoBulk d + 1
  | .map entries => uptoBulkEntries entries + 1
  | .held _ => 1
def uptoBulkAll {H : Type} : List (DataW H) → Nat
  | [] => 0
  | d :: r => uptoBulk d + uptoBulkAll r
def uptoBulkEntries {H : Type} : List (Lit × DataW H) → Nat
  | [] => 0
  | x :: r => uptoBulkEntry x + uptoBulkEntries r
def uptoBulkEntry {H : Type} : Lit × DataW H → Nat
  | (.string bytes, d) => bytes.length + uptoBulk d + 1
  | (_, d) => uptoBulk d + 1
 end
def uptoSmall : (H : Type) → List (DataW H) → Bool := fun _ ds => decide (uptoBulkAll ds ≤ 1048576)
def OpenSpec.upto (s : _root_.Go.ChangeSpec) : _root_.Go.OpenSpec := { _root_.Go.OpenSpec.ofChange s with cond := some uptoSmall }

/-- 'tithinglaw04.NameCosts', WHERE WHAT IT READS IS OF BULK AT MOST 1048576: true; the input reads as it did. -/
def nameCostsUptoRow : OpenClaim := { program := "ytkdflgaahhnigaagreat", sum := "d09f0e2b18ee608213820128fc163cfb5ebd73371f55b351c2eae1e50cb047f0", func := "tithing/tithinglaw04.NameCosts", spec := "nameCosts", inPlace := ["internal/abi.NoEscape", "internal/bytealg.MakeNoZero", "internal/bytealg.IndexByteString"], unfollowed := true, recurses := true, plainKeys := false, apart := false, narrowed := true }
def NameCostsUptoSaid : Prop := nameCostsUptoRow.holds Tryz.pinned (OpenSpec.upto nameCostsSpec)

/-- 'tithinglaw04.NameKeys', WHERE WHAT IT READS IS OF BULK AT MOST 1048576: true; the input reads as it did. -/
def nameKeysUptoRow : OpenClaim := { program := "ytkdflgaahhnigaagreat", sum := "d09f0e2b18ee608213820128fc163cfb5ebd73371f55b351c2eae1e50cb047f0", func := "tithing/tithinglaw04.NameKeys", spec := "nameKeys", inPlace := ["internal/abi.NoEscape", "internal/bytealg.MakeNoZero", "internal/bytealg.IndexByteString"], unfollowed := true, recurses := true, plainKeys := false, apart := false, narrowed := true }
def NameKeysUptoSaid : Prop := nameKeysUptoRow.holds Tryz.pinned (OpenSpec.upto nameKeysSpec)

/-- 'tithinglaw04.NameNears', WHERE WHAT IT READS IS OF BULK AT MOST 1048576: true; the input reads as it did. -/
def nameNearsUptoRow : OpenClaim := { program := "ytkdflgaahhnigaagreat", sum := "d09f0e2b18ee608213820128fc163cfb5ebd73371f55b351c2eae1e50cb047f0", func := "tithing/tithinglaw04.NameNears", spec := "nameNears", inPlace := ["internal/abi.NoEscape", "internal/bytealg.MakeNoZero", "internal/bytealg.IndexByteString"], unfollowed := true, recurses := true, plainKeys := false, apart := false, narrowed := true }
def NameNearsUptoSaid : Prop := nameNearsUptoRow.holds Tryz.pinned (OpenSpec.upto nameNearsSpec)

/-- 'tithinglaw04.NameCenters', WHERE WHAT IT READS IS OF BULK AT MOST 1048576: true; the input reads as it did. -/
def nameCentersUptoRow : OpenClaim := { program := "ytkdflgaahhnigaagreat", sum := "d09f0e2b18ee608213820128fc163cfb5ebd73371f55b351c2eae1e50cb047f0", func := "tithing/tithinglaw04.NameCenters", spec := "nameCenters", inPlace := ["internal/abi.NoEscape", "internal/bytealg.MakeNoZero", "internal/bytealg.IndexByteString"], unfollowed := true, recurses := true, plainKeys := false, apart := false, narrowed := true }
def NameCentersUptoSaid : Prop := nameCentersUptoRow.holds Tryz.pinned (OpenSpec.upto nameCentersSpec)

/-- 'tithinglaw04.NameSame', WHERE WHAT IT READS IS OF BULK AT MOST 1048576: true; the input reads as it did. -/
def nameSameUptoRow : OpenClaim := { program := "ytkdflgaahhnigaagreat", sum := "d09f0e2b18ee608213820128fc163cfb5ebd73371f55b351c2eae1e50cb047f0", func := "tithing/tithinglaw04.NameSame", spec := "nameSame", inPlace := ["internal/abi.NoEscape", "internal/bytealg.MakeNoZero", "internal/bytealg.IndexByteString"], unfollowed := true, recurses := true, plainKeys := false, apart := false, narrowed := true }
def NameSameUptoSaid : Prop := nameSameUptoRow.holds Tryz.pinned (OpenSpec.upto nameSameSpec)

/-- 'tithinglaw04.NameLonger', WHERE WHAT IT READS IS OF BULK AT MOST 1048576: true; the input reads as it did. -/
def nameLongerUptoRow : OpenClaim := { program := "ytkdflgaahhnigaagreat", sum := "d09f0e2b18ee608213820128fc163cfb5ebd73371f55b351c2eae1e50cb047f0", func := "tithing/tithinglaw04.NameLonger", spec := "nameLonger", inPlace := ["internal/abi.NoEscape", "internal/bytealg.MakeNoZero", "internal/bytealg.IndexByteString"], unfollowed := true, recurses := true, plainKeys := false, apart := false, narrowed := true }
def NameLongerUptoSaid : Prop := nameLongerUptoRow.holds Tryz.pinned (OpenSpec.upto nameLongerSpec)

/-- 'tithinglaw04.NameCheaper', WHERE WHAT IT READS IS OF BULK AT MOST 1048576: true; the input reads as it did. -/
def nameCheaperUptoRow : OpenClaim := { program := "ytkdflgaahhnigaagreat", sum := "d09f0e2b18ee608213820128fc163cfb5ebd73371f55b351c2eae1e50cb047f0", func := "tithing/tithinglaw04.NameCheaper", spec := "nameCheaper", inPlace := ["internal/abi.NoEscape", "internal/bytealg.MakeNoZero", "internal/bytealg.IndexByteString"], unfollowed := true, recurses := true, plainKeys := false, apart := false, narrowed := true }
def NameCheaperUptoSaid : Prop := nameCheaperUptoRow.holds Tryz.pinned (OpenSpec.upto nameCheaperSpec)

/-- 'tithinglaw04.NameSounds', WHERE WHAT IT READS IS OF BULK AT MOST 1048576: true; the input reads as it did. -/
def nameSoundsUptoRow : OpenClaim := { program := "ytkdflgaahhnigaagreat", sum := "d09f0e2b18ee608213820128fc163cfb5ebd73371f55b351c2eae1e50cb047f0", func := "tithing/tithinglaw04.NameSounds", spec := "nameSounds", inPlace := ["internal/abi.NoEscape", "internal/bytealg.MakeNoZero", "internal/bytealg.IndexByteString"], unfollowed := true, recurses := true, plainKeys := false, apart := false, narrowed := true }
def NameSoundsUptoSaid : Prop := nameSoundsUptoRow.holds Tryz.pinned (OpenSpec.upto nameSoundsSpec)

/-- 'tithinglaw04.NameCenter', WHERE WHAT IT READS IS OF BULK AT MOST 1048576: true; the input reads as it did. -/
def nameCenterUptoRow : OpenClaim := { program := "ytkdflgaahhnigaagreat", sum := "d09f0e2b18ee608213820128fc163cfb5ebd73371f55b351c2eae1e50cb047f0", func := "tithing/tithinglaw04.NameCenter", spec := "nameCenter", inPlace := ["internal/abi.NoEscape", "internal/bytealg.MakeNoZero", "internal/bytealg.IndexByteString"], unfollowed := true, recurses := true, plainKeys := false, apart := false, narrowed := true }
def NameCenterUptoSaid : Prop := nameCenterUptoRow.holds Tryz.pinned (OpenSpec.upto nameCenterSpec)

/-- 'tithinglaw04.NameGroups', WHERE WHAT IT READS IS OF BULK AT MOST 1048576: true; the input reads as it did. -/
def nameGroupsUptoRow : OpenClaim := { program := "ytkdflgaahhnigaagreat", sum := "d09f0e2b18ee608213820128fc163cfb5ebd73371f55b351c2eae1e50cb047f0", func := "tithing/tithinglaw04.NameGroups", spec := "nameGroups", inPlace := ["internal/abi.NoEscape", "internal/bytealg.MakeNoZero", "internal/bytealg.IndexByteString"], unfollowed := true, recurses := true, plainKeys := false, apart := false, narrowed := true }
def NameGroupsUptoSaid : Prop := nameGroupsUptoRow.holds Tryz.pinned (OpenSpec.upto nameGroupsSpec)

/-- 'tithinglaw04.NameParts', WHERE WHAT IT READS IS OF BULK AT MOST 1048576: true; the input reads as it did. -/
def namePartsUptoRow : OpenClaim := { program := "ytkdflgaahhnigaagreat", sum := "d09f0e2b18ee608213820128fc163cfb5ebd73371f55b351c2eae1e50cb047f0", func := "tithing/tithinglaw04.NameParts", spec := "nameParts", inPlace := ["internal/abi.NoEscape", "internal/bytealg.MakeNoZero", "internal/bytealg.IndexByteString"], unfollowed := true, recurses := true, plainKeys := false, apart := false, narrowed := true }
def NamePartsUptoSaid : Prop := namePartsUptoRow.holds Tryz.pinned (OpenSpec.upto namePartsSpec)

/-- 'tithinglaw04.NameBridge', WHERE WHAT IT READS IS OF BULK AT MOST 1048576: true; the input reads as it did. -/
def nameBridgeUptoRow : OpenClaim := { program := "ytkdflgaahhnigaagreat", sum := "d09f0e2b18ee608213820128fc163cfb5ebd73371f55b351c2eae1e50cb047f0", func := "tithing/tithinglaw04.NameBridge", spec := "nameBridge", inPlace := ["internal/abi.NoEscape", "internal/bytealg.MakeNoZero", "internal/bytealg.IndexByteString"], unfollowed := true, recurses := true, plainKeys := false, apart := false, narrowed := true }
def NameBridgeUptoSaid : Prop := nameBridgeUptoRow.holds Tryz.pinned (OpenSpec.upto nameBridgeSpec)

/-- 'tithinglaw04.NameAligns', WHERE WHAT IT READS IS OF BULK AT MOST 1048576: true; the input reads as it did. -/
def nameAlignsUptoRow : OpenClaim := { program := "ytkdflgaahhnigaagreat", sum := "d09f0e2b18ee608213820128fc163cfb5ebd73371f55b351c2eae1e50cb047f0", func := "tithing/tithinglaw04.NameAligns", spec := "nameAligns", inPlace := ["internal/abi.NoEscape", "internal/bytealg.MakeNoZero", "internal/bytealg.IndexByteString"], unfollowed := true, recurses := true, plainKeys := false, apart := false, narrowed := true }
def NameAlignsUptoSaid : Prop := nameAlignsUptoRow.holds Tryz.pinned (OpenSpec.upto nameAlignsSpec)

/-- 'tithinglaw04.NameCheapest', WHERE WHAT IT READS IS OF BULK AT MOST 1048576: true; the input reads as it did. -/
def nameCheapestUptoRow : OpenClaim := { program := "ytkdflgaahhnigaagreat", sum := "d09f0e2b18ee608213820128fc163cfb5ebd73371f55b351c2eae1e50cb047f0", func := "tithing/tithinglaw04.NameCheapest", spec := "nameCheapest", inPlace := ["internal/abi.NoEscape", "internal/bytealg.MakeNoZero", "internal/bytealg.IndexByteString"], unfollowed := true, recurses := true, plainKeys := false, apart := false, narrowed := true }
def NameCheapestUptoSaid : Prop := nameCheapestUptoRow.holds Tryz.pinned (OpenSpec.upto nameCheapestSpec)

end Rows
end Go.Proofs.YtkdflgaahhnigaaGreat
