/- Texts of package name, for this seat. -/
import Derived.Shelf.Strings.Builder1
import Derived.Shelf.Strings.Builder2
import Derived.Shelf.Strings.OnBuilder
import Derived.Shelf.Small.Bits
import Derived.Shelf.Small.Strs
import Derived.Shelf.Small.Wraps
import Derived.Shelf.Strconv.Itoa0
import Derived.Shelf.Strings.Search1
import Derived.Shelf.Slices.Turned
import Derived.Shelf.Slices.SearchI
import Derived.Shelf.SlSortCmp.Insertion
import Derived.Shelf.SortM.Plain
import Derived.Shelf.SortM.SortNone
import Derived.Test.YtkdflgaahhnigaaC1
import Derived.Test.YtkdflgaahhnigaaC2
import Derived.Lib.ConvBytes
set_option linter.unusedVariables false
set_option linter.unusedSimpArgs false
namespace Go.Proofs
open Go.Shelf
def Try.lays156_ren : Go.Shelf.Ren := ⟨fun | 156 => 35 | 165 => 55 | 166 => 56 | 169 => 57 | 240 => 72 | 241 => 73 | 276 => 91 | 277 => 92 | n => n, fun | 31 => 25 | 9 => 9 | 3 => 3 | 4 => 4 | 0 => 0 | 20 => 20 | 72 => 100 | 76 => 104 | 70 => 98 | 37 => 57 | 75 => 103 | 127 => 117 | 164 => 132 | 5 => 5 | 80 => 106 | n => n, fun | n => n⟩
theorem Try.lays156 : Go.Proofs.Lays.n156 Try.prog Try.lays156_ren := {
  mixed := by kernel_rfl
  f156 := Try.func35.trans (congrArg some (by kernel_rfl))
  f165 := Try.func55.trans (congrArg some (by kernel_rfl))
  f166 := Try.func56.trans (congrArg some (by kernel_rfl))
  f169 := Try.func57.trans (congrArg some (by kernel_rfl))
  f240 := Try.func72.trans (congrArg some (by kernel_rfl))
  f241 := Try.func73.trans (congrArg some (by kernel_rfl))
  f276 := Try.func91.trans (congrArg some (by kernel_rfl))
  f277 := Try.func92.trans (congrArg some (by kernel_rfl))
  t0 := Try.underlying0
  a0 := Try.isAgg0
  z0 := Try.sizeOf0
  v0 := Try.zeroValue0
  t3 := Try.underlying3
  a3 := Try.isAgg3
  z3 := Try.sizeOf3
  v3 := Try.zeroValue3
  t4 := Try.underlying4
  a4 := Try.isAgg4
  z4 := Try.sizeOf4
  v4 := Try.zeroValue4
  t9 := Try.underlying9
  a9 := Try.isAgg9
  z9 := Try.sizeOf9
  v9 := Try.zeroValue9
  t20 := Try.underlying20
  a20 := Try.isAgg20
  z20 := Try.sizeOf20
  v20 := Try.zeroValue20
  t31 := Try.underlying25
  a31 := Try.isAgg25
  z31 := Try.sizeOf25
  v31 := Try.zeroValue25
  t37 := Try.underlying57
  a37 := Try.isAgg57
  z37 := Try.sizeOf57
  v37 := Try.zeroValue57
  t70 := Try.underlying98
  a70 := Try.isAgg98
  z70 := Try.sizeOf98
  v70 := Try.zeroValue98
  t72 := Try.underlying100
  a72 := Try.isAgg100
  z72 := Try.sizeOf100
  v72 := Try.zeroValue100
  t75 := Try.underlying103
  a75 := Try.isAgg103
  z75 := Try.sizeOf103
  v75 := Try.zeroValue103
  t76 := Try.underlying104
  a76 := Try.isAgg104
  z76 := Try.sizeOf104
  v76 := Try.zeroValue104
  t127 := Try.underlying117
  a127 := Try.isAgg117
  z127 := Try.sizeOf117
  v127 := Try.zeroValue117
  t164 := Try.underlying132
  a164 := Try.isAgg132
  z164 := Try.sizeOf132
  v164 := Try.zeroValue132 }
theorem Try.Builder_Extra_156 : Builder.Extra Try.prog Try.lays156_ren := {
  sizeBuilder := by kernel_rfl
  liesBuilder := by kernel_rfl
  t5 := Try.underlying5
  a5 := Try.isAgg5
  z5 := Try.sizeOf5
  v5 := Try.zeroValue5
  infoByte := by kernel_rfl
  cellsByte := by kernel_rfl
  sizeByte := by kernel_rfl
  neB5 := by decide }
open Go.RowKit in
/-- No element: the empty string; the world is as it was. (Whatever the slice's address and capacity: a nil slice too.) (LAID: no walk: one application.) -/
theorem Try.strings_Join_none (a : Option Addr) (c : Nat) (sep : ByteArray) (w : World) :
    Calls Try.prog 35 #[.slice a 0 c, .string sep] w fun e w' => e = .returned (.string ⟨#[]⟩) ∧ w' = w := Any.strings_Join_none Try.lays156 Try.Builder_Extra_156 a c sep w
open Go.RowKit in
/-- strings.Join: "Join concatenates the elements of its first argument to create a single string. The separator string sep is placed between elements in the resulting string.": HOWEVER MANY ELEMENTS. Below the heap's end the world is as it was. (LAID: no walk: one application.) -/
theorem Try.strings_Join (bk o c : Nat) (xs : List ByteArray) (sep : ByteArray) (w : World) (hcells : ∀ (j : Nat) x, xs[j]? = some x → w.cell? ⟨bk, o + j, none⟩ = some (.string x)) (hbk : bk < w.heap.size) (hN : xs.length ≤ 140737488355328) (hcap : xs.length ≤ c) (hlen : (Lib.join (xs.map (·.data.toList)) sep.data.toList).length ≤ 140737488355328) :
    Calls Try.prog 35 #[.slice (some ⟨bk, o, none⟩) xs.length c, .string sep] w fun e w' => e = .returned (.string ⟨(Lib.join (xs.map (·.data.toList)) sep.data.toList).toArray⟩) ∧ Below w.heap.size w w' := Any.strings_Join Try.lays156 Try.Builder_Extra_156 bk o c xs sep w hcells hbk hN hcap hlen
def Try.lays215_ren : Go.Shelf.Ren := ⟨fun | 215 => 53 | n => n, fun | 3 => 3 | 4 => 4 | n => n, fun | n => n⟩
theorem Try.lays215 : Go.Proofs.Lays.n215 Try.prog Try.lays215_ren := {
  mixed := by kernel_rfl
  f215 := Try.func53.trans (congrArg some (by kernel_rfl))
  t3 := Try.underlying3
  a3 := Try.isAgg3
  z3 := Try.sizeOf3
  v3 := Try.zeroValue3
  t4 := Try.underlying4
  a4 := Try.isAgg4
  z4 := Try.sizeOf4
  v4 := Try.zeroValue4 }
def Try.lays122_ren : Go.Shelf.Ren := ⟨fun | 122 => 32 | 215 => 53 | n => n, fun | 3 => 3 | 4 => 4 | n => n, fun | n => n⟩
theorem Try.lays122 : Go.Proofs.Lays.n122 Try.prog Try.lays122_ren := {
  mixed := by kernel_rfl
  f122 := Try.func32.trans (congrArg some (by kernel_rfl))
  f215 := Try.func53.trans (congrArg some (by kernel_rfl))
  t3 := Try.underlying3
  a3 := Try.isAgg3
  z3 := Try.sizeOf3
  v3 := Try.zeroValue3
  t4 := Try.underlying4
  a4 := Try.isAgg4
  z4 := Try.sizeOf4
  v4 := Try.zeroValue4 }
open Go.RowKit in
/-- cmp.Compare at int: "Compare returns -1 if x is less than y, 0 if x equals y, +1 if x is greater than y.": IT RETURNS 'Lib.compareInt x y'; the world is as it was. (LAID: no walk: one application.) -/
theorem Try.cmp_Compare_int (x y : Int) (w : World) :
    Calls Try.prog 32 #[.int .i64 x, .int .i64 y] w fun e w' => e = .returned (.int .i64 (Lib.compareInt x y)) ∧ w' = w := Any.cmp_Compare_int Try.lays122 x y w
def Try.lays114_ren : Go.Shelf.Ren := ⟨fun | 114 => 64 | n => n, fun | 28 => 39 | 3 => 3 | 4 => 4 | 9 => 9 | 20 => 20 | 0 => 0 | n => n, fun | n => n⟩
theorem Try.lays114 : Go.Proofs.Lays.n114 Try.prog Try.lays114_ren := {
  mixed := by kernel_rfl
  f114 := Try.func64.trans (congrArg some (by kernel_rfl))
  t0 := Try.underlying0
  a0 := Try.isAgg0
  z0 := Try.sizeOf0
  v0 := Try.zeroValue0
  t3 := Try.underlying3
  a3 := Try.isAgg3
  z3 := Try.sizeOf3
  v3 := Try.zeroValue3
  t4 := Try.underlying4
  a4 := Try.isAgg4
  z4 := Try.sizeOf4
  v4 := Try.zeroValue4
  t9 := Try.underlying9
  a9 := Try.isAgg9
  z9 := Try.sizeOf9
  v9 := Try.zeroValue9
  t20 := Try.underlying20
  a20 := Try.isAgg20
  z20 := Try.sizeOf20
  v20 := Try.zeroValue20
  t28 := Try.underlying39
  a28 := Try.isAgg39
  z28 := Try.sizeOf39
  v28 := Try.zeroValue39 }
open Go.Lib in
/-- slices.Min at []int: "Min returns the minimal value in x. It panics if x is empty.": OF A SLICE THAT IS NOT EMPTY IT RETURNS 'Lib.minOf (the elements)'; the world is as it was. (Of an empty one it panics: no contract here.) (LAID: no walk: one application.) -/
theorem Try.slices_Min_int (b off n c : Nat) (zs : List Int) (w : World) (hn : 0 < n) (hz : n ≤ zs.length) (hbig : n ≤ 9223372036854775807) (hc : ∀ j, j < zs.length → w.cell? ⟨b, off + j, none⟩ = some (.int .i64 (zs.getD j 0))) :
    Calls Try.prog 64 #[.slice (some ⟨b, off, none⟩) n c] w fun e w' => e = .returned (.int .i64 (Lib.minOf (zs.take n))) ∧ w' = w := Any.slices_Min_int Try.lays114 b off n c zs w hn hz hbig hc
def Try.laysSlF20_ren : Go.Shelf.Ren := ⟨fun | 20 => 70 | n => n, fun | 24 => 3 | 22 => 39 | 3 => 3 | 25 => 71 | 4 => 4 | 0 => 0 | n => n, fun | n => n⟩
theorem Try.laysSlF20 : Go.Proofs.SlLaysF.n20 Try.prog Try.laysSlF20_ren := {
  mixed := by kernel_rfl
  f20 := ⟨Try.f70.name, by decide, Try.func70.trans (congrArg some (by kernel_rfl))⟩
  t0 := Try.underlying0
  a0 := Try.isAgg0
  z0 := Try.sizeOf0
  v0 := Try.zeroValue0
  t3 := Try.underlying3
  a3 := Try.isAgg3
  z3 := Try.sizeOf3
  v3 := Try.zeroValue3
  t4 := Try.underlying4
  a4 := Try.isAgg4
  z4 := Try.sizeOf4
  v4 := Try.zeroValue4
  t22 := Try.underlying39
  a22 := Try.isAgg39
  z22 := Try.sizeOf39
  v22 := Try.zeroValue39
  a24 := Try.isAgg3
  z24 := Try.sizeOf3
  t25 := Try.underlying71
  a25 := Try.isAgg71
  z25 := Try.sizeOf71
  v25 := Try.zeroValue71 }
open Go.RowKit Go.Lib Go.Sort in
theorem Try.insertionSortCmpFunc_one {α : Type} [Inhabited α] (enc : α → Value) (hO : OneCell enc) (cf : α → α → Int) (g : Nat) (cb : Array Value) (blk off cap a b : Nat) (d : Array α) (w : World) (eg : ∀ args w, (callFunc g args).run Try.prog w = .ok (.enter g args) w) (hcmp : CmpReads Try.prog g cb enc cf blk off d.size w) (hH : Holds enc w blk off d) (hab : a ≤ b) (hb : b ≤ d.size) (hsz : d.size < 4611686018427387904) :
    Calls Try.prog 70 #[.slice (some ⟨blk, off, none⟩) d.size cap, .int .i64 a, .int .i64 b, .func (.func g) #[] cb] w fun e w' =>
      e = .returned (.tuple #[]) ∧ ∃ n, w' = (putRow enc w blk off (Sort.insertionSort (ltOf cf) d a b)).drewN n := Any.insertionSortCmpFunc_one Try.laysSlF20 enc hO cf g cb blk off cap a b d w eg hcmp hH hab hb hsz
def Try.laysSlM5_ren : Go.Shelf.Ren := ⟨fun | 5 => 47 | 8 => 68 | 7 => 67 | 19 => 88 | 20 => 89 | 10 => 79 | 11 => 80 | 12 => 81 | 13 => 82 | 14 => 83 | 15 => 84 | 16 => 85 | 17 => 86 | 18 => 87 | 30 => 94 | 31 => 95 | 32 => 96 | 33 => 97 | 34 => 98 | 35 => 53 | 40 => 100 | n => n, fun | 23 => 39 | 25 => 3 | 3 => 3 | 32 => 113 | 22 => 39 | 0 => 0 | 44 => 129 | 46 => 131 | 4 => 4 | 36 => 122 | 35 => 121 | 41 => 84 | 5 => 5 | 9 => 9 | 53 => 136 | 57 => 140 | 63 => 142 | 64 => 143 | n => n, fun | n => n⟩
theorem Try.laysSlM5 : Go.Proofs.SlLaysM.n5 Try.prog Try.laysSlM5_ren := {
  mixed := by kernel_rfl
  f5 := ⟨Try.f47.name, by decide, Try.func47.trans (congrArg some (by kernel_rfl))⟩
  f7 := ⟨Try.f67.name, by decide, Try.func67.trans (congrArg some (by kernel_rfl))⟩
  f8 := Try.func68.trans (congrArg some (by kernel_rfl))
  f10 := ⟨Try.f79.name, by decide, Try.func79.trans (congrArg some (by kernel_rfl))⟩
  f11 := ⟨Try.f80.name, by decide, Try.func80.trans (congrArg some (by kernel_rfl))⟩
  f12 := ⟨Try.f81.name, by decide, Try.func81.trans (congrArg some (by kernel_rfl))⟩
  f13 := ⟨Try.f82.name, by decide, Try.func82.trans (congrArg some (by kernel_rfl))⟩
  f14 := ⟨Try.f83.name, by decide, Try.func83.trans (congrArg some (by kernel_rfl))⟩
  f15 := ⟨Try.f84.name, by decide, Try.func84.trans (congrArg some (by kernel_rfl))⟩
  f16 := ⟨Try.f85.name, by decide, Try.func85.trans (congrArg some (by kernel_rfl))⟩
  f17 := ⟨Try.f86.name, by decide, Try.func86.trans (congrArg some (by kernel_rfl))⟩
  f18 := ⟨Try.f87.name, by decide, Try.func87.trans (congrArg some (by kernel_rfl))⟩
  f19 := Try.func88.trans (congrArg some (by kernel_rfl))
  f20 := Try.func89.trans (congrArg some (by kernel_rfl))
  f30 := ⟨Try.f94.name, by decide, Try.func94.trans (congrArg some (by kernel_rfl))⟩
  f31 := Try.func95.trans (congrArg some (by kernel_rfl))
  f32 := Try.func96.trans (congrArg some (by kernel_rfl))
  f33 := ⟨Try.f97.name, by decide, Try.func97.trans (congrArg some (by kernel_rfl))⟩
  f34 := ⟨Try.f98.name, by decide, Try.func98.trans (congrArg some (by kernel_rfl))⟩
  f35 := ⟨Try.f53.name, by decide, Try.func53.trans (congrArg some (by kernel_rfl))⟩
  f40 := ⟨Try.f100.name, by decide, Try.func100.trans (congrArg some (by kernel_rfl))⟩
  t0 := Try.underlying0
  a0 := Try.isAgg0
  z0 := Try.sizeOf0
  v0 := Try.zeroValue0
  t3 := Try.underlying3
  a3 := Try.isAgg3
  z3 := Try.sizeOf3
  v3 := Try.zeroValue3
  t4 := Try.underlying4
  a4 := Try.isAgg4
  z4 := Try.sizeOf4
  v4 := Try.zeroValue4
  t5 := Try.underlying5
  a5 := Try.isAgg5
  z5 := Try.sizeOf5
  v5 := Try.zeroValue5
  t9 := Try.underlying9
  a9 := Try.isAgg9
  z9 := Try.sizeOf9
  v9 := Try.zeroValue9
  t22 := Try.underlying39
  a22 := Try.isAgg39
  z22 := Try.sizeOf39
  v22 := Try.zeroValue39
  t23 := Try.underlying39
  a23 := Try.isAgg39
  z23 := Try.sizeOf39
  v23 := Try.zeroValue39
  t25 := Try.underlying3
  a25 := Try.isAgg3
  z25 := Try.sizeOf3
  v25 := Try.zeroValue3
  t32 := Try.underlying113
  a32 := Try.isAgg113
  z32 := Try.sizeOf113
  v32 := Try.zeroValue113
  t35 := Try.underlying121
  a35 := Try.isAgg121
  z35 := Try.sizeOf121
  v35 := Try.zeroValue121
  t36 := Try.underlying122
  a36 := Try.isAgg122
  z36 := Try.sizeOf122
  v36 := Try.zeroValue122
  t41 := Try.underlying84
  a41 := Try.isAgg84
  z41 := Try.sizeOf84
  v41 := Try.zeroValue84
  t44 := Try.underlying129
  a44 := Try.isAgg129
  z44 := Try.sizeOf129
  v44 := Try.zeroValue129
  t46 := Try.underlying131
  a46 := Try.isAgg131
  z46 := Try.sizeOf131
  v46 := Try.zeroValue131
  t53 := Try.underlying136
  a53 := Try.isAgg136
  z53 := Try.sizeOf136
  v53 := Try.zeroValue136
  t57 := Try.underlying140
  a57 := Try.isAgg140
  z57 := Try.sizeOf140
  v57 := Try.zeroValue140
  t63 := Try.underlying142
  a63 := Try.isAgg142
  z63 := Try.sizeOf142
  v63 := Try.zeroValue142
  t64 := Try.underlying143
  a64 := Try.isAgg143
  z64 := Try.sizeOf143
  v64 := Try.zeroValue143 }
open Go.Sort Go.RowKit in
theorem Try.slices_Sort_int (blk off cap : Nat) (zs : List Int) (w : World) (hH : Holds (Value.int .i64) w blk off zs.toArray) (hblk : blk < w.heap.size) (hsz : zs.length < 4611686018427387904) :
    Calls Try.prog 47 #[.slice (some ⟨blk, off, none⟩) zs.length cap] w fun e w' =>
      e = .returned (.tuple #[]) ∧ ∃ n os, w' = grow (putRow (Value.int .i64) (Sort.ahead w n) blk off (zs.mergeSort fun x y => decide (x ≤ y)).toArray) os := AnyM.slices_Sort_int Try.laysSlM5 blk off cap zs w hH hblk hsz
open Go.RowKit Go.Sort in
/-- .. and plain. (LAID AT THE INSTANCE 'slices.Sort[[]int,int]': no walk: one application.) -/
theorem Try.slices_Sort_int_none (p : Option Addr) (cap : Nat) (w : World) :
    Calls Try.prog 47 #[.slice p 0 cap] w fun e w' => e = .returned (.tuple #[]) ∧ w' = w := AnyM.slices_Sort_int_none Try.laysSlM5 p cap w
end Go.Proofs

namespace Go.Proofs.Ytkdflgaahhnigaa
open Go.RowKit Go.Shelf

/-- the test's own answers -/
def PredS (f : Nat) (pre post : Array Value) (p : ByteArray → Bool) (xs : List ByteArray) (w : World) : Prop := ∀ x, x ∈ xs → ∀ W, Below w.heap.size w W → Calls Try.prog f (pre ++ #[.string x] ++ post) W fun e w' => e = .returned (.bool (p x)) ∧ Below W.heap.size W w'
def ClosS (bx : Nat) (p : ByteArray → Bool) (xs : List ByteArray) (w : World) : Prop := ∀ x, x ∈ xs → ∀ W, Below w.heap.size w W → Calls Try.prog 59 #[.string x, .pointer (some ⟨bx, 0, none⟩)] W fun e w' => e = .returned (.bool (!p x)) ∧ Below W.heap.size W w'
set_option maxRecDepth 100000 in
set_option maxHeartbeats 800000 in
theorem indexS (ad : Option Addr) (b o bx cap n : Nat) (xs : List ByteArray) (p : ByteArray → Bool) (w : World) (hN : xs.length = n) (had : xs ≠ [] → ad = some ⟨b, o, none⟩) (hb : xs ≠ [] → b < w.heap.size) (hn : n ≤ 100000) (ha : StrsAt w b o xs) (hc : ClosS bx p xs w) :
    Calls Try.prog 74 #[.slice ad n cap, .func (.func 59) #[] #[.pointer (some ⟨bx, 0, none⟩)]] w fun e w' => (∃ r : Int, e = .returned (.int .i64 r) ∧ decide (0 ≤ r) = !(xs.all p) ∧ -1 ≤ r) ∧ Below w.heap.size w w' := by
  have HC := Lib.hid hc
  have HA := Lib.hid ha
  have HD := Lib.hid had
  have HB := Lib.hid hb
  have HN := Lib.hid hN
  clear hc ha had hb hN
  go_enter Try.func74, Try.ntmps74
  go_wp2
  go_loopw [8] (fun x wr => ∃ i : Nat, i ≤ n ∧ x = .int .i64 (i : Int) ∧ (∀ j a, j < i → xs[j]? = some a → p a = true) ∧ Below w.heap.size w wr) (fun x _ => n - (intOf x).toNat)
  case atStart => exact ⟨0, by omega, rfl, fun j a h => by omega, Below.refl _ _⟩
  case round =>
    obtain ⟨i, hi, rfl, hall, hbw⟩ := hrel
    have H := Lib.hid hall
    have HW := Lib.hid hbw
    by_cases hlt : i < n
    · obtain ⟨x, hai⟩ : ∃ a, xs[i]? = some a := ⟨xs[i]'(by rw [HN.out]; exact hlt), by simp⟩
      have hne : xs ≠ [] := by rintro rfl; simp at hai
      have e1 := HD.out hne
      subst e1
      have k0 := HA.out.below hbw (HB.out hne) i x hai
      have HI := Lib.hid hai
      have C := Lib.hid (HC.out x (List.mem_of_getElem? hai) wr hbw)
      clear hall hbw hai hne
      cases hok : p x with
      | true =>
        rw [hok] at C
        have OK := Lib.hid hok
        clear hok
        go_wp2_with (go_at_call 59; (with_reducible refine C.out.mono ?_); rintro e w' ⟨rfl, hb⟩; have HB' := Lib.hid hb; clear hb)
        go_roundw
        case rel =>
          refine ⟨i + 1, by omega, by go_num, fun j a hj hja => ?_, HW.out.trans (HB'.out.mono HW.out.size)⟩
          rcases Nat.lt_succ_iff_lt_or_eq.1 hj with h | rfl
          · exact H.out j a h hja
          · rw [HI.out] at hja; cases hja; exact OK.out
        case measure => simp [intOf]; omega
      | false =>
        rw [hok] at C
        have OK := Lib.hid hok
        clear hok
        go_wp2_with (go_at_call 59; (with_reducible refine C.out.mono ?_); rintro e w' ⟨rfl, hb⟩; have HB' := Lib.hid hb; clear hb)
        go_ret
        refine ⟨⟨_, rfl, ?_, by omega⟩, HW.out.trans (HB'.out.mono HW.out.size)⟩
        have h1 : xs.all p = false := by
          rw [List.all_eq_false]
          exact ⟨_, List.mem_of_getElem? HI.out, by rw [OK.out]; simp⟩
        rw [h1]; simp
    · obtain rfl : i = n := by omega
      have h1 : xs.all p = true := by
        rw [List.all_eq_true]
        intro a ha
        obtain ⟨j, hj⟩ := List.getElem?_of_mem ha
        have hjl : j < xs.length := (List.getElem?_eq_some_iff.1 hj).1
        exact hall j a (by rw [← HN.out]; exact hjl) hj
      have H1 := Lib.hid h1
      clear hall hbw h1
      go_wp2
      go_ret
      exact ⟨⟨-1, rfl, by rw [H1.out]; rfl, by omega⟩, HW.out⟩
set_option maxRecDepth 100000 in
set_option maxHeartbeats 800000 in
theorem containsS (ad : Option Addr) (b o bx cap n : Nat) (xs : List ByteArray) (p : ByteArray → Bool) (w : World) (hN : xs.length = n) (had : xs ≠ [] → ad = some ⟨b, o, none⟩) (hb : xs ≠ [] → b < w.heap.size) (hn : n ≤ 100000) (ha : StrsAt w b o xs) (hc : ClosS bx p xs w) :
    Calls Try.prog 58 #[.slice ad n cap, .func (.func 59) #[] #[.pointer (some ⟨bx, 0, none⟩)]] w fun e w' => e = .returned (.bool (!(xs.all p))) ∧ Below w.heap.size w w' := by
  have C := Lib.hid (indexS ad b o bx cap n xs p w hN had hb hn ha hc)
  clear had hb hn ha hc hN
  go_enter Try.func58, Try.ntmps58
  go_wp2_with (go_at_call 74; (with_reducible refine C.out.mono ?_); rintro e w' ⟨⟨r, rfl, hr, hr1⟩, hb⟩; have HB := Lib.hid hb; have HR := Lib.hid hr; clear hb hr)
  go_ret
  exact ⟨by rw [← HR.out]; rfl, HB.out⟩
set_option maxRecDepth 100000 in
set_option maxHeartbeats 800000 in
theorem allS (f : Nat) (pre post : Array Value) (ad : Option Addr) (b o cap n : Nat) (xs : List ByteArray) (p : ByteArray → Bool) (w : World) (hN : xs.length = n) (had : xs ≠ [] → ad = some ⟨b, o, none⟩) (hb : xs ≠ [] → b < w.heap.size) (hn : n ≤ 100000) (ha : StrsAt w b o xs)
    (hc : ∀ bx W, Below w.heap.size w W → Blk W bx #[.func (.func f) pre post] 73 → ClosS bx p xs W) :
    Calls Try.prog 36 #[.slice ad n cap, .func (.func f) pre post] w fun e w' => e = .returned (.bool (xs.all p)) ∧ Below w.heap.size w w' := by
  obtain ⟨b1, b2, b3⟩ := one_new w #[.func (.func f) pre post] 73
  have ha' : StrsAt (w.alloc (.cells #[.func (.func f) pre post] 73)) b o xs := by
    by_cases hne : xs = []
    · subst hne; intro i a h; simp at h
    · exact ha.below b2 (hb hne)
  have C := Lib.hid (containsS ad b o w.heap.size cap n xs p _ hN had (fun h => Nat.lt_of_lt_of_le (hb h) b2.size) hn ha' (hc _ _ b2 b1))
  have B2 := Lib.hid b2
  clear had hb hn ha ha' b1 b2 b3 hc hN
  go_enter Try.func36, Try.ntmps36
  go_wp2_with (go_at_call 58; (with_reducible refine C.out.mono ?_); rintro e w' ⟨rfl, hb⟩; have HB := Lib.hid hb; clear hb)
  go_ret
  exact ⟨by simp, B2.out.trans (HB.out.mono B2.out.size)⟩
/-- the test's own answers -/
def PredI (f : Nat) (pre post : Array Value) (p : Int → Bool) (xs : List Int) (w : World) : Prop := ∀ x, x ∈ xs → ∀ W, Below w.heap.size w W → Calls Try.prog f (pre ++ #[.int .i64 x] ++ post) W fun e w' => e = .returned (.bool (p x)) ∧ Below W.heap.size W w'
def ClosI (bx : Nat) (p : Int → Bool) (xs : List Int) (w : World) : Prop := ∀ x, x ∈ xs → ∀ W, Below w.heap.size w W → Calls Try.prog 63 #[.int .i64 x, .pointer (some ⟨bx, 0, none⟩)] W fun e w' => e = .returned (.bool (!p x)) ∧ Below W.heap.size W w'
set_option maxRecDepth 100000 in
set_option maxHeartbeats 800000 in
theorem indexI (ad : Option Addr) (b o bx cap n : Nat) (xs : List Int) (p : Int → Bool) (w : World) (hN : xs.length = n) (had : xs ≠ [] → ad = some ⟨b, o, none⟩) (hb : xs ≠ [] → b < w.heap.size) (hn : n ≤ 100000) (ha : IntsAt w b o xs) (hc : ClosI bx p xs w) :
    Calls Try.prog 77 #[.slice ad n cap, .func (.func 63) #[] #[.pointer (some ⟨bx, 0, none⟩)]] w fun e w' => (∃ r : Int, e = .returned (.int .i64 r) ∧ decide (0 ≤ r) = !(xs.all p) ∧ -1 ≤ r) ∧ Below w.heap.size w w' := by
  have HC := Lib.hid hc
  have HA := Lib.hid ha
  have HD := Lib.hid had
  have HB := Lib.hid hb
  have HN := Lib.hid hN
  clear hc ha had hb hN
  go_enter Try.func77, Try.ntmps77
  go_wp2
  go_loopw [8] (fun x wr => ∃ i : Nat, i ≤ n ∧ x = .int .i64 (i : Int) ∧ (∀ j a, j < i → xs[j]? = some a → p a = true) ∧ Below w.heap.size w wr) (fun x _ => n - (intOf x).toNat)
  case atStart => exact ⟨0, by omega, rfl, fun j a h => by omega, Below.refl _ _⟩
  case round =>
    obtain ⟨i, hi, rfl, hall, hbw⟩ := hrel
    have H := Lib.hid hall
    have HW := Lib.hid hbw
    by_cases hlt : i < n
    · obtain ⟨x, hai⟩ : ∃ a, xs[i]? = some a := ⟨xs[i]'(by rw [HN.out]; exact hlt), by simp⟩
      have hne : xs ≠ [] := by rintro rfl; simp at hai
      have e1 := HD.out hne
      subst e1
      have k0 := HA.out.below hbw (HB.out hne) i x hai
      have HI := Lib.hid hai
      have C := Lib.hid (HC.out x (List.mem_of_getElem? hai) wr hbw)
      clear hall hbw hai hne
      cases hok : p x with
      | true =>
        rw [hok] at C
        have OK := Lib.hid hok
        clear hok
        go_wp2_with (go_at_call 63; (with_reducible refine C.out.mono ?_); rintro e w' ⟨rfl, hb⟩; have HB' := Lib.hid hb; clear hb)
        go_roundw
        case rel =>
          refine ⟨i + 1, by omega, by go_num, fun j a hj hja => ?_, HW.out.trans (HB'.out.mono HW.out.size)⟩
          rcases Nat.lt_succ_iff_lt_or_eq.1 hj with h | rfl
          · exact H.out j a h hja
          · rw [HI.out] at hja; cases hja; exact OK.out
        case measure => simp [intOf]; omega
      | false =>
        rw [hok] at C
        have OK := Lib.hid hok
        clear hok
        go_wp2_with (go_at_call 63; (with_reducible refine C.out.mono ?_); rintro e w' ⟨rfl, hb⟩; have HB' := Lib.hid hb; clear hb)
        go_ret
        refine ⟨⟨_, rfl, ?_, by omega⟩, HW.out.trans (HB'.out.mono HW.out.size)⟩
        have h1 : xs.all p = false := by
          rw [List.all_eq_false]
          exact ⟨_, List.mem_of_getElem? HI.out, by rw [OK.out]; simp⟩
        rw [h1]; simp
    · obtain rfl : i = n := by omega
      have h1 : xs.all p = true := by
        rw [List.all_eq_true]
        intro a ha
        obtain ⟨j, hj⟩ := List.getElem?_of_mem ha
        have hjl : j < xs.length := (List.getElem?_eq_some_iff.1 hj).1
        exact hall j a (by rw [← HN.out]; exact hjl) hj
      have H1 := Lib.hid h1
      clear hall hbw h1
      go_wp2
      go_ret
      exact ⟨⟨-1, rfl, by rw [H1.out]; rfl, by omega⟩, HW.out⟩
set_option maxRecDepth 100000 in
set_option maxHeartbeats 800000 in
theorem containsI (ad : Option Addr) (b o bx cap n : Nat) (xs : List Int) (p : Int → Bool) (w : World) (hN : xs.length = n) (had : xs ≠ [] → ad = some ⟨b, o, none⟩) (hb : xs ≠ [] → b < w.heap.size) (hn : n ≤ 100000) (ha : IntsAt w b o xs) (hc : ClosI bx p xs w) :
    Calls Try.prog 62 #[.slice ad n cap, .func (.func 63) #[] #[.pointer (some ⟨bx, 0, none⟩)]] w fun e w' => e = .returned (.bool (!(xs.all p))) ∧ Below w.heap.size w w' := by
  have C := Lib.hid (indexI ad b o bx cap n xs p w hN had hb hn ha hc)
  clear had hb hn ha hc hN
  go_enter Try.func62, Try.ntmps62
  go_wp2_with (go_at_call 77; (with_reducible refine C.out.mono ?_); rintro e w' ⟨⟨r, rfl, hr, hr1⟩, hb⟩; have HB := Lib.hid hb; have HR := Lib.hid hr; clear hb hr)
  go_ret
  exact ⟨by rw [← HR.out]; rfl, HB.out⟩
set_option maxRecDepth 100000 in
set_option maxHeartbeats 800000 in
theorem allI (f : Nat) (pre post : Array Value) (ad : Option Addr) (b o cap n : Nat) (xs : List Int) (p : Int → Bool) (w : World) (hN : xs.length = n) (had : xs ≠ [] → ad = some ⟨b, o, none⟩) (hb : xs ≠ [] → b < w.heap.size) (hn : n ≤ 100000) (ha : IntsAt w b o xs)
    (hc : ∀ bx W, Below w.heap.size w W → Blk W bx #[.func (.func f) pre post] 77 → ClosI bx p xs W) :
    Calls Try.prog 38 #[.slice ad n cap, .func (.func f) pre post] w fun e w' => e = .returned (.bool (xs.all p)) ∧ Below w.heap.size w w' := by
  obtain ⟨b1, b2, b3⟩ := one_new w #[.func (.func f) pre post] 77
  have ha' : IntsAt (w.alloc (.cells #[.func (.func f) pre post] 77)) b o xs := by
    by_cases hne : xs = []
    · subst hne; intro i a h; simp at h
    · exact ha.below b2 (hb hne)
  have C := Lib.hid (containsI ad b o w.heap.size cap n xs p _ hN had (fun h => Nat.lt_of_lt_of_le (hb h) b2.size) hn ha' (hc _ _ b2 b1))
  have B2 := Lib.hid b2
  clear had hb hn ha ha' b1 b2 b3 hc hN
  go_enter Try.func38, Try.ntmps38
  go_wp2_with (go_at_call 62; (with_reducible refine C.out.mono ?_); rintro e w' ⟨rfl, hb⟩; have HB := Lib.hid hb; clear hb)
  go_ret
  exact ⟨by simp, B2.out.trans (HB.out.mono B2.out.size)⟩
/-- the test's own answers -/
def PredB (f : Nat) (pre post : Array Value) (p : UInt8 → Bool) (xs : List UInt8) (w : World) : Prop := ∀ x, x ∈ xs → ∀ W, Below w.heap.size w W → Calls Try.prog f (pre ++ #[.int .u8 (x.toNat : Int)] ++ post) W fun e w' => e = .returned (.bool (p x)) ∧ Below W.heap.size W w'
def ClosB (bx : Nat) (p : UInt8 → Bool) (xs : List UInt8) (w : World) : Prop := ∀ x, x ∈ xs → ∀ W, Below w.heap.size w W → Calls Try.prog 76 #[.int .u8 (x.toNat : Int), .pointer (some ⟨bx, 0, none⟩)] W fun e w' => e = .returned (.bool (!p x)) ∧ Below W.heap.size W w'
set_option maxRecDepth 100000 in
set_option maxHeartbeats 800000 in
theorem indexB (ad : Option Addr) (b o bx cap n : Nat) (xs : List UInt8) (p : UInt8 → Bool) (w : World) (hN : xs.length = n) (had : xs ≠ [] → ad = some ⟨b, o, none⟩) (hb : xs ≠ [] → b < w.heap.size) (hn : n ≤ 100000) (ha : BytesAt w b o xs) (hc : ClosB bx p xs w) :
    Calls Try.prog 93 #[.slice ad n cap, .func (.func 76) #[] #[.pointer (some ⟨bx, 0, none⟩)]] w fun e w' => (∃ r : Int, e = .returned (.int .i64 r) ∧ decide (0 ≤ r) = !(xs.all p) ∧ -1 ≤ r) ∧ Below w.heap.size w w' := by
  have HC := Lib.hid hc
  have HA := Lib.hid ha
  have HD := Lib.hid had
  have HB := Lib.hid hb
  have HN := Lib.hid hN
  clear hc ha had hb hN
  go_enter Try.func93, Try.ntmps93
  go_wp2
  go_loopw [8] (fun x wr => ∃ i : Nat, i ≤ n ∧ x = .int .i64 (i : Int) ∧ (∀ j a, j < i → xs[j]? = some a → p a = true) ∧ Below w.heap.size w wr) (fun x _ => n - (intOf x).toNat)
  case atStart => exact ⟨0, by omega, rfl, fun j a h => by omega, Below.refl _ _⟩
  case round =>
    obtain ⟨i, hi, rfl, hall, hbw⟩ := hrel
    have H := Lib.hid hall
    have HW := Lib.hid hbw
    by_cases hlt : i < n
    · obtain ⟨x, hai⟩ : ∃ a, xs[i]? = some a := ⟨xs[i]'(by rw [HN.out]; exact hlt), by simp⟩
      have hne : xs ≠ [] := by rintro rfl; simp at hai
      have e1 := HD.out hne
      subst e1
      have k0 := HA.out.below hbw (HB.out hne) i x hai
      have HI := Lib.hid hai
      have C := Lib.hid (HC.out x (List.mem_of_getElem? hai) wr hbw)
      clear hall hbw hai hne
      cases hok : p x with
      | true =>
        rw [hok] at C
        have OK := Lib.hid hok
        clear hok
        go_wp2_with (go_at_call 76; (with_reducible refine C.out.mono ?_); rintro e w' ⟨rfl, hb⟩; have HB' := Lib.hid hb; clear hb)
        go_roundw
        case rel =>
          refine ⟨i + 1, by omega, by go_num, fun j a hj hja => ?_, HW.out.trans (HB'.out.mono HW.out.size)⟩
          rcases Nat.lt_succ_iff_lt_or_eq.1 hj with h | rfl
          · exact H.out j a h hja
          · rw [HI.out] at hja; cases hja; exact OK.out
        case measure => simp [intOf]; omega
      | false =>
        rw [hok] at C
        have OK := Lib.hid hok
        clear hok
        go_wp2_with (go_at_call 76; (with_reducible refine C.out.mono ?_); rintro e w' ⟨rfl, hb⟩; have HB' := Lib.hid hb; clear hb)
        go_ret
        refine ⟨⟨_, rfl, ?_, by omega⟩, HW.out.trans (HB'.out.mono HW.out.size)⟩
        have h1 : xs.all p = false := by
          rw [List.all_eq_false]
          exact ⟨_, List.mem_of_getElem? HI.out, by rw [OK.out]; simp⟩
        rw [h1]; simp
    · obtain rfl : i = n := by omega
      have h1 : xs.all p = true := by
        rw [List.all_eq_true]
        intro a ha
        obtain ⟨j, hj⟩ := List.getElem?_of_mem ha
        have hjl : j < xs.length := (List.getElem?_eq_some_iff.1 hj).1
        exact hall j a (by rw [← HN.out]; exact hjl) hj
      have H1 := Lib.hid h1
      clear hall hbw h1
      go_wp2
      go_ret
      exact ⟨⟨-1, rfl, by rw [H1.out]; rfl, by omega⟩, HW.out⟩
set_option maxRecDepth 100000 in
set_option maxHeartbeats 800000 in
theorem containsB (ad : Option Addr) (b o bx cap n : Nat) (xs : List UInt8) (p : UInt8 → Bool) (w : World) (hN : xs.length = n) (had : xs ≠ [] → ad = some ⟨b, o, none⟩) (hb : xs ≠ [] → b < w.heap.size) (hn : n ≤ 100000) (ha : BytesAt w b o xs) (hc : ClosB bx p xs w) :
    Calls Try.prog 75 #[.slice ad n cap, .func (.func 76) #[] #[.pointer (some ⟨bx, 0, none⟩)]] w fun e w' => e = .returned (.bool (!(xs.all p))) ∧ Below w.heap.size w w' := by
  have C := Lib.hid (indexB ad b o bx cap n xs p w hN had hb hn ha hc)
  clear had hb hn ha hc hN
  go_enter Try.func75, Try.ntmps75
  go_wp2_with (go_at_call 93; (with_reducible refine C.out.mono ?_); rintro e w' ⟨⟨r, rfl, hr, hr1⟩, hb⟩; have HB := Lib.hid hb; have HR := Lib.hid hr; clear hb hr)
  go_ret
  exact ⟨by rw [← HR.out]; rfl, HB.out⟩
set_option maxRecDepth 100000 in
set_option maxHeartbeats 800000 in
theorem allB (f : Nat) (pre post : Array Value) (ad : Option Addr) (b o cap n : Nat) (xs : List UInt8) (p : UInt8 → Bool) (w : World) (hN : xs.length = n) (had : xs ≠ [] → ad = some ⟨b, o, none⟩) (hb : xs ≠ [] → b < w.heap.size) (hn : n ≤ 100000) (ha : BytesAt w b o xs)
    (hc : ∀ bx W, Below w.heap.size w W → Blk W bx #[.func (.func f) pre post] 58 → ClosB bx p xs W) :
    Calls Try.prog 60 #[.slice ad n cap, .func (.func f) pre post] w fun e w' => e = .returned (.bool (xs.all p)) ∧ Below w.heap.size w w' := by
  obtain ⟨b1, b2, b3⟩ := one_new w #[.func (.func f) pre post] 58
  have ha' : BytesAt (w.alloc (.cells #[.func (.func f) pre post] 58)) b o xs := by
    by_cases hne : xs = []
    · subst hne; intro i a h; simp at h
    · exact ha.below b2 (hb hne)
  have C := Lib.hid (containsB ad b o w.heap.size cap n xs p _ hN had (fun h => Nat.lt_of_lt_of_le (hb h) b2.size) hn ha' (hc _ _ b2 b1))
  have B2 := Lib.hid b2
  clear had hb hn ha ha' b1 b2 b3 hc hN
  go_enter Try.func60, Try.ntmps60
  go_wp2_with (go_at_call 75; (with_reducible refine C.out.mono ?_); rintro e w' ⟨rfl, hb⟩; have HB := Lib.hid hb; clear hb)
  go_ret
  exact ⟨by simp, B2.out.trans (HB.out.mono B2.out.size)⟩
set_option maxRecDepth 100000 in
set_option maxHeartbeats 1000000 in
theorem clos_short  (x : ByteArray) (bx : Nat) (w : World) (hc : Blk w bx #[.func (.func 41) #[.int .i64 12] #[]] 73) {q : Bool} (hf : Calls Try.prog 41 #[.int .i64 12, .string x] w fun e w' => e = .returned (.bool q) ∧ Below w.heap.size w w') :
    Calls Try.prog 59 #[.string x, .pointer (some ⟨bx, 0, none⟩)] w fun e w' => e = .returned (.bool (!q)) ∧ Below w.heap.size w w' := by
  have h0 := hc.c1.1
  have HF := Lib.hid hf
  clear hc hf
  go_enter Try.func59, Try.ntmps59
  go_wp2_with (go_at_call 41; (with_reducible refine HF.out.mono ?_); rintro e w' ⟨rfl, hb⟩; have HB := Lib.hid hb; clear hb)
  go_ret
  exact ⟨rfl, HB.out⟩
set_option maxRecDepth 100000 in
set_option maxHeartbeats 1000000 in
theorem clos_spelt  (x : ByteArray) (bx : Nat) (w : World) (hc : Blk w bx #[.func (.func 42) #[] #[]] 73) {q : Bool} (hf : Calls Try.prog 42 #[.string x] w fun e w' => e = .returned (.bool q) ∧ Below w.heap.size w w') :
    Calls Try.prog 59 #[.string x, .pointer (some ⟨bx, 0, none⟩)] w fun e w' => e = .returned (.bool (!q)) ∧ Below w.heap.size w w' := by
  have h0 := hc.c1.1
  have HF := Lib.hid hf
  clear hc hf
  go_enter Try.func59, Try.ntmps59
  go_wp2_with (go_at_call 42; (with_reducible refine HF.out.mono ?_); rintro e w' ⟨rfl, hb⟩; have HB := Lib.hid hb; clear hb)
  go_ret
  exact ⟨rfl, HB.out⟩
set_option maxRecDepth 100000 in
set_option maxHeartbeats 1000000 in
theorem clos_even (a : Option Addr) (n c : Nat) (s : ByteArray) (al ot sk ss db : Int) (x : ByteArray) (bx : Nat) (w : World) (hc : Blk w bx #[.func (.func 37) #[rulesV a n c s al ot sk ss db] #[]] 73) {q : Bool} (hf : Calls Try.prog 37 #[rulesV a n c s al ot sk ss db, .string x] w fun e w' => e = .returned (.bool q) ∧ Below w.heap.size w w') :
    Calls Try.prog 59 #[.string x, .pointer (some ⟨bx, 0, none⟩)] w fun e w' => e = .returned (.bool (!q)) ∧ Below w.heap.size w w' := by
  have h0 := hc.c1.1
  have HF := Lib.hid hf
  clear hc hf
  go_enter Try.func59, Try.ntmps59
  go_wp2_with (go_at_call 37; (with_reducible refine HF.out.mono ?_); rintro e w' ⟨rfl, hb⟩; have HB := Lib.hid hb; clear hb)
  go_ret
  exact ⟨rfl, HB.out⟩
set_option maxRecDepth 100000 in
set_option maxHeartbeats 1000000 in
theorem clos_cost  (x : Int) (bx : Nat) (w : World) (hc : Blk w bx #[.func (.func 39) #[] #[]] 77) {q : Bool} (hf : Calls Try.prog 39 #[.int .i64 x] w fun e w' => e = .returned (.bool q) ∧ Below w.heap.size w w') :
    Calls Try.prog 63 #[.int .i64 x, .pointer (some ⟨bx, 0, none⟩)] w fun e w' => e = .returned (.bool (!q)) ∧ Below w.heap.size w w' := by
  have h0 := hc.c1.1
  have HF := Lib.hid hf
  clear hc hf
  go_enter Try.func63, Try.ntmps63
  go_wp2_with (go_at_call 39; (with_reducible refine HF.out.mono ?_); rintro e w' ⟨rfl, hb⟩; have HB := Lib.hid hb; clear hb)
  go_ret
  exact ⟨rfl, HB.out⟩
set_option maxRecDepth 100000 in
set_option maxHeartbeats 1000000 in
theorem clos_letter  (x : UInt8) (bx : Nat) (w : World) (hc : Blk w bx #[.func (.func 54) #[] #[]] 58) {q : Bool} (hf : Calls Try.prog 54 #[.int .u8 (x.toNat : Int)] w fun e w' => e = .returned (.bool q) ∧ Below w.heap.size w w') :
    Calls Try.prog 76 #[.int .u8 (x.toNat : Int), .pointer (some ⟨bx, 0, none⟩)] w fun e w' => e = .returned (.bool (!q)) ∧ Below w.heap.size w w' := by
  have h0 := hc.c1.1
  have HF := Lib.hid hf
  clear hc hf
  go_enter Try.func76, Try.ntmps76
  go_wp2_with (go_at_call 54; (with_reducible refine HF.out.mono ?_); rintro e w' ⟨rfl, hb⟩; have HB := Lib.hid hb; clear hb)
  go_ret
  exact ⟨rfl, HB.out⟩
set_option maxRecDepth 100000 in
set_option maxHeartbeats 1000000 in
theorem clos_soft (r1 r2 : Nat) (x : UInt8) (bx : Nat) (w : World) (hc : Blk w bx #[.func (.func 61) #[] #[.pointer (some ⟨r1, 0, none⟩), .pointer (some ⟨r2, 0, none⟩)]] 58) {q : Bool} (hf : Calls Try.prog 61 #[.int .u8 (x.toNat : Int), .pointer (some ⟨r1, 0, none⟩), .pointer (some ⟨r2, 0, none⟩)] w fun e w' => e = .returned (.bool q) ∧ Below w.heap.size w w') :
    Calls Try.prog 76 #[.int .u8 (x.toNat : Int), .pointer (some ⟨bx, 0, none⟩)] w fun e w' => e = .returned (.bool (!q)) ∧ Below w.heap.size w w' := by
  have h0 := hc.c1.1
  have HF := Lib.hid hf
  clear hc hf
  go_enter Try.func76, Try.ntmps76
  go_wp2_with (go_at_call 61; (with_reducible refine HF.out.mono ?_); rintro e w' ⟨rfl, hb⟩; have HB := Lib.hid hb; clear hb)
  go_ret
  exact ⟨rfl, HB.out⟩
end Go.Proofs.Ytkdflgaahhnigaa

namespace Go.Proofs.Ytkdflgaahhnigaa
open Go.RowKit Go.Shelf

theorem bytes_below (w : World) (e : TypeId) (s : ByteArray) : Below w.heap.size w (Lib.bytesWorld w e s) :=
  ⟨rfl, rfl, rfl, by rw [Lib.bytesWorld_size]; omega, fun k hk => Lib.bytesWorld_at_old w e s k hk⟩
theorem bytes_at (w : World) (e : TypeId) (s : ByteArray) : BytesAt (Lib.bytesWorld w e s) w.heap.size 0 s.data.toList := fun i x h => by
  have hi : i < s.data.toList.length := (List.getElem?_eq_some_iff.1 h).1
  have h2 := Lib.bytesWorld_cell w e s i (by simpa using hi)
  rw [Nat.zero_add, h2]
  rw [List.getD_eq_getElem?_getD, h]; rfl
def spB (s : ByteArray) : Bool := !s.data.toList.isEmpty && s.data.toList.all isL
theorem conv_rule (w : World) (s : ByteArray) : (convert 9 57 (.string s)).run Try.prog w = .ok (.slice (some ⟨w.heap.size, 0, none⟩) s.size (grownCap w s.size 0 5)) (Lib.bytesWorld w 5 s) := Lib.run_convert_string_bytes w 9 57 5 s Try.underlying9 Try.underlying57 Try.underlying5
set_option maxRecDepth 100000 in
set_option maxHeartbeats 800000 in
theorem spelt_any (s : ByteArray) (w : World) (hs : s.size ≤ 1000) : Calls Try.prog 42 #[.string s] w fun e w' => e = .returned (.bool (spB s)) ∧ Below w.heap.size w w' := by
  cases he : s.data.toList.isEmpty with
  | true =>
    have hv : spB s = false := by simp [spB, he]
    rw [hv]
    have h1 : s.toList = [] := by rw [ByteArray.toList_eq]; simpa using he
    clear he hv
    go_enter Try.func42, Try.ntmps42
    go_wp2
    go_ret
    exact ⟨rfl, Below.refl _ _⟩
  | false =>
    have h1 : ¬ s.toList = [] := by rw [ByteArray.toList_eq]; simpa using he
    have h1b := Lib.hid (show s.toList.isEmpty = false by rw [ByteArray.toList_eq]; exact he)
    have hv : spB s = s.data.toList.all isL := by simp [spB, he]
    rw [hv]
    have hkc := conv_rule
    have C := Lib.hid (fun c => allB 54 #[] #[] (some ⟨w.heap.size, 0, none⟩) w.heap.size 0 c s.size s.data.toList isL (Lib.bytesWorld w 5 s) (by simp) (fun _ => rfl) (fun _ => by rw [Lib.bytesWorld_size]; omega) (by omega) (bytes_at w 5 s)
      (fun bx W hW hb x hx W2 hW2 => clos_letter x bx W2 (hb.b hW2) ((letter_any x W2).mono fun e w' h => ⟨h.1, by rw [← h.2]; exact Below.refl _ _⟩)))
    have HB := Lib.hid (bytes_below w 5 s)
    generalize s.data.toList.all isL = v at *
    clear he hv
    go_enter Try.func42, Try.ntmps42
    go_wp2_with (go_at_call 60; (with_reducible refine (C.out _).mono ?_); rintro e w1 ⟨rfl, hb⟩; have HB1 := Lib.hid hb; clear hb)
    go_ret
    exact ⟨by simp [h1b.out], HB.out.trans (HB1.out.mono HB.out.size)⟩
set_option maxRecDepth 100000 in
set_option maxHeartbeats 1000000 in
theorem even1_any (a : Option Addr) (n c : Nat) (s : ByteArray) (al ot sk ss db : Int) (cl : ByteArray) (r1 r2 : Nat) (x : UInt8) (w : World) (hc : 0 < cl.size) (h1 : Blk w r1 (rulesC a n c s al ot sk ss db) 27) (h2 : Blk w r2 #[.string cl] 9) :
    Calls Try.prog 61 #[.int .u8 (x.toNat : Int), .pointer (some ⟨r1, 0, none⟩), .pointer (some ⟨r2, 0, none⟩)] w fun e w' => e = .returned (.bool (inS s x == inS s cl[0])) ∧ Below w.heap.size w w' := by
  have C := Lib.hid (fun x w => soft_any a n c s al ot sk ss db x w)
  have l1 := h1.lt
  have l2 := h2.lt
  have H1 := Lib.hid h1
  have H2 := Lib.hid h2
  have ht : (Value.bool (inS s x == inS s cl[0])) = .bool (inS s x == inS s cl[0]) := rfl
  clear h1 h2 ht
  go_enter Try.func61, Try.ntmps61
  go_wp2_with fail
  obtain ⟨BS, hBS⟩ : ∃ BS : List (Nat × Array Value × TypeId), BS = [] := ⟨_, rfl⟩
  have hS : KS w BS w := by rw [hBS]; exact KS.start w
  have D0 : ∀ W, KS w BS W → W.cell? ⟨r1, 0, none⟩ = some (.slice a n c) := fun W h => (h.bel.cell (p := ⟨r1, _, none⟩) l1).trans (H1.out.cell 0)
  have D1 : ∀ W, KS w BS W → W.cell? ⟨r1, 1, none⟩ = some (.string s) := fun W h => (h.bel.cell (p := ⟨r1, _, none⟩) l1).trans (H1.out.cell 1)
  have D2 : ∀ W, KS w BS W → W.cell? ⟨r1, 2, none⟩ = some (.int .i64 al) := fun W h => (h.bel.cell (p := ⟨r1, _, none⟩) l1).trans (H1.out.cell 2)
  have D3 : ∀ W, KS w BS W → W.cell? ⟨r1, 3, none⟩ = some (.int .i64 ot) := fun W h => (h.bel.cell (p := ⟨r1, _, none⟩) l1).trans (H1.out.cell 3)
  have D4 : ∀ W, KS w BS W → W.cell? ⟨r1, 4, none⟩ = some (.int .i64 sk) := fun W h => (h.bel.cell (p := ⟨r1, _, none⟩) l1).trans (H1.out.cell 4)
  have D5 : ∀ W, KS w BS W → W.cell? ⟨r1, 5, none⟩ = some (.int .i64 ss) := fun W h => (h.bel.cell (p := ⟨r1, _, none⟩) l1).trans (H1.out.cell 5)
  have D6 : ∀ W, KS w BS W → W.cell? ⟨r1, 6, none⟩ = some (.int .i64 db) := fun W h => (h.bel.cell (p := ⟨r1, _, none⟩) l1).trans (H1.out.cell 6)
  have D7 : ∀ W, KS w BS W → W.cell? ⟨r2, 0, none⟩ = some (.string cl) := fun W h => (h.bel.cell (p := ⟨r2, _, none⟩) l2).trans (H2.out.cell 0)
  have HBS := Lib.hid hBS
  clear hBS
  go_region_held3 (KS w BS)
    (first | assumption | exact KS.drew (by assumption) | exact KS.alloc (by assumption) _ | exact KS.drew (KS.alloc (by assumption) _) | exact KS.alloc (KS.drew (by assumption)) _ | go_keep)
    (first | (go_at_call 20; (with_reducible refine (C.out _ _).mono ?_); rintro e wn ⟨rfl, hb⟩; have hSn := KS.below (by first | assumption | exact KS.drew (by assumption)) hb; clear hb))
  all_goals
    go_wp2_with fail
    go_ret
    first | exact ⟨rfl, KS.bel (w := w) (bs := BS) (by assumption)⟩ | exact ⟨rfl, (KS.drew (w := w) (bs := BS) (by assumption)).bel⟩
def evB (s cl : ByteArray) : Bool := !cl.data.toList.isEmpty && cl.data.toList.all fun b => inS s b == inS s (cl.data.toList.headD 0)
theorem headD_get (cl : ByteArray) (h : 0 < cl.size) : cl.data.toList.headD 0 = cl[0] := by
  have e := getD_size cl 0 h
  rw [← e]
  cases cl.data.toList <;> rfl
set_option maxRecDepth 100000 in
set_option maxHeartbeats 1000000 in
theorem even_any (a : Option Addr) (n c : Nat) (s : ByteArray) (al ot sk ss db : Int) (cl : ByteArray) (w : World) (hs : cl.size ≤ 1000) : Calls Try.prog 37 #[rulesV a n c s al ot sk ss db, .string cl] w fun e w' => e = .returned (.bool (evB s cl)) ∧ Below w.heap.size w w' := by
  have hb2 := (two_new w (rulesC a n c s al ot sk ss db) #[.string cl] 27 9)
  cases he : cl.data.toList.isEmpty with
  | true =>
    have hv : evB s cl = false := by simp [evB, he]
    rw [hv]
    have h1 : cl.toList = [] := by rw [ByteArray.toList_eq]; simpa using he
    have B2 := Lib.hid hb2.2.2.1
    clear he hv hb2
    go_enter Try.func37, Try.ntmps37
    go_wp2
    go_ret
    exact ⟨rfl, B2.out⟩
  | false =>
    have h1 : ¬ cl.toList = [] := by rw [ByteArray.toList_eq]; simpa using he
    have h1b := Lib.hid (show cl.toList.isEmpty = false by rw [ByteArray.toList_eq]; exact he)
    have hpos : 0 < cl.size := by
      rcases Nat.eq_zero_or_pos cl.size with h | h
      · have : cl.data.toList = [] := List.eq_nil_of_length_eq_zero (by simpa using h)
        rw [this] at he; cases he
      · exact h
    have hv : evB s cl = cl.data.toList.all fun b => inS s b == inS s cl[0] := by simp only [evB, he, Bool.not_false, Bool.true_and]; rw [headD_get cl hpos]
    rw [hv]
    have hkc := conv_rule
    obtain ⟨g1, g2, g3, g4⟩ := hb2
    have HB := Lib.hid g3
    have G1 := Lib.hid g1
    have G2 := Lib.hid g2
    have hk := g2.c1.1
    clear g1 g2 g3 he hv
    have C := Lib.hid (fun cp => allB 61 #[] #[.pointer (some ⟨w.heap.size, 0, none⟩), .pointer (some ⟨w.heap.size + 1, 0, none⟩)] (some ⟨w.heap.size + 2, 0, none⟩) (w.heap.size + 2) 0 cp cl.size cl.data.toList (fun b => inS s b == inS s cl[0]) (Lib.bytesWorld ((w.alloc (.cells (rulesC a n c s al ot sk ss db) 27)).alloc (.cells #[.string cl] 9)) 5 cl) (by simp) (fun _ => rfl) (fun _ => by rw [Lib.bytesWorld_size, g4]; omega) (by omega) (by have := bytes_at ((w.alloc (.cells (rulesC a n c s al ot sk ss db) 27)).alloc (.cells #[.string cl] 9)) 5 cl; rw [g4] at this; exact this)
      (fun bx W hW hb x hx W2 hW2 => by
        have hA := (bytes_below ((w.alloc (.cells (rulesC a n c s al ot sk ss db) 27)).alloc (.cells #[.string cl] 9)) 5 cl).trans (hW.mono (by rw [Lib.bytesWorld_size]; omega))
        have hB := hA.trans (hW2.mono hA.size)
        exact clos_soft _ _ x bx W2 (hb.b hW2) (even1_any a n c s al ot sk ss db cl _ _ x W2 hpos (G1.out.below hB G1.out.lt) (G2.out.below hB G2.out.lt))))
    have HBB := Lib.hid (HB.out.trans ((bytes_below ((w.alloc (.cells (rulesC a n c s al ot sk ss db) 27)).alloc (.cells #[.string cl] 9)) 5 cl).mono (by simp; omega)))
    generalize (cl.data.toList.all fun b => inS s b == inS s cl[0]) = v at *
    clear g4 G1 G2
    go_enter Try.func37, Try.ntmps37
    go_wp2_with (go_at_call 60; (with_reducible refine (C.out _).mono ?_); rintro e w1 ⟨rfl, hb⟩; have HB1 := Lib.hid hb; clear hb)
    go_ret
    exact ⟨by simp [h1b.out], HBB.out.trans (HB1.out.mono HBB.out.size)⟩
end Go.Proofs.Ytkdflgaahhnigaa

namespace Go.Proofs.Ytkdflgaahhnigaa
open Go.RowKit Go.Shelf

/-- only letters, none of them twice -/
def distB (s : List UInt8) : Bool := s.all isL && decide s.Nodup
theorem distB_nil : distB [] = true := by simp [distB]
theorem distB_snoc (l : List UInt8) (x : UInt8) : distB (l ++ [x]) = (distB l && isL x && !decide (x ∈ l)) := by
  rw [Bool.eq_iff_iff]
  simp only [distB, List.all_append, List.all_cons, List.all_nil, Bool.and_true, Bool.and_eq_true, decide_eq_true_eq, Bool.not_eq_true', decide_eq_false_iff_not, List.nodup_append, List.nodup_cons, List.not_mem_nil, not_false_eq_true, List.nodup_nil, and_true, true_and, List.mem_singleton]
  constructor
  · rintro ⟨⟨h1, h2⟩, h3, h4⟩
    exact ⟨⟨⟨h1, h3⟩, h2⟩, fun h => h4 x h x rfl rfl⟩
  · rintro ⟨⟨⟨h1, h2⟩, h3⟩, h4⟩
    exact ⟨⟨h1, h3⟩, h2, fun a ha b hb e => h4 (by rw [← hb, ← e]; exact ha)⟩
theorem distB_pre {l t : List UInt8} (h : distB l = false) : distB (l ++ t) = false := by
  cases e : distB (l ++ t) with
  | false => rfl
  | true =>
    simp only [distB, List.all_append, Bool.and_eq_true, decide_eq_true_eq, List.nodup_append] at e
    have : distB l = true := by simp only [distB, Bool.and_eq_true, decide_eq_true_eq]; exact ⟨e.1.1, e.2.1⟩
    rw [this] at h; cases h
theorem distB_take {l : List UInt8} {i : Nat} (hi : i < l.length) (h : distB (l.take i ++ [l[i]]) = false) : distB l = false := by
  have e : l = (l.take i ++ [l[i]]) ++ l.drop (i + 1) := by simp
  rw [e]; exact distB_pre h
def coB (n : Int) : Bool := inB n 0 100
def cosB (R : RB) : Bool := [R.al, R.ot, R.sk, R.ss, R.db].all coB
def fl (R : RB) : List UInt8 := (R.cls.map (·.data.toList)).flatten
/-- rules that are valid but for the number of classes -/
def rulB (R : RB) : Bool := distB (fl R) && distB R.soft.data.toList && R.cls.all (evB R.soft) && cosB R
/-- the error of rules -/
def chk (R : RB) : Nat := if 8 < R.cls.length then 3 else if rulB R then 0 else 1
/-- the error of rules with names -/
def chkN (R : RB) (l : List ByteArray) : Nat :=
  if 8 < R.cls.length ∨ (l.all fun s => decide (s.size ≤ 12)) = false then 3 else if rulB R = false then 1 else if l.all spB then 0 else 4
/-- the classes are no longer than the laws let them be -/
def Thn (R : RB) : Prop := R.cls.length ≤ 1000 ∧ (∀ c, c ∈ R.cls → c.size ≤ 1000) ∧ R.soft.size ≤ 1000
end Go.Proofs.Ytkdflgaahhnigaa

namespace Go.Proofs.Ytkdflgaahhnigaa
open Go.RowKit Go.Shelf

theorem letterQ (b : UInt8) (w : World) : Calls Try.prog 54 #[.int .u8 (b.toNat : Int)] w fun e w' => e = .returned (.bool (isL b)) ∧ w' = w := (letter_any b w).mono fun _ _ h => ⟨h.1, h.2.symm⟩
theorem indexQ (s : ByteArray) (c : UInt8) (w : World) : Calls Try.prog 45 #[.string s, .int .u8 (c.toNat : Int)] w fun e w' => e = .returned (.int .i64 (Lib.indexByte s.data.toList c)) ∧ w' = w := (indexByte_any s c w).mono fun _ _ h => ⟨h.1, h.2.symm⟩
theorem extract_take (s : ByteArray) (i : Nat) : (s.extract 0 i).data.toList = s.data.toList.take i := by simp
set_option maxRecDepth 100000 in
set_option maxHeartbeats 2000000 in
theorem distinct_any (s : ByteArray) (w : World) (hs : s.size ≤ 100000) : Calls Try.prog 34 #[.string s] w fun e w' => e = .returned (.bool (distB s.data.toList)) ∧ Below w.heap.size w w' := by
  go_enter Try.func34, Try.ntmps34
  go_wp2
  go_loopw [6] (fun x wr => ∃ i : Nat, i ≤ s.size ∧ x = .int .i64 (i : Int) ∧ Hid (distB (s.data.toList.take i) = true) ∧ Hid (Below w.heap.size w wr)) (fun x _ => s.size - (intOf x).toNat)
  case atStart => exact ⟨0, Nat.zero_le _, rfl, by rw [List.take_zero]; exact distB_nil, Below.refl _ _⟩
  case round =>
    obtain ⟨i, hi, rfl, HD, HW⟩ := hrel
    by_cases hlt : i < s.size
    · have e0 : s.data.toList.length = s.size := by simp
      have hget : s.data.toList[i]'(by omega) = s[i] := rfl
      have hsn := distB_snoc (s.data.toList.take i) s[i]
      rw [HD.out, Bool.true_and] at hsn
      have htk : s.data.toList.take (i + 1) = s.data.toList.take i ++ [s[i]] := by rw [List.take_succ_eq_append_getElem (by omega)]; rfl
      have hidx := indexByte_in (s.data.toList.take i) s[i]
      have CI := Lib.hid (fun w => indexQ (s.extract 0 i) s[i] w)
      rw [extract_take] at CI
      have CL := Lib.hid (fun w => letterQ s[i] w)
      have HG := Lib.hid (Lib.indexByte_ge (s.data.toList.take i) s[i])
      have HS := Lib.hid hsn
      have HT := Lib.hid htk
      have HX := Lib.hid hidx
      have p1 : (i : Int) < (s.size : Int) := by omega
      have p2 : (0 : Int) ≤ (i : Int) := by omega
      have p3 : (i : Int) ≤ (s.size : Int) := by omega
      have hpre : distB (s.data.toList.take i ++ [s[i]]) = false → distB s.data.toList = false := fun h => distB_take (i := i) (by omega) h
      have HP := Lib.hid hpre
      clear hsn htk hidx hget e0 hpre
      cases hl : isL s[i] with
      | false =>
        rw [hl] at CL
        have HL := Lib.hid hl
        clear hl
        go_wp2_with fail
        go_quiet ((go_at_call 54; exact Calls.quiet_of_same (CL.out _)))
        go_wp2_with fail
        go_ret
        exact ⟨by rw [HP.out (by rw [HS.out, HL.out]; rfl)]; rfl, HW.out.drewN' _⟩
      | true =>
        rw [hl] at CL
        have HL := Lib.hid hl
        clear hl
        by_cases hr : 0 ≤ Lib.indexByte (s.data.toList.take i) s[i]
        · have hm : decide (s[i] ∈ s.data.toList.take i) = true := by rw [← HX.out]; simpa using hr
          have HM := Lib.hid hm
          clear hm
          generalize Lib.indexByte (s.data.toList.take i) s[i] = r at *
          have d1 : decide (0 ≤ r) = true := by simpa using hr
          go_wp2_with fail
          go_quiet (first | (go_at_call 54; exact Calls.quiet_of_same (CL.out _)) | (go_at_call 45; exact Calls.quiet_of_same (CI.out _)))
          go_wp2_with fail
          go_ret
          exact ⟨by rw [HP.out (by rw [HS.out, HL.out, HM.out]; rfl)]; rfl, HW.out.drewN' _⟩
        · have hm : decide (s[i] ∈ s.data.toList.take i) = false := by rw [← HX.out]; simpa using hr
          have HM := Lib.hid hm
          clear hm
          generalize Lib.indexByte (s.data.toList.take i) s[i] = r at *
          have d1 : decide (0 ≤ r) = false := by simpa using hr
          go_wp2_with fail
          go_quiet (first | (go_at_call 54; exact Calls.quiet_of_same (CL.out _)) | (go_at_call 45; exact Calls.quiet_of_same (CI.out _)))
          go_wp2_with fail
          go_roundw
          case rel => exact ⟨i + 1, by omega, by go_num, by rw [HT.out, HS.out, HL.out, HM.out]; rfl, HW.out.drewN' _⟩
          case measure => simp [intOf]; omega
    · obtain rfl : i = s.size := by omega
      have h1 : distB s.data.toList = true := by
        have h := HD.out
        rwa [List.take_of_length_le (by simp)] at h
      have H1 := Lib.hid h1
      clear h1
      go_wp2
      go_ret
      exact ⟨by rw [H1.out]; rfl, HW.out⟩
theorem join_flat : ∀ l : List (List UInt8), Lib.join l [] = l.flatten
  | [] => rfl
  | [x] => by rw [Lib.join_one]; simp
  | x :: y :: l => by
    have ih := join_flat (y :: l)
    unfold Lib.join at ih ⊢
    rw [List.flatten_cons, ← ih]
    simp [List.intercalate, List.intersperse]
theorem join_any (a : Option Addr) (g o c n : Nat) (xs : List ByteArray) (w : World) (hN : xs.length = n) (hk : SK w a g o xs) (hc : n ≤ c) (hn : n ≤ 1000) (hl : ((xs.map (·.data.toList)).flatten).length ≤ 100000) :
    Calls Try.prog 35 #[.slice a n c, .string ⟨#[]⟩] w fun e w' => e = .returned (.string ⟨((xs.map (·.data.toList)).flatten).toArray⟩) ∧ Below w.heap.size w w' := by
  subst hN
  by_cases hx : xs = []
  · subst hx
    refine (Try.strings_Join_none a c _ w).mono fun e w' h => ⟨h.1, ?_⟩
    rw [h.2]; exact Below.refl _ _
  · obtain ⟨h1, h2, h3⟩ := hk
    obtain rfl := h1 hx
    have h := Try.strings_Join g o c xs ⟨#[]⟩ w h2 (h3 hx) (by omega) hc (by rw [show (ByteArray.mk #[]).data.toList = [] from rfl, join_flat]; omega)
    rw [show (ByteArray.mk #[]).data.toList = [] from rfl, join_flat] at h
    exact h
theorem flat_le (R : RB) (h : R.cls.length ≤ 8) (hc : ∀ c, c ∈ R.cls → c.size ≤ 1000) : ((R.cls.map (·.data.toList)).flatten).length ≤ 8000 := by
  have : ∀ (l : List ByteArray), (∀ c, c ∈ l → c.size ≤ 1000) → ((l.map (·.data.toList)).flatten).length ≤ 1000 * l.length := by
    intro l
    induction l with
    | nil => intro _; simp
    | cons c l ih =>
      intro hc
      have h1 := hc c (List.mem_cons_self ..)
      have h2 := ih (fun d hd => hc d (List.mem_cons_of_mem _ hd))
      simp only [List.map_cons, List.flatten_cons, List.length_append, List.length_cons, Array.length_toList]
      have : c.data.size = c.size := rfl
      omega
  have := this R.cls hc
  omega
set_option maxRecDepth 100000 in
set_option maxHeartbeats 2000000 in
theorem chk_lim (a : Option Addr) (g o c n : Nat) (R : RB) (w : World) (hN : R.cls.length = n) (hk : SK w a g o R.cls) (hc : n ≤ c) (ht : Thn R) (h8 : 8 < n) :
    Calls Try.prog 14 #[rulesV a n c R.soft R.al R.ot R.sk R.ss R.db] w fun e w' => e = .returned (.int .i64 3) ∧ Below w.heap.size w w' := by
  have t8 : decide ((8 : Int) < (n : Int)) = true := by simp; omega
  clear hk ht hN
  have s0 := (KS.start w).new (rulesC a n c R.soft R.al R.ot R.sk R.ss R.db) 27
  obtain ⟨kb0_0, kb0_1, kb0_2, kb0_3, kb0_4, kb0_5, kb0_6⟩ := (s0.blkAt 0 rfl).c7
  have S0 := Lib.hid s0
  clear s0
  go_enter Try.func14, Try.ntmps14
  go_wp2_with fail
  go_ret
  exact ⟨rfl, S0.out.bel⟩
set_option maxRecDepth 100000 in
set_option maxHeartbeats 2000000 in
theorem chk_p1 (a : Option Addr) (g o c n : Nat) (R : RB) (w : World) (hN : R.cls.length = n) (hk : SK w a g o R.cls) (hc : n ≤ c) (ht : Thn R) (h8 : n ≤ 8) (h1 : distB (fl R) = false) :
    Calls Try.prog 14 #[rulesV a n c R.soft R.al R.ot R.sk R.ss R.db] w fun e w' => e = .returned (.int .i64 1) ∧ Below w.heap.size w w' := by
  have t8 : decide ((8 : Int) < (n : Int)) = false := by simp; omega
  have hfl : ((R.cls.map (·.data.toList)).flatten).length ≤ 8000 := flat_le R (by omega) ht.2.1
  have CJ := Lib.hid (fun W (h : Below w.heap.size w W) => join_any a g o c n R.cls W hN (hk.below h) hc (by omega) (by omega))
  have CD := Lib.hid (fun W => distinct_any ⟨((R.cls.map (·.data.toList)).flatten).toArray⟩ W (by show Array.size _ ≤ _; simp only [List.size_toArray]; omega))
  simp only [] at CD
  unfold fl at h1
  have CS := Lib.hid (fun W => distinct_any R.soft W (by have := ht.2.2; omega))
  have CE := Lib.hid (fun W (h : Below w.heap.size w W) => allS 37 #[rulesV a n c R.soft R.al R.ot R.sk R.ss R.db] #[] a g o c n R.cls (evB R.soft) W hN (hk.below h).1 (hk.below h).2.2 (by omega) (hk.below h).2.1
    (fun bx W1 hW hb x hx W2 hW2 => clos_even a n c R.soft R.al R.ot R.sk R.ss R.db x bx W2 (hb.b hW2) (even_any a n c R.soft R.al R.ot R.sk R.ss R.db x W2 (ht.2.1 x hx))))
  have CC := Lib.hid (fun W b (hb : Blk W b #[.int .i64 R.al, .int .i64 R.ot, .int .i64 R.sk, .int .i64 R.ss, .int .i64 R.db] 3) => allI 39 #[] #[] (some ⟨b, 0, none⟩) b 0 5 5 [R.al, R.ot, R.sk, R.ss, R.db] coB W rfl (fun _ => rfl) (fun _ => hb.lt) (by omega) (fun i x h => by
      match i, h with
      | 0, h => simp at h; subst h; exact hb.cell 0
      | 1, h => simp at h; subst h; exact hb.cell 1
      | 2, h => simp at h; subst h; exact hb.cell 2
      | 3, h => simp at h; subst h; exact hb.cell 3
      | 4, h => simp at h; subst h; exact hb.cell 4)
    (fun bx W1 hW hb x hx W2 hW2 => clos_cost x bx W2 (hb.b hW2) ((cost1_any x W2).mono fun e w' h => ⟨h.1, by rw [← h.2]; exact Below.refl _ _⟩)))
  rw [h1] at CD
  clear hfl hk ht hN h1
  have s0 := (KS.start w).new (rulesC a n c R.soft R.al R.ot R.sk R.ss R.db) 27
  obtain ⟨kb0_0, kb0_1, kb0_2, kb0_3, kb0_4, kb0_5, kb0_6⟩ := (s0.blkAt 0 rfl).c7
  have S0 := Lib.hid s0
  clear s0
  go_enter Try.func14, Try.ntmps14
  go_wp2_with fail
  refine (CJ.out _ S0.out.bel).mono ?_
  rintro e w1 ⟨rfl, h1⟩
  clear kb0_0 kb0_1 kb0_2 kb0_3 kb0_4 kb0_5 kb0_6
  have s1 := S0.out.below h1
  obtain ⟨kb0_0, kb0_1, kb0_2, kb0_3, kb0_4, kb0_5, kb0_6⟩ := (s1.blkAt 0 rfl).c7
  have S1 := Lib.hid s1
  clear h1 s1
  go_wp2_with fail
  refine (CD.out _).mono ?_
  rintro e w2 ⟨rfl, h2⟩
  clear kb0_0 kb0_1 kb0_2 kb0_3 kb0_4 kb0_5 kb0_6
  have s2 := S1.out.below h2
  obtain ⟨kb0_0, kb0_1, kb0_2, kb0_3, kb0_4, kb0_5, kb0_6⟩ := (s2.blkAt 0 rfl).c7
  have S2 := Lib.hid s2
  clear h2 s2
  go_wp2_with fail
  go_ret
  exact ⟨rfl, S2.out.bel⟩
set_option maxRecDepth 100000 in
set_option maxHeartbeats 2000000 in
theorem chk_p2 (a : Option Addr) (g o c n : Nat) (R : RB) (w : World) (hN : R.cls.length = n) (hk : SK w a g o R.cls) (hc : n ≤ c) (ht : Thn R) (h8 : n ≤ 8) (h1 : distB (fl R) = true) (h2 : distB R.soft.data.toList = false) :
    Calls Try.prog 14 #[rulesV a n c R.soft R.al R.ot R.sk R.ss R.db] w fun e w' => e = .returned (.int .i64 1) ∧ Below w.heap.size w w' := by
  have t8 : decide ((8 : Int) < (n : Int)) = false := by simp; omega
  have hfl : ((R.cls.map (·.data.toList)).flatten).length ≤ 8000 := flat_le R (by omega) ht.2.1
  have CJ := Lib.hid (fun W (h : Below w.heap.size w W) => join_any a g o c n R.cls W hN (hk.below h) hc (by omega) (by omega))
  have CD := Lib.hid (fun W => distinct_any ⟨((R.cls.map (·.data.toList)).flatten).toArray⟩ W (by show Array.size _ ≤ _; simp only [List.size_toArray]; omega))
  simp only [] at CD
  unfold fl at h1
  have CS := Lib.hid (fun W => distinct_any R.soft W (by have := ht.2.2; omega))
  have CE := Lib.hid (fun W (h : Below w.heap.size w W) => allS 37 #[rulesV a n c R.soft R.al R.ot R.sk R.ss R.db] #[] a g o c n R.cls (evB R.soft) W hN (hk.below h).1 (hk.below h).2.2 (by omega) (hk.below h).2.1
    (fun bx W1 hW hb x hx W2 hW2 => clos_even a n c R.soft R.al R.ot R.sk R.ss R.db x bx W2 (hb.b hW2) (even_any a n c R.soft R.al R.ot R.sk R.ss R.db x W2 (ht.2.1 x hx))))
  have CC := Lib.hid (fun W b (hb : Blk W b #[.int .i64 R.al, .int .i64 R.ot, .int .i64 R.sk, .int .i64 R.ss, .int .i64 R.db] 3) => allI 39 #[] #[] (some ⟨b, 0, none⟩) b 0 5 5 [R.al, R.ot, R.sk, R.ss, R.db] coB W rfl (fun _ => rfl) (fun _ => hb.lt) (by omega) (fun i x h => by
      match i, h with
      | 0, h => simp at h; subst h; exact hb.cell 0
      | 1, h => simp at h; subst h; exact hb.cell 1
      | 2, h => simp at h; subst h; exact hb.cell 2
      | 3, h => simp at h; subst h; exact hb.cell 3
      | 4, h => simp at h; subst h; exact hb.cell 4)
    (fun bx W1 hW hb x hx W2 hW2 => clos_cost x bx W2 (hb.b hW2) ((cost1_any x W2).mono fun e w' h => ⟨h.1, by rw [← h.2]; exact Below.refl _ _⟩)))
  rw [h1] at CD
  rw [h2] at CS
  clear hfl hk ht hN h1 h2
  have s0 := (KS.start w).new (rulesC a n c R.soft R.al R.ot R.sk R.ss R.db) 27
  obtain ⟨kb0_0, kb0_1, kb0_2, kb0_3, kb0_4, kb0_5, kb0_6⟩ := (s0.blkAt 0 rfl).c7
  have S0 := Lib.hid s0
  clear s0
  go_enter Try.func14, Try.ntmps14
  go_wp2_with fail
  refine (CJ.out _ S0.out.bel).mono ?_
  rintro e w1 ⟨rfl, h1⟩
  clear kb0_0 kb0_1 kb0_2 kb0_3 kb0_4 kb0_5 kb0_6
  have s1 := S0.out.below h1
  obtain ⟨kb0_0, kb0_1, kb0_2, kb0_3, kb0_4, kb0_5, kb0_6⟩ := (s1.blkAt 0 rfl).c7
  have S1 := Lib.hid s1
  clear h1 s1
  go_wp2_with fail
  refine (CD.out _).mono ?_
  rintro e w2 ⟨rfl, h2⟩
  clear kb0_0 kb0_1 kb0_2 kb0_3 kb0_4 kb0_5 kb0_6
  have s2 := S1.out.below h2
  obtain ⟨kb0_0, kb0_1, kb0_2, kb0_3, kb0_4, kb0_5, kb0_6⟩ := (s2.blkAt 0 rfl).c7
  have S2 := Lib.hid s2
  clear h2 s2
  go_wp2_with fail
  refine (CS.out _).mono ?_
  rintro e w3 ⟨rfl, h3⟩
  clear kb0_0 kb0_1 kb0_2 kb0_3 kb0_4 kb0_5 kb0_6
  have s3 := S2.out.below h3
  obtain ⟨kb0_0, kb0_1, kb0_2, kb0_3, kb0_4, kb0_5, kb0_6⟩ := (s3.blkAt 0 rfl).c7
  have S3 := Lib.hid s3
  clear h3 s3
  go_wp2_with fail
  go_ret
  exact ⟨rfl, S3.out.bel⟩
set_option maxRecDepth 100000 in
set_option maxHeartbeats 2000000 in
theorem chk_p3 (a : Option Addr) (g o c n : Nat) (R : RB) (w : World) (hN : R.cls.length = n) (hk : SK w a g o R.cls) (hc : n ≤ c) (ht : Thn R) (h8 : n ≤ 8) (h1 : distB (fl R) = true) (h2 : distB R.soft.data.toList = true) (h3 : R.cls.all (evB R.soft) = false) :
    Calls Try.prog 14 #[rulesV a n c R.soft R.al R.ot R.sk R.ss R.db] w fun e w' => e = .returned (.int .i64 1) ∧ Below w.heap.size w w' := by
  have t8 : decide ((8 : Int) < (n : Int)) = false := by simp; omega
  have hfl : ((R.cls.map (·.data.toList)).flatten).length ≤ 8000 := flat_le R (by omega) ht.2.1
  have CJ := Lib.hid (fun W (h : Below w.heap.size w W) => join_any a g o c n R.cls W hN (hk.below h) hc (by omega) (by omega))
  have CD := Lib.hid (fun W => distinct_any ⟨((R.cls.map (·.data.toList)).flatten).toArray⟩ W (by show Array.size _ ≤ _; simp only [List.size_toArray]; omega))
  simp only [] at CD
  unfold fl at h1
  have CS := Lib.hid (fun W => distinct_any R.soft W (by have := ht.2.2; omega))
  have CE := Lib.hid (fun W (h : Below w.heap.size w W) => allS 37 #[rulesV a n c R.soft R.al R.ot R.sk R.ss R.db] #[] a g o c n R.cls (evB R.soft) W hN (hk.below h).1 (hk.below h).2.2 (by omega) (hk.below h).2.1
    (fun bx W1 hW hb x hx W2 hW2 => clos_even a n c R.soft R.al R.ot R.sk R.ss R.db x bx W2 (hb.b hW2) (even_any a n c R.soft R.al R.ot R.sk R.ss R.db x W2 (ht.2.1 x hx))))
  have CC := Lib.hid (fun W b (hb : Blk W b #[.int .i64 R.al, .int .i64 R.ot, .int .i64 R.sk, .int .i64 R.ss, .int .i64 R.db] 3) => allI 39 #[] #[] (some ⟨b, 0, none⟩) b 0 5 5 [R.al, R.ot, R.sk, R.ss, R.db] coB W rfl (fun _ => rfl) (fun _ => hb.lt) (by omega) (fun i x h => by
      match i, h with
      | 0, h => simp at h; subst h; exact hb.cell 0
      | 1, h => simp at h; subst h; exact hb.cell 1
      | 2, h => simp at h; subst h; exact hb.cell 2
      | 3, h => simp at h; subst h; exact hb.cell 3
      | 4, h => simp at h; subst h; exact hb.cell 4)
    (fun bx W1 hW hb x hx W2 hW2 => clos_cost x bx W2 (hb.b hW2) ((cost1_any x W2).mono fun e w' h => ⟨h.1, by rw [← h.2]; exact Below.refl _ _⟩)))
  rw [h1] at CD
  rw [h2] at CS
  rw [h3] at CE
  clear hfl hk ht hN h1 h2 h3
  have s0 := (KS.start w).new (rulesC a n c R.soft R.al R.ot R.sk R.ss R.db) 27
  obtain ⟨kb0_0, kb0_1, kb0_2, kb0_3, kb0_4, kb0_5, kb0_6⟩ := (s0.blkAt 0 rfl).c7
  have S0 := Lib.hid s0
  clear s0
  go_enter Try.func14, Try.ntmps14
  go_wp2_with fail
  refine (CJ.out _ S0.out.bel).mono ?_
  rintro e w1 ⟨rfl, h1⟩
  clear kb0_0 kb0_1 kb0_2 kb0_3 kb0_4 kb0_5 kb0_6
  have s1 := S0.out.below h1
  obtain ⟨kb0_0, kb0_1, kb0_2, kb0_3, kb0_4, kb0_5, kb0_6⟩ := (s1.blkAt 0 rfl).c7
  have S1 := Lib.hid s1
  clear h1 s1
  go_wp2_with fail
  refine (CD.out _).mono ?_
  rintro e w2 ⟨rfl, h2⟩
  clear kb0_0 kb0_1 kb0_2 kb0_3 kb0_4 kb0_5 kb0_6
  have s2 := S1.out.below h2
  obtain ⟨kb0_0, kb0_1, kb0_2, kb0_3, kb0_4, kb0_5, kb0_6⟩ := (s2.blkAt 0 rfl).c7
  have S2 := Lib.hid s2
  clear h2 s2
  go_wp2_with fail
  refine (CS.out _).mono ?_
  rintro e w3 ⟨rfl, h3⟩
  clear kb0_0 kb0_1 kb0_2 kb0_3 kb0_4 kb0_5 kb0_6
  have s3 := S2.out.below h3
  obtain ⟨kb0_0, kb0_1, kb0_2, kb0_3, kb0_4, kb0_5, kb0_6⟩ := (s3.blkAt 0 rfl).c7
  have S3 := Lib.hid s3
  clear h3 s3
  go_wp2_with fail
  refine (CE.out _ S3.out.bel).mono ?_
  rintro e w4 ⟨rfl, h4⟩
  clear kb0_0 kb0_1 kb0_2 kb0_3 kb0_4 kb0_5 kb0_6
  have s4 := S3.out.below h4
  obtain ⟨kb0_0, kb0_1, kb0_2, kb0_3, kb0_4, kb0_5, kb0_6⟩ := (s4.blkAt 0 rfl).c7
  have S4 := Lib.hid s4
  clear h4 s4
  go_wp2_with fail
  go_ret
  exact ⟨rfl, S4.out.bel⟩
set_option maxRecDepth 100000 in
set_option maxHeartbeats 2000000 in
theorem chk_p4 (a : Option Addr) (g o c n : Nat) (R : RB) (w : World) (hN : R.cls.length = n) (hk : SK w a g o R.cls) (hc : n ≤ c) (ht : Thn R) (h8 : n ≤ 8) (h1 : distB (fl R) = true) (h2 : distB R.soft.data.toList = true) (h3 : R.cls.all (evB R.soft) = true) (h4 : cosB R = false) :
    Calls Try.prog 14 #[rulesV a n c R.soft R.al R.ot R.sk R.ss R.db] w fun e w' => e = .returned (.int .i64 1) ∧ Below w.heap.size w w' := by
  have t8 : decide ((8 : Int) < (n : Int)) = false := by simp; omega
  have hfl : ((R.cls.map (·.data.toList)).flatten).length ≤ 8000 := flat_le R (by omega) ht.2.1
  have CJ := Lib.hid (fun W (h : Below w.heap.size w W) => join_any a g o c n R.cls W hN (hk.below h) hc (by omega) (by omega))
  have CD := Lib.hid (fun W => distinct_any ⟨((R.cls.map (·.data.toList)).flatten).toArray⟩ W (by show Array.size _ ≤ _; simp only [List.size_toArray]; omega))
  simp only [] at CD
  unfold fl at h1
  have CS := Lib.hid (fun W => distinct_any R.soft W (by have := ht.2.2; omega))
  have CE := Lib.hid (fun W (h : Below w.heap.size w W) => allS 37 #[rulesV a n c R.soft R.al R.ot R.sk R.ss R.db] #[] a g o c n R.cls (evB R.soft) W hN (hk.below h).1 (hk.below h).2.2 (by omega) (hk.below h).2.1
    (fun bx W1 hW hb x hx W2 hW2 => clos_even a n c R.soft R.al R.ot R.sk R.ss R.db x bx W2 (hb.b hW2) (even_any a n c R.soft R.al R.ot R.sk R.ss R.db x W2 (ht.2.1 x hx))))
  have CC := Lib.hid (fun W b (hb : Blk W b #[.int .i64 R.al, .int .i64 R.ot, .int .i64 R.sk, .int .i64 R.ss, .int .i64 R.db] 3) => allI 39 #[] #[] (some ⟨b, 0, none⟩) b 0 5 5 [R.al, R.ot, R.sk, R.ss, R.db] coB W rfl (fun _ => rfl) (fun _ => hb.lt) (by omega) (fun i x h => by
      match i, h with
      | 0, h => simp at h; subst h; exact hb.cell 0
      | 1, h => simp at h; subst h; exact hb.cell 1
      | 2, h => simp at h; subst h; exact hb.cell 2
      | 3, h => simp at h; subst h; exact hb.cell 3
      | 4, h => simp at h; subst h; exact hb.cell 4)
    (fun bx W1 hW hb x hx W2 hW2 => clos_cost x bx W2 (hb.b hW2) ((cost1_any x W2).mono fun e w' h => ⟨h.1, by rw [← h.2]; exact Below.refl _ _⟩)))
  rw [h1] at CD
  rw [h2] at CS
  rw [h3] at CE
  rw [show [R.al, R.ot, R.sk, R.ss, R.db].all coB = cosB R from rfl] at CC
  rw [h4] at CC
  clear hfl hk ht hN h1 h2 h3 h4
  have s0 := (KS.start w).new (rulesC a n c R.soft R.al R.ot R.sk R.ss R.db) 27
  obtain ⟨kb0_0, kb0_1, kb0_2, kb0_3, kb0_4, kb0_5, kb0_6⟩ := (s0.blkAt 0 rfl).c7
  have S0 := Lib.hid s0
  clear s0
  go_enter Try.func14, Try.ntmps14
  go_wp2_with fail
  refine (CJ.out _ S0.out.bel).mono ?_
  rintro e w1 ⟨rfl, h1⟩
  clear kb0_0 kb0_1 kb0_2 kb0_3 kb0_4 kb0_5 kb0_6
  have s1 := S0.out.below h1
  obtain ⟨kb0_0, kb0_1, kb0_2, kb0_3, kb0_4, kb0_5, kb0_6⟩ := (s1.blkAt 0 rfl).c7
  have S1 := Lib.hid s1
  clear h1 s1
  go_wp2_with fail
  refine (CD.out _).mono ?_
  rintro e w2 ⟨rfl, h2⟩
  clear kb0_0 kb0_1 kb0_2 kb0_3 kb0_4 kb0_5 kb0_6
  have s2 := S1.out.below h2
  obtain ⟨kb0_0, kb0_1, kb0_2, kb0_3, kb0_4, kb0_5, kb0_6⟩ := (s2.blkAt 0 rfl).c7
  have S2 := Lib.hid s2
  clear h2 s2
  go_wp2_with fail
  refine (CS.out _).mono ?_
  rintro e w3 ⟨rfl, h3⟩
  clear kb0_0 kb0_1 kb0_2 kb0_3 kb0_4 kb0_5 kb0_6
  have s3 := S2.out.below h3
  obtain ⟨kb0_0, kb0_1, kb0_2, kb0_3, kb0_4, kb0_5, kb0_6⟩ := (s3.blkAt 0 rfl).c7
  have S3 := Lib.hid s3
  clear h3 s3
  go_wp2_with fail
  refine (CE.out _ S3.out.bel).mono ?_
  rintro e w4 ⟨rfl, h4⟩
  clear kb0_0 kb0_1 kb0_2 kb0_3 kb0_4 kb0_5 kb0_6
  have s4 := S3.out.below h4
  obtain ⟨kb0_0, kb0_1, kb0_2, kb0_3, kb0_4, kb0_5, kb0_6⟩ := (s4.blkAt 0 rfl).c7
  have S4 := Lib.hid s4
  clear h4 s4
  go_wp2_with fail
  refine (CC.out _ _ (Blk.new _ _ _)).mono ?_
  rintro e w5 ⟨rfl, h5⟩
  clear kb0_0 kb0_1 kb0_2 kb0_3 kb0_4 kb0_5 kb0_6
  have s5 := (S4.out.alloc (.cells #[.int .i64 R.al, .int .i64 R.ot, .int .i64 R.sk, .int .i64 R.ss, .int .i64 R.db] 3)).below h5
  obtain ⟨kb0_0, kb0_1, kb0_2, kb0_3, kb0_4, kb0_5, kb0_6⟩ := (s5.blkAt 0 rfl).c7
  have S5 := Lib.hid s5
  clear h5 s5
  go_wp2_with fail
  go_ret
  exact ⟨rfl, S5.out.bel⟩
set_option maxRecDepth 100000 in
set_option maxHeartbeats 2000000 in
theorem chk_p5 (a : Option Addr) (g o c n : Nat) (R : RB) (w : World) (hN : R.cls.length = n) (hk : SK w a g o R.cls) (hc : n ≤ c) (ht : Thn R) (h8 : n ≤ 8) (h1 : distB (fl R) = true) (h2 : distB R.soft.data.toList = true) (h3 : R.cls.all (evB R.soft) = true) (h4 : cosB R = true) :
    Calls Try.prog 14 #[rulesV a n c R.soft R.al R.ot R.sk R.ss R.db] w fun e w' => e = .returned (.int .i64 0) ∧ Below w.heap.size w w' := by
  have t8 : decide ((8 : Int) < (n : Int)) = false := by simp; omega
  have hfl : ((R.cls.map (·.data.toList)).flatten).length ≤ 8000 := flat_le R (by omega) ht.2.1
  have CJ := Lib.hid (fun W (h : Below w.heap.size w W) => join_any a g o c n R.cls W hN (hk.below h) hc (by omega) (by omega))
  have CD := Lib.hid (fun W => distinct_any ⟨((R.cls.map (·.data.toList)).flatten).toArray⟩ W (by show Array.size _ ≤ _; simp only [List.size_toArray]; omega))
  simp only [] at CD
  unfold fl at h1
  have CS := Lib.hid (fun W => distinct_any R.soft W (by have := ht.2.2; omega))
  have CE := Lib.hid (fun W (h : Below w.heap.size w W) => allS 37 #[rulesV a n c R.soft R.al R.ot R.sk R.ss R.db] #[] a g o c n R.cls (evB R.soft) W hN (hk.below h).1 (hk.below h).2.2 (by omega) (hk.below h).2.1
    (fun bx W1 hW hb x hx W2 hW2 => clos_even a n c R.soft R.al R.ot R.sk R.ss R.db x bx W2 (hb.b hW2) (even_any a n c R.soft R.al R.ot R.sk R.ss R.db x W2 (ht.2.1 x hx))))
  have CC := Lib.hid (fun W b (hb : Blk W b #[.int .i64 R.al, .int .i64 R.ot, .int .i64 R.sk, .int .i64 R.ss, .int .i64 R.db] 3) => allI 39 #[] #[] (some ⟨b, 0, none⟩) b 0 5 5 [R.al, R.ot, R.sk, R.ss, R.db] coB W rfl (fun _ => rfl) (fun _ => hb.lt) (by omega) (fun i x h => by
      match i, h with
      | 0, h => simp at h; subst h; exact hb.cell 0
      | 1, h => simp at h; subst h; exact hb.cell 1
      | 2, h => simp at h; subst h; exact hb.cell 2
      | 3, h => simp at h; subst h; exact hb.cell 3
      | 4, h => simp at h; subst h; exact hb.cell 4)
    (fun bx W1 hW hb x hx W2 hW2 => clos_cost x bx W2 (hb.b hW2) ((cost1_any x W2).mono fun e w' h => ⟨h.1, by rw [← h.2]; exact Below.refl _ _⟩)))
  rw [h1] at CD
  rw [h2] at CS
  rw [h3] at CE
  rw [show [R.al, R.ot, R.sk, R.ss, R.db].all coB = cosB R from rfl] at CC
  rw [h4] at CC
  clear hfl hk ht hN h1 h2 h3 h4
  have s0 := (KS.start w).new (rulesC a n c R.soft R.al R.ot R.sk R.ss R.db) 27
  obtain ⟨kb0_0, kb0_1, kb0_2, kb0_3, kb0_4, kb0_5, kb0_6⟩ := (s0.blkAt 0 rfl).c7
  have S0 := Lib.hid s0
  clear s0
  go_enter Try.func14, Try.ntmps14
  go_wp2_with fail
  refine (CJ.out _ S0.out.bel).mono ?_
  rintro e w1 ⟨rfl, h1⟩
  clear kb0_0 kb0_1 kb0_2 kb0_3 kb0_4 kb0_5 kb0_6
  have s1 := S0.out.below h1
  obtain ⟨kb0_0, kb0_1, kb0_2, kb0_3, kb0_4, kb0_5, kb0_6⟩ := (s1.blkAt 0 rfl).c7
  have S1 := Lib.hid s1
  clear h1 s1
  go_wp2_with fail
  refine (CD.out _).mono ?_
  rintro e w2 ⟨rfl, h2⟩
  clear kb0_0 kb0_1 kb0_2 kb0_3 kb0_4 kb0_5 kb0_6
  have s2 := S1.out.below h2
  obtain ⟨kb0_0, kb0_1, kb0_2, kb0_3, kb0_4, kb0_5, kb0_6⟩ := (s2.blkAt 0 rfl).c7
  have S2 := Lib.hid s2
  clear h2 s2
  go_wp2_with fail
  refine (CS.out _).mono ?_
  rintro e w3 ⟨rfl, h3⟩
  clear kb0_0 kb0_1 kb0_2 kb0_3 kb0_4 kb0_5 kb0_6
  have s3 := S2.out.below h3
  obtain ⟨kb0_0, kb0_1, kb0_2, kb0_3, kb0_4, kb0_5, kb0_6⟩ := (s3.blkAt 0 rfl).c7
  have S3 := Lib.hid s3
  clear h3 s3
  go_wp2_with fail
  refine (CE.out _ S3.out.bel).mono ?_
  rintro e w4 ⟨rfl, h4⟩
  clear kb0_0 kb0_1 kb0_2 kb0_3 kb0_4 kb0_5 kb0_6
  have s4 := S3.out.below h4
  obtain ⟨kb0_0, kb0_1, kb0_2, kb0_3, kb0_4, kb0_5, kb0_6⟩ := (s4.blkAt 0 rfl).c7
  have S4 := Lib.hid s4
  clear h4 s4
  go_wp2_with fail
  refine (CC.out _ _ (Blk.new _ _ _)).mono ?_
  rintro e w5 ⟨rfl, h5⟩
  clear kb0_0 kb0_1 kb0_2 kb0_3 kb0_4 kb0_5 kb0_6
  have s5 := (S4.out.alloc (.cells #[.int .i64 R.al, .int .i64 R.ot, .int .i64 R.sk, .int .i64 R.ss, .int .i64 R.db] 3)).below h5
  obtain ⟨kb0_0, kb0_1, kb0_2, kb0_3, kb0_4, kb0_5, kb0_6⟩ := (s5.blkAt 0 rfl).c7
  have S5 := Lib.hid s5
  clear h5 s5
  go_wp2_with fail
  go_ret
  exact ⟨rfl, S5.out.bel⟩
theorem CheckRules_any (a : Option Addr) (g o c n : Nat) (R : RB) (w : World) (hN : R.cls.length = n) (hk : SK w a g o R.cls) (hc : n ≤ c) (ht : Thn R) : Calls Try.prog 14 #[rulesV a n c R.soft R.al R.ot R.sk R.ss R.db] w fun e w' => e = .returned (.int .i64 (chk R : Nat)) ∧ Below w.heap.size w w' := by
  by_cases h8 : 8 < n
  · rw [show chk R = 3 from if_pos (by omega)]; exact chk_lim a g o c n R w hN hk hc ht h8
  · have e : chk R = if rulB R then 0 else 1 := if_neg (by omega)
    rw [e]
    unfold rulB
    cases h1 : distB (fl R) with
    | false => exact chk_p1 a g o c n R w hN hk hc ht (by omega) h1
    | true =>
      cases h2 : distB R.soft.data.toList with
      | false => exact chk_p2 a g o c n R w hN hk hc ht (by omega) h1 h2
      | true =>
        cases h3 : R.cls.all (evB R.soft) with
        | false => exact chk_p3 a g o c n R w hN hk hc ht (by omega) h1 h2 h3
        | true =>
          cases h4 : cosB R with
          | false => exact chk_p4 a g o c n R w hN hk hc ht (by omega) h1 h2 h3 h4
          | true => exact chk_p5 a g o c n R w hN hk hc ht (by omega) h1 h2 h3 h4
end Go.Proofs.Ytkdflgaahhnigaa

namespace Go.Proofs.Ytkdflgaahhnigaa
open Go.RowKit Go.Shelf

set_option maxRecDepth 100000 in
set_option maxHeartbeats 2000000 in
theorem chn_lim (a : Option Addr) (g o c n : Nat) (R : RB) (w : World) (hN : R.cls.length = n) (hk : SK w a g o R.cls) (hc : n ≤ c) (ht : Thn R) (a2 : Option Addr) (g2 o2 c2 m : Nat) (l : List ByteArray) (hM : l.length = m) (hk2 : SK w a2 g2 o2 l) (hm : m ≤ 1000) (hl : ∀ x, x ∈ l → x.size ≤ 1000) (h8 : 8 < n) :
    Calls Try.prog 16 #[rulesV a n c R.soft R.al R.ot R.sk R.ss R.db, .slice a2 m c2] w fun e w' => e = .returned (.int .i64 3) ∧ Below w.heap.size w w' := by
  have t8 : decide ((8 : Int) < (n : Int)) = true := by simp; omega
  clear hk hk2 ht hN hM hl
  have s0 := (KS.start w).new (rulesC a n c R.soft R.al R.ot R.sk R.ss R.db) 27
  obtain ⟨kb0_0, kb0_1, kb0_2, kb0_3, kb0_4, kb0_5, kb0_6⟩ := (s0.blkAt 0 rfl).c7
  have S0 := Lib.hid s0
  clear s0
  go_enter Try.func16, Try.ntmps16
  go_wp2_with fail
  go_ret
  exact ⟨rfl, S0.out.bel⟩
set_option maxRecDepth 100000 in
set_option maxHeartbeats 2000000 in
theorem chn_p1 (a : Option Addr) (g o c n : Nat) (R : RB) (w : World) (hN : R.cls.length = n) (hk : SK w a g o R.cls) (hc : n ≤ c) (ht : Thn R) (a2 : Option Addr) (g2 o2 c2 m : Nat) (l : List ByteArray) (hM : l.length = m) (hk2 : SK w a2 g2 o2 l) (hm : m ≤ 1000) (hl : ∀ x, x ∈ l → x.size ≤ 1000) (h8 : n ≤ 8) (h1 : (l.all fun s => decide (s.size ≤ 12)) = false) :
    Calls Try.prog 16 #[rulesV a n c R.soft R.al R.ot R.sk R.ss R.db, .slice a2 m c2] w fun e w' => e = .returned (.int .i64 3) ∧ Below w.heap.size w w' := by
  have t8 : decide ((8 : Int) < (n : Int)) = false := by simp; omega
  have C1 := Lib.hid (fun W (h : Below w.heap.size w W) => allS 41 #[.int .i64 12] #[] a2 g2 o2 c2 m l (fun s => decide (s.size ≤ 12)) W hM (hk2.below h).1 (hk2.below h).2.2 (by omega) (hk2.below h).2.1
    (fun bx W1 hW hb x hx W2 hW2 => clos_short x bx W2 (hb.b hW2) ((short_any x W2).mono fun e w' h => ⟨h.1, by rw [← h.2]; exact Below.refl _ _⟩)))
  have C2 := Lib.hid (fun W (h : Below w.heap.size w W) => CheckRules_any a g o c n R W hN (hk.below h) hc ht)
  have C3 := Lib.hid (fun W (h : Below w.heap.size w W) => allS 42 #[] #[] a2 g2 o2 c2 m l spB W hM (hk2.below h).1 (hk2.below h).2.2 (by omega) (hk2.below h).2.1
    (fun bx W1 hW hb x hx W2 hW2 => clos_spelt x bx W2 (hb.b hW2) (spelt_any x W2 (hl x hx))))
  rw [h1] at C1
  clear hk hk2 ht hN hM hl h1
  have s0 := (KS.start w).new (rulesC a n c R.soft R.al R.ot R.sk R.ss R.db) 27
  obtain ⟨kb0_0, kb0_1, kb0_2, kb0_3, kb0_4, kb0_5, kb0_6⟩ := (s0.blkAt 0 rfl).c7
  have S0 := Lib.hid s0
  clear s0
  go_enter Try.func16, Try.ntmps16
  go_wp2_with fail
  refine (C1.out _ S0.out.bel).mono ?_
  rintro e w1 ⟨rfl, h1⟩
  clear kb0_0 kb0_1 kb0_2 kb0_3 kb0_4 kb0_5 kb0_6
  have s1 := S0.out.below h1
  obtain ⟨kb0_0, kb0_1, kb0_2, kb0_3, kb0_4, kb0_5, kb0_6⟩ := (s1.blkAt 0 rfl).c7
  have S1 := Lib.hid s1
  clear h1 s1
  go_wp2_with fail
  go_ret
  exact ⟨rfl, S1.out.bel⟩
set_option maxRecDepth 100000 in
set_option maxHeartbeats 2000000 in
theorem chn_p2 (a : Option Addr) (g o c n : Nat) (R : RB) (w : World) (hN : R.cls.length = n) (hk : SK w a g o R.cls) (hc : n ≤ c) (ht : Thn R) (a2 : Option Addr) (g2 o2 c2 m : Nat) (l : List ByteArray) (hM : l.length = m) (hk2 : SK w a2 g2 o2 l) (hm : m ≤ 1000) (hl : ∀ x, x ∈ l → x.size ≤ 1000) (h8 : n ≤ 8) (h1 : (l.all fun s => decide (s.size ≤ 12)) = true) (h2 : chk R = 1) :
    Calls Try.prog 16 #[rulesV a n c R.soft R.al R.ot R.sk R.ss R.db, .slice a2 m c2] w fun e w' => e = .returned (.int .i64 1) ∧ Below w.heap.size w w' := by
  have t8 : decide ((8 : Int) < (n : Int)) = false := by simp; omega
  have C1 := Lib.hid (fun W (h : Below w.heap.size w W) => allS 41 #[.int .i64 12] #[] a2 g2 o2 c2 m l (fun s => decide (s.size ≤ 12)) W hM (hk2.below h).1 (hk2.below h).2.2 (by omega) (hk2.below h).2.1
    (fun bx W1 hW hb x hx W2 hW2 => clos_short x bx W2 (hb.b hW2) ((short_any x W2).mono fun e w' h => ⟨h.1, by rw [← h.2]; exact Below.refl _ _⟩)))
  have C2 := Lib.hid (fun W (h : Below w.heap.size w W) => CheckRules_any a g o c n R W hN (hk.below h) hc ht)
  have C3 := Lib.hid (fun W (h : Below w.heap.size w W) => allS 42 #[] #[] a2 g2 o2 c2 m l spB W hM (hk2.below h).1 (hk2.below h).2.2 (by omega) (hk2.below h).2.1
    (fun bx W1 hW hb x hx W2 hW2 => clos_spelt x bx W2 (hb.b hW2) (spelt_any x W2 (hl x hx))))
  rw [h1] at C1
  rw [h2] at C2
  clear hk hk2 ht hN hM hl h1 h2
  have s0 := (KS.start w).new (rulesC a n c R.soft R.al R.ot R.sk R.ss R.db) 27
  obtain ⟨kb0_0, kb0_1, kb0_2, kb0_3, kb0_4, kb0_5, kb0_6⟩ := (s0.blkAt 0 rfl).c7
  have S0 := Lib.hid s0
  clear s0
  go_enter Try.func16, Try.ntmps16
  go_wp2_with fail
  refine (C1.out _ S0.out.bel).mono ?_
  rintro e w1 ⟨rfl, h1⟩
  clear kb0_0 kb0_1 kb0_2 kb0_3 kb0_4 kb0_5 kb0_6
  have s1 := S0.out.below h1
  obtain ⟨kb0_0, kb0_1, kb0_2, kb0_3, kb0_4, kb0_5, kb0_6⟩ := (s1.blkAt 0 rfl).c7
  have S1 := Lib.hid s1
  clear h1 s1
  go_wp2_with fail
  refine (C2.out _ S1.out.bel).mono ?_
  rintro e w2 ⟨rfl, h2⟩
  clear kb0_0 kb0_1 kb0_2 kb0_3 kb0_4 kb0_5 kb0_6
  have s2 := S1.out.below h2
  obtain ⟨kb0_0, kb0_1, kb0_2, kb0_3, kb0_4, kb0_5, kb0_6⟩ := (s2.blkAt 0 rfl).c7
  have S2 := Lib.hid s2
  clear h2 s2
  go_wp2_with fail
  go_ret
  exact ⟨rfl, S2.out.bel⟩
set_option maxRecDepth 100000 in
set_option maxHeartbeats 2000000 in
theorem chn_p3 (a : Option Addr) (g o c n : Nat) (R : RB) (w : World) (hN : R.cls.length = n) (hk : SK w a g o R.cls) (hc : n ≤ c) (ht : Thn R) (a2 : Option Addr) (g2 o2 c2 m : Nat) (l : List ByteArray) (hM : l.length = m) (hk2 : SK w a2 g2 o2 l) (hm : m ≤ 1000) (hl : ∀ x, x ∈ l → x.size ≤ 1000) (h8 : n ≤ 8) (h1 : (l.all fun s => decide (s.size ≤ 12)) = true) (h2 : chk R = 0) (h3 : l.all spB = false) :
    Calls Try.prog 16 #[rulesV a n c R.soft R.al R.ot R.sk R.ss R.db, .slice a2 m c2] w fun e w' => e = .returned (.int .i64 4) ∧ Below w.heap.size w w' := by
  have t8 : decide ((8 : Int) < (n : Int)) = false := by simp; omega
  have C1 := Lib.hid (fun W (h : Below w.heap.size w W) => allS 41 #[.int .i64 12] #[] a2 g2 o2 c2 m l (fun s => decide (s.size ≤ 12)) W hM (hk2.below h).1 (hk2.below h).2.2 (by omega) (hk2.below h).2.1
    (fun bx W1 hW hb x hx W2 hW2 => clos_short x bx W2 (hb.b hW2) ((short_any x W2).mono fun e w' h => ⟨h.1, by rw [← h.2]; exact Below.refl _ _⟩)))
  have C2 := Lib.hid (fun W (h : Below w.heap.size w W) => CheckRules_any a g o c n R W hN (hk.below h) hc ht)
  have C3 := Lib.hid (fun W (h : Below w.heap.size w W) => allS 42 #[] #[] a2 g2 o2 c2 m l spB W hM (hk2.below h).1 (hk2.below h).2.2 (by omega) (hk2.below h).2.1
    (fun bx W1 hW hb x hx W2 hW2 => clos_spelt x bx W2 (hb.b hW2) (spelt_any x W2 (hl x hx))))
  rw [h1] at C1
  rw [h2] at C2
  rw [h3] at C3
  clear hk hk2 ht hN hM hl h1 h2 h3
  have s0 := (KS.start w).new (rulesC a n c R.soft R.al R.ot R.sk R.ss R.db) 27
  obtain ⟨kb0_0, kb0_1, kb0_2, kb0_3, kb0_4, kb0_5, kb0_6⟩ := (s0.blkAt 0 rfl).c7
  have S0 := Lib.hid s0
  clear s0
  go_enter Try.func16, Try.ntmps16
  go_wp2_with fail
  refine (C1.out _ S0.out.bel).mono ?_
  rintro e w1 ⟨rfl, h1⟩
  clear kb0_0 kb0_1 kb0_2 kb0_3 kb0_4 kb0_5 kb0_6
  have s1 := S0.out.below h1
  obtain ⟨kb0_0, kb0_1, kb0_2, kb0_3, kb0_4, kb0_5, kb0_6⟩ := (s1.blkAt 0 rfl).c7
  have S1 := Lib.hid s1
  clear h1 s1
  go_wp2_with fail
  refine (C2.out _ S1.out.bel).mono ?_
  rintro e w2 ⟨rfl, h2⟩
  clear kb0_0 kb0_1 kb0_2 kb0_3 kb0_4 kb0_5 kb0_6
  have s2 := S1.out.below h2
  obtain ⟨kb0_0, kb0_1, kb0_2, kb0_3, kb0_4, kb0_5, kb0_6⟩ := (s2.blkAt 0 rfl).c7
  have S2 := Lib.hid s2
  clear h2 s2
  go_wp2_with fail
  refine (C3.out _ S2.out.bel).mono ?_
  rintro e w3 ⟨rfl, h3⟩
  clear kb0_0 kb0_1 kb0_2 kb0_3 kb0_4 kb0_5 kb0_6
  have s3 := S2.out.below h3
  obtain ⟨kb0_0, kb0_1, kb0_2, kb0_3, kb0_4, kb0_5, kb0_6⟩ := (s3.blkAt 0 rfl).c7
  have S3 := Lib.hid s3
  clear h3 s3
  go_wp2_with fail
  go_ret
  exact ⟨rfl, S3.out.bel⟩
set_option maxRecDepth 100000 in
set_option maxHeartbeats 2000000 in
theorem chn_p4 (a : Option Addr) (g o c n : Nat) (R : RB) (w : World) (hN : R.cls.length = n) (hk : SK w a g o R.cls) (hc : n ≤ c) (ht : Thn R) (a2 : Option Addr) (g2 o2 c2 m : Nat) (l : List ByteArray) (hM : l.length = m) (hk2 : SK w a2 g2 o2 l) (hm : m ≤ 1000) (hl : ∀ x, x ∈ l → x.size ≤ 1000) (h8 : n ≤ 8) (h1 : (l.all fun s => decide (s.size ≤ 12)) = true) (h2 : chk R = 0) (h3 : l.all spB = true) :
    Calls Try.prog 16 #[rulesV a n c R.soft R.al R.ot R.sk R.ss R.db, .slice a2 m c2] w fun e w' => e = .returned (.int .i64 0) ∧ Below w.heap.size w w' := by
  have t8 : decide ((8 : Int) < (n : Int)) = false := by simp; omega
  have C1 := Lib.hid (fun W (h : Below w.heap.size w W) => allS 41 #[.int .i64 12] #[] a2 g2 o2 c2 m l (fun s => decide (s.size ≤ 12)) W hM (hk2.below h).1 (hk2.below h).2.2 (by omega) (hk2.below h).2.1
    (fun bx W1 hW hb x hx W2 hW2 => clos_short x bx W2 (hb.b hW2) ((short_any x W2).mono fun e w' h => ⟨h.1, by rw [← h.2]; exact Below.refl _ _⟩)))
  have C2 := Lib.hid (fun W (h : Below w.heap.size w W) => CheckRules_any a g o c n R W hN (hk.below h) hc ht)
  have C3 := Lib.hid (fun W (h : Below w.heap.size w W) => allS 42 #[] #[] a2 g2 o2 c2 m l spB W hM (hk2.below h).1 (hk2.below h).2.2 (by omega) (hk2.below h).2.1
    (fun bx W1 hW hb x hx W2 hW2 => clos_spelt x bx W2 (hb.b hW2) (spelt_any x W2 (hl x hx))))
  rw [h1] at C1
  rw [h2] at C2
  rw [h3] at C3
  clear hk hk2 ht hN hM hl h1 h2 h3
  have s0 := (KS.start w).new (rulesC a n c R.soft R.al R.ot R.sk R.ss R.db) 27
  obtain ⟨kb0_0, kb0_1, kb0_2, kb0_3, kb0_4, kb0_5, kb0_6⟩ := (s0.blkAt 0 rfl).c7
  have S0 := Lib.hid s0
  clear s0
  go_enter Try.func16, Try.ntmps16
  go_wp2_with fail
  refine (C1.out _ S0.out.bel).mono ?_
  rintro e w1 ⟨rfl, h1⟩
  clear kb0_0 kb0_1 kb0_2 kb0_3 kb0_4 kb0_5 kb0_6
  have s1 := S0.out.below h1
  obtain ⟨kb0_0, kb0_1, kb0_2, kb0_3, kb0_4, kb0_5, kb0_6⟩ := (s1.blkAt 0 rfl).c7
  have S1 := Lib.hid s1
  clear h1 s1
  go_wp2_with fail
  refine (C2.out _ S1.out.bel).mono ?_
  rintro e w2 ⟨rfl, h2⟩
  clear kb0_0 kb0_1 kb0_2 kb0_3 kb0_4 kb0_5 kb0_6
  have s2 := S1.out.below h2
  obtain ⟨kb0_0, kb0_1, kb0_2, kb0_3, kb0_4, kb0_5, kb0_6⟩ := (s2.blkAt 0 rfl).c7
  have S2 := Lib.hid s2
  clear h2 s2
  go_wp2_with fail
  refine (C3.out _ S2.out.bel).mono ?_
  rintro e w3 ⟨rfl, h3⟩
  clear kb0_0 kb0_1 kb0_2 kb0_3 kb0_4 kb0_5 kb0_6
  have s3 := S2.out.below h3
  obtain ⟨kb0_0, kb0_1, kb0_2, kb0_3, kb0_4, kb0_5, kb0_6⟩ := (s3.blkAt 0 rfl).c7
  have S3 := Lib.hid s3
  clear h3 s3
  go_wp2_with fail
  go_ret
  exact ⟨rfl, S3.out.bel⟩
theorem check_any (a : Option Addr) (g o c n : Nat) (R : RB) (w : World) (hN : R.cls.length = n) (hk : SK w a g o R.cls) (hc : n ≤ c) (ht : Thn R) (a2 : Option Addr) (g2 o2 c2 m : Nat) (l : List ByteArray) (hM : l.length = m) (hk2 : SK w a2 g2 o2 l) (hm : m ≤ 1000) (hl : ∀ x, x ∈ l → x.size ≤ 1000) : Calls Try.prog 16 #[rulesV a n c R.soft R.al R.ot R.sk R.ss R.db, .slice a2 m c2] w fun e w' => e = .returned (.int .i64 (chkN R l : Nat)) ∧ Below w.heap.size w w' := by
  unfold chkN
  by_cases h8 : 8 < n
  · rw [if_pos (.inl (by omega))]; exact chn_lim a g o c n R w hN hk hc ht a2 g2 o2 c2 m l hM hk2 hm hl h8
  · cases h1 : (l.all fun s => decide (s.size ≤ 12)) with
    | false => rw [if_pos (.inr rfl)]; exact chn_p1 a g o c n R w hN hk hc ht a2 g2 o2 c2 m l hM hk2 hm hl (by omega) h1
    | true =>
      rw [if_neg (by intro h; rcases h with h | h; · omega
                     · cases h)]
      cases h2 : rulB R with
      | false => rw [if_pos rfl]; exact chn_p2 a g o c n R w hN hk hc ht a2 g2 o2 c2 m l hM hk2 hm hl (by omega) h1 (by unfold chk; rw [if_neg (by omega), h2]; rfl)
      | true =>
        have e : chk R = 0 := by unfold chk; rw [if_neg (by omega), h2]; rfl
        rw [if_neg (by simp)]
        cases h3 : l.all spB with
        | false => exact chn_p3 a g o c n R w hN hk hc ht a2 g2 o2 c2 m l hM hk2 hm hl (by omega) h1 e h3
        | true => exact chn_p4 a g o c n R w hN hk hc ht a2 g2 o2 c2 m l hM hk2 hm hl (by omega) h1 e h3
end Go.Proofs.Ytkdflgaahhnigaa
