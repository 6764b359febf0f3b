/- What came in, opened: words; the laid tables. -/
import Derived.Test.YtdfebccmjbocjaaGreatDoorTb
import Derived.Test.YtdfebccmjbocjaaGreatDoorRows
import Derived.ProofKit
import Derived.LaidMore
import Derived.LaidLaws
import Derived.LaidHandle
import Derived.MakeChecks
import Derived.OpenShut
import Derived.ShutString
import Derived.ChangeOld
import Derived.ChangeSlices
import Derived.Below
import Derived.Lib.SmallJoins
import Derived.Deep.Slices
import Derived.Deep.Fields
import Derived.ChangeSame
import Derived.Deep.RegionHeld
import Derived.Stop.Joined
set_option linter.unusedVariables false
set_option linter.unusedSimpArgs false
namespace Go.Proofs.YtdfebccmjbocjaaGreatDoor
open Go.RowKit Go.Shelf Go.Joins Go.ChangeShapes Go.WideShapes Go.Deep

theorem add_at (b o n : Nat) : (⟨b, o, none⟩ : Addr).add n = ⟨b, o + n, none⟩ := by
  by_cases h : n = 0
  · subst h; simp [Addr.add]
  · simp [Addr.add, h]
def intC : Option Value → Int
  | some (.int _ n) => n
  | _ => 0
section
variable {H : Type} {enc : TypeId × Value → H} {w : World} {base : Nat} {spare : Nat → Bool} {held : Bool}
theorem row_of_u16s {a : Option Addr} {len cap : Nat} {d : DataW H} {p : List MemPlace} (h : DataW.Trod enc Tryz.prog w base spare held 25 (.slice a len cap) d p) :
    ∃ (g o : Nat) (l : List Nat), U16K w a g o len l ∧ len ≤ 9223372036854775807 := by
  obtain ⟨fuel, hf⟩ := h
  have hmx : maxLen ≤ 9223372036854775807 := by unfold maxLen; omega
  rcases open_slice (e := 45) Tryz.underlying25 hf with ⟨hcs, _⟩ | ⟨x, l, c, m, n, D, Pl, hcs, _, hl, hm, hmm, _, hel⟩
  · simp [Value.cells] at hcs
    obtain ⟨rfl, rfl, rfl⟩ := hcs
    exact ⟨0, 0, [], ⟨rfl, fun h => absurd rfl h, fun i a h => by simp at h, fun h => absurd rfl h, fun x h => by cases h⟩, by omega⟩
  · simp [Value.cells] at hcs
    obtain ⟨rfl, rfl, rfl⟩ := hcs
    have hlm : len ≤ m := by rw [hmm]; split <;> omega
    have hC : Tryz.prog.cellsOf 45 = 1 := by kernel_rfl
    by_cases h0 : len = 0
    · exact ⟨0, 0, [], ⟨h0.symm, fun h => absurd rfl h, fun i a h => by simp at h, fun h => absurd rfl h, fun x h => by cases h⟩, by omega⟩
    · obtain ⟨b, o, sp⟩ := x
      have hcell : ∀ i, i < len → ∃ n : Nat, n < 65536 ∧ w.cell? ((⟨b, o, sp⟩ : Addr).add i) = some (.int .u16 (n : Int)) := by
        intro i hi
        obtain ⟨cs', hc, ht'⟩ := hel i (by omega)
        rw [hC, Nat.mul_one] at hc
        obtain ⟨_, hcl, hat⟩ := World.cells?_some hc
        obtain ⟨k, hk, _, hw⟩ := DataW.trod_int Tryz.underlying45 ht'
        have h2 : IntKind.u16.min ≤ k ∧ k ≤ IntKind.u16.max := by simpa [Lit.wf] using hw
        have h3 : IntKind.u16.min = 0 := rfl
        have h4 : IntKind.u16.max = 65535 := rfl
        have h5 := hat 0 (by omega)
        rw [hk] at h5
        obtain ⟨k', rfl⟩ := Int.eq_ofNat_of_zero_le (by omega : 0 ≤ k)
        exact ⟨k', by omega, by simpa [Addr.add] using h5⟩
      obtain ⟨n0, _, hc0⟩ := hcell 0 (by omega)
      have hsp : sp = none := by simpa [Addr.add] using World.cell?_spot hc0
      subst hsp
      have hlt := World.block_lt_of_cell? w _ hc0
      refine ⟨b, o, (List.range len).map fun i => (intC (w.cell? ⟨b, o + i, none⟩)).toNat, ⟨by simp, fun _ => rfl, ?_, fun _ => by simpa [Addr.add] using hlt, ?_⟩, by omega⟩
      · intro i x hx
        have hi : i < len := by have := (List.getElem?_eq_some_iff.1 hx).1; simpa using this
        rw [List.getElem?_map, List.getElem?_range hi] at hx
        simp only [Option.map_some, Option.some.injEq] at hx
        subst hx
        obtain ⟨m0, _, q0⟩ := hcell i hi
        rw [add_at] at q0
        rw [q0]
        simp [intC]
      · intro x hx
        simp only [List.mem_map, List.mem_range] at hx
        obtain ⟨i, hi, rfl⟩ := hx
        obtain ⟨m0, hm0, q0⟩ := hcell i hi
        rw [add_at] at q0
        rw [q0]
        simpa [intC] using hm0
end
/-! the laid tables -/
def laidL : List (String × DataW Unit) := [("math/bits.deBruijn32tab", Rows.laid_math_bits_deBruijn32tab), ("math/bits.deBruijn64tab", Rows.laid_math_bits_deBruijn64tab)]
theorem g32 : Tryz.prog.globalNamed "math/bits.deBruijn32tab" = some 0 := by kernel_rfl
theorem g64 : Tryz.prog.globalNamed "math/bits.deBruijn64tab" = some 1 := by kernel_rfl
theorem door_met (os : Os) (args : Array Value) : laidMetH Tryz.prog laidL ((World.doorLaid Tryz.prog 400 os).forCall (fun _ _ => 0) ⟨#[], args, []⟩).memory :=
  laidMetH_of_parts3 (fuel := 8) (laidMet_of_run' 8 (by kernel_rfl) (by kernel_rfl)) (by kernel_rfl) (by kernel_rfl)
theorem tab_of : (Rows.laid_math_bits_deBruijn64tab : DataW Unit) = .agg ((List.range 64).map fun j => .lit (.int .u8 (Lib.deBruijn64tab.getD j 0))) := by rfl
theorem t64 : (Tryz.prog.globals[1]?).map (·.type) = some 204 := by kernel_rfl
theorem gd_of_laid {W : World} (h : laidMetH Tryz.prog laidL W) : Gd W := by
  rw [MakeChecks.laidMetH_plain _ _ _ (by kernel_rfl)] at h
  obtain ⟨ps, ⟨a0, b0, cs0, f0, p0, q0, hg0, ht0, hv0, hd0, ⟨a1, b1, cs1, f1, p1, q1, hg1, ht1, hv1, hd1, _, _⟩, _⟩, _, _⟩ := h
  obtain rfl := Option.some.inj (g64.symm.trans hg1)
  obtain rfl := Option.some.inj (t64.symm.trans ht1)
  rw [tab_of] at hd1
  obtain ⟨xs, m1, rfl, hx1, hlen, hn3, hel⟩ := DataW.trod_array Tryz.underlying204 hd1
  have c5 : Tryz.prog.cellsOf 5 = 1 := by kernel_rfl
  have cT : Tryz.prog.cellsOf 204 = 64 := by kernel_rfl
  simp only [Prod.mk.injEq, DataW.agg.injEq] at hx1
  obtain ⟨hx1, -⟩ := hx1
  have key : ∀ j, j < 64 → W.cell? ⟨1, j, none⟩ = some (.int .u8 (Lib.deBruijn64tab.getD j 0)) := by
    intro j hj
    have h1 := hel j hj
    rw [c5, Nat.mul_one] at h1
    obtain ⟨x, hx⟩ : ∃ x, xs[j]? = some x := ⟨_, List.getElem?_eq_getElem (by omega)⟩
    rw [hx] at h1
    obtain ⟨k, e1, e2, _⟩ := DataW.trod_int Tryz.underlying5 h1
    have e3 : (xs.map (·.1))[j]? = some x.1 := by rw [List.getElem?_map, hx]; rfl
    rw [← hx1, List.getElem?_map, List.getElem?_range hj] at e3
    simp only [Option.map_some, Option.some.injEq] at e3
    have e4 : k = (Lib.deBruijn64tab.getD j 0 : Nat) := by
      rw [e2] at e3
      simpa using e3.symm
    subst e4
    have h2 := World.var?_cell hg1 hv1 j
    obtain ⟨l1⟩ := cs1
    rw [h2]
    have hl : j < l1.length := by
      cases hd : l1.drop j with
      | nil => simp [hd] at e1
      | cons a b => have := congrArg List.length hd; simp at this; omega
    have e5 : (l1.drop j).take 1 = [l1[j]] := by rw [List.drop_eq_getElem_cons hl]; rfl
    simp only [] at e1
    rw [e5] at e1
    simp only [List.cons.injEq, and_true] at e1
    simp [hl, e1]
  exact ⟨fun j hj => key j hj, by have := World.block_lt_of_cell? W ⟨1, 0, none⟩ (key 0 (by omega)); exact this⟩
end Go.Proofs.YtdfebccmjbocjaaGreatDoor
