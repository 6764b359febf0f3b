/- Lists of steps and of small numbers that came in, opened. -/
import Derived.Test.YtkdflgaahhnigaaGreatC12
import Derived.Test.YtkdflgaahhnigaaGreatC22
set_option linter.unusedVariables false
set_option linter.unusedSimpArgs false
namespace Go.Proofs.YtkdflgaahhnigaaGreat
open Go.RowKit Go.Shelf Go.Joins Go.ChangeShapes Go.WideShapes Go.Deep

theorem add_at (b o n : Nat) : (⟨b, o, none⟩ : Addr).add n = ⟨b, o + n, none⟩ := by
  by_cases h : n = 0
  · subst h; simp [Addr.add]
  · simp [Addr.add, h]
def intC : Option Value → Int
  | some (.int _ n) => n
  | _ => 0
section
variable {H : Type} {enc : TypeId × Value → H} {w : World} {base : Nat} {spare : Nat → Bool} {held : Bool}
theorem row_of_steps {a : Option Addr} {len cap : Nat} {d : DataW H} {p : List MemPlace} (h : DataW.Trod enc Tryz.prog w base spare held 73 (.slice a len cap) d p) :
    ∃ (g o : Nat) (l : List (Int × Int)), StK w a g o len l ∧ len ≤ cap := by
  obtain ⟨fuel, hf⟩ := h
  have hC : Tryz.prog.cellsOf 124 = 2 := by kernel_rfl
  rcases open_slice (e := 124) Tryz.underlying73 hf with ⟨hcs, _⟩ | ⟨x, l, c, m, n, D, Pl, hcs, _, hl, hm, hmm, _, hel⟩
  · simp [Value.cells] at hcs
    obtain ⟨rfl, rfl, rfl⟩ := hcs
    exact ⟨0, 0, [], ⟨rfl, fun h => absurd rfl h, fun i a h => by simp at h, fun h => absurd rfl h⟩, Nat.le_refl _⟩
  · simp [Value.cells] at hcs
    obtain ⟨rfl, rfl, rfl⟩ := hcs
    have hlm : len ≤ m := by rw [hmm]; split <;> omega
    by_cases h0 : len = 0
    · exact ⟨0, 0, [], ⟨h0.symm, fun h => absurd rfl h, fun i a h => by simp at h, fun h => absurd rfl h⟩, hl⟩
    · obtain ⟨b, o, sp⟩ := x
      have hcell : ∀ i j, i < len → j < 2 → ∃ n, w.cell? ((⟨b, o, sp⟩ : Addr).add (i * 2 + j)) = some (.int .i64 n) := by
        intro i j hi hj
        obtain ⟨cs', hc, ht'⟩ := hel i (by omega)
        rw [hC] at hc
        have key : ∀ fs : Array Field, Tryz.prog.underlying 124 = some (.struct fs) → oneCellFields Tryz.prog fs = true → ∀ f, fs[j]? = some f → f.type = 3 → ∃ n, w.cell? ((⟨b, o, sp⟩ : Addr).add (i * 2 + j)) = some (.int .i64 n) := by
          intro fs hfs hone f hj' hty
          obtain ⟨ys, n', _, _, _, hyl, hfld⟩ := DataW.trod_struct hfs ht'
          have hjl : j < fs.size := (Array.getElem?_eq_some_iff.1 hj').1
          obtain ⟨_, hcl, hat⟩ := World.cells?_some hc
          obtain ⟨ho, hk⟩ := hone_of hone j f hj'
          have h1 := hfld j f hj'
          rw [ho, hk, List.drop_eq_getElem_cons (by omega)] at h1
          have h2 := hat j (by omega)
          rw [hty, List.getElem?_eq_getElem (by omega : j < ys.length)] at h1
          obtain ⟨k, hk, _⟩ := DataW.trod_int Tryz.underlying3 h1
          simp only [List.take_succ_cons, List.take_zero, List.cons.injEq, and_true] at hk
          refine ⟨k, ?_⟩
          rw [← Go.Deep.add_add, h2, List.getElem?_eq_getElem (by omega), hk]
        match j, hj with
        | 0, _ => exact key _ Tryz.underlying124 (by kernel_rfl) _ rfl rfl
        | 1, _ => exact key _ Tryz.underlying124 (by kernel_rfl) _ rfl rfl
      obtain ⟨n0, hc0⟩ := hcell 0 0 (by omega) (by omega)
      have hsp : sp = none := by simpa [Addr.add] using World.cell?_spot hc0
      subst hsp
      have hlt := World.block_lt_of_cell? w _ hc0
      refine ⟨b, o, (List.range len).map fun i => (intC (w.cell? ⟨b, o + i * 2, none⟩), intC (w.cell? ⟨b, o + i * 2 + 1, none⟩)), ⟨by simp, fun _ => rfl, ?_, fun _ => by simpa [Addr.add] using hlt⟩, hl⟩
      intro i x hx
      have hi : i < len := by have := (List.getElem?_eq_some_iff.1 hx).1; simpa using this
      rw [List.getElem?_map, List.getElem?_range hi] at hx
      simp only [Option.map_some, Option.some.injEq] at hx
      subst hx
      obtain ⟨m0, q0⟩ := hcell i 0 hi (by omega)
      obtain ⟨m1, q1⟩ := hcell i 1 hi (by omega)
      rw [add_at, Nat.add_zero] at q0
      rw [add_at, ← Nat.add_assoc] at q1
      simp only []
      rw [q0, q1]
      exact ⟨rfl, rfl⟩
theorem row_of_u16s {a : Option Addr} {len cap : Nat} {d : DataW H} {p : List MemPlace} (h : DataW.Trod enc Tryz.prog w base spare held 82 (.slice a len cap) d p) :
    ∃ (g o : Nat) (l : List Nat), U16K w a g o len l ∧ len ≤ 9223372036854775807 := by
  obtain ⟨fuel, hf⟩ := h
  have hmx : maxLen ≤ 9223372036854775807 := by unfold maxLen; omega
  rcases open_slice (e := 69) Tryz.underlying82 hf with ⟨hcs, _⟩ | ⟨x, l, c, m, n, D, Pl, hcs, _, hl, hm, hmm, _, hel⟩
  · simp [Value.cells] at hcs
    obtain ⟨rfl, rfl, rfl⟩ := hcs
    exact ⟨0, 0, [], ⟨rfl, fun h => absurd rfl h, fun i a h => by simp at h, fun h => absurd rfl h, fun x h => by cases h⟩, by omega⟩
  · simp [Value.cells] at hcs
    obtain ⟨rfl, rfl, rfl⟩ := hcs
    have hlm : len ≤ m := by rw [hmm]; split <;> omega
    have hC : Tryz.prog.cellsOf 69 = 1 := by kernel_rfl
    by_cases h0 : len = 0
    · exact ⟨0, 0, [], ⟨h0.symm, fun h => absurd rfl h, fun i a h => by simp at h, fun h => absurd rfl h, fun x h => by cases h⟩, by omega⟩
    · obtain ⟨b, o, sp⟩ := x
      have hcell : ∀ i, i < len → ∃ n : Nat, n < 65536 ∧ w.cell? ((⟨b, o, sp⟩ : Addr).add i) = some (.int .u16 (n : Int)) := by
        intro i hi
        obtain ⟨cs', hc, ht'⟩ := hel i (by omega)
        rw [hC, Nat.mul_one] at hc
        obtain ⟨_, hcl, hat⟩ := World.cells?_some hc
        obtain ⟨k, hk, _, hw⟩ := DataW.trod_int Tryz.underlying69 ht'
        have h2 : IntKind.u16.min ≤ k ∧ k ≤ IntKind.u16.max := by simpa [Lit.wf] using hw
        have h3 : IntKind.u16.min = 0 := rfl
        have h4 : IntKind.u16.max = 65535 := rfl
        have h5 := hat 0 (by omega)
        rw [hk] at h5
        obtain ⟨k', rfl⟩ := Int.eq_ofNat_of_zero_le (by omega : 0 ≤ k)
        exact ⟨k', by omega, by simpa [Addr.add] using h5⟩
      obtain ⟨n0, _, hc0⟩ := hcell 0 (by omega)
      have hsp : sp = none := by simpa [Addr.add] using World.cell?_spot hc0
      subst hsp
      have hlt := World.block_lt_of_cell? w _ hc0
      refine ⟨b, o, (List.range len).map fun i => (intC (w.cell? ⟨b, o + i, none⟩)).toNat, ⟨by simp, fun _ => rfl, ?_, fun _ => by simpa [Addr.add] using hlt, ?_⟩, by omega⟩
      · intro i x hx
        have hi : i < len := by have := (List.getElem?_eq_some_iff.1 hx).1; simpa using this
        rw [List.getElem?_map, List.getElem?_range hi] at hx
        simp only [Option.map_some, Option.some.injEq] at hx
        subst hx
        obtain ⟨m0, _, q0⟩ := hcell i hi
        rw [add_at] at q0
        rw [q0]
        simp [intC]
      · intro x hx
        simp only [List.mem_map, List.mem_range] at hx
        obtain ⟨i, hi, rfl⟩ := hx
        obtain ⟨m0, hm0, q0⟩ := hcell i hi
        rw [add_at] at q0
        rw [q0]
        simpa [intC] using hm0
end
end Go.Proofs.YtkdflgaahhnigaaGreat
