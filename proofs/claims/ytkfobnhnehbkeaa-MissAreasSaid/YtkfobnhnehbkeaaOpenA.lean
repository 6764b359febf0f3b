/- A slice of areas that came in, opened. -/
import Derived.Test.YtkfobnhnehbkeaaOpen
import Derived.Test.YtkfobnhnehbkeaaAll
set_option linter.unusedVariables false
set_option linter.unusedSimpArgs false
namespace Go.Proofs.Ytkfobnhnehbkeaa
open Go.RowKit Go.ChangeShapes Go.WideShapes Go.Deep
theorem add_at (b o n : Nat) : (⟨b, o, none⟩ : Addr).add n = ⟨b, o + n, none⟩ := by
  by_cases h : n = 0
  · subst h; simp [Addr.add]
  · simp [Addr.add, h]
def intC : Option Value → Int
  | some (.int _ n) => n
  | _ => 0
def areaRead (W : World) (b o i : Nat) : A4 := ⟨intC (W.cell? ⟨b, o + i * 4, none⟩), intC (W.cell? ⟨b, o + i * 4 + 1, none⟩), intC (W.cell? ⟨b, o + i * 4 + 2, none⟩), intC (W.cell? ⟨b, o + i * 4 + 3, none⟩)⟩
section
variable {H : Type} {enc : TypeId × Value → H} {w : World} {base : Nat} {spare : Nat → Bool} {held : Bool}
theorem row_of_areas {t : TypeId} {a : Option Addr} {len cap : Nat} {d : DataW H} {p : List MemPlace} (ht : Try.prog.underlying t = some (.slice 23)) (h : DataW.Trod enc Try.prog w base spare held t (.slice a len cap) d p) :
    ∃ (xs : List A4) (b o : Nat), Came w a len cap b o xs.length (fun W b o => AreasAt W b o xs) ∧ True := by
  obtain ⟨fuel, hf⟩ := h
  have hC : Try.prog.cellsOf 23 = 4 := by kernel_rfl
  rcases open_slice ht hf with ⟨hcs, _⟩ | ⟨x, l, c, m, n, D, Pl, hcs, _, hl, hm, hmm, _, hel⟩
  · simp [Value.cells] at hcs
    obtain ⟨rfl, rfl, rfl⟩ := hcs
    exact ⟨[], 0, 0, ⟨rfl, fun h => absurd rfl h, fun _ => rfl, fun h => absurd rfl h, fun i a h => by simp at h⟩, trivial⟩
  · simp [Value.cells] at hcs
    obtain ⟨rfl, rfl, rfl⟩ := hcs
    have hlm : len ≤ m := by rw [hmm]; split <;> omega
    by_cases h0 : len = 0
    · exact ⟨[], 0, 0, ⟨h0.symm, fun h => absurd rfl h, (fun h => by cases h), fun h => absurd rfl h, fun i a h => by simp at h⟩, trivial⟩
    · obtain ⟨b, o, sp⟩ := x
      have hcell : ∀ i j, i < len → j < 4 → ∃ n, w.cell? ((⟨b, o, sp⟩ : Addr).add (i * 4 + j)) = some (.int .i64 n) := by
        intro i j hi hj
        obtain ⟨cs', hc, ht'⟩ := hel i (by omega)
        rw [hC] at hc
        have key : ∀ fs : Array Field, Try.prog.underlying 23 = some (.struct fs) → oneCellFields Try.prog fs = true → ∀ f, fs[j]? = some f → f.type = 3 → ∃ n, w.cell? ((⟨b, o, sp⟩ : Addr).add (i * 4 + j)) = some (.int .i64 n) := by
          intro fs hfs hone f hj' hty
          obtain ⟨ys, n', _, _, _, hyl, hfld⟩ := DataW.trod_struct hfs ht'
          have hjl : j < fs.size := (Array.getElem?_eq_some_iff.1 hj').1
          obtain ⟨_, hcl, hat⟩ := World.cells?_some hc
          obtain ⟨ho, hk⟩ := hone_of hone j f hj'
          have h1 := hfld j f hj'
          rw [ho, hk, List.drop_eq_getElem_cons (by omega)] at h1
          have h2 := hat j (by omega)
          rw [hty, List.getElem?_eq_getElem (by omega : j < ys.length)] at h1
          obtain ⟨k, hk, _⟩ := DataW.trod_int Try.underlying3 h1
          simp only [List.take_succ_cons, List.take_zero, List.cons.injEq, and_true] at hk
          refine ⟨k, ?_⟩
          rw [← Go.Deep.add_add, h2, List.getElem?_eq_getElem (by omega), hk]
        match j, hj with
        | 0, _ => exact key _ Try.underlying23 (by kernel_rfl) _ rfl rfl
        | 1, _ => exact key _ Try.underlying23 (by kernel_rfl) _ rfl rfl
        | 2, _ => exact key _ Try.underlying23 (by kernel_rfl) _ rfl rfl
        | 3, _ => exact key _ Try.underlying23 (by kernel_rfl) _ rfl rfl
      obtain ⟨n0, hc0⟩ := hcell 0 0 (by omega) (by omega)
      have hsp : sp = none := by simpa [Addr.add] using World.cell?_spot hc0
      subst hsp
      have hlt := World.block_lt_of_cell? w _ hc0
      have hlen : ((List.range len).map (areaRead w b o)).length = len := by simp
      refine ⟨(List.range len).map (areaRead w b o), b, o, ⟨hlen, fun _ => rfl, (fun h => by cases h), fun _ => by simpa [Addr.add] using hlt, ?_⟩, trivial⟩
      intro i x hx
      have hi : i < len := by have := (List.getElem?_eq_some_iff.1 hx).1; simpa using this
      rw [List.getElem?_map, List.getElem?_range hi] at hx
      simp only [Option.map_some, Option.some.injEq] at hx
      subst hx
      obtain ⟨m0, q0⟩ := hcell i 0 hi (by omega)
      obtain ⟨m1, q1⟩ := hcell i 1 hi (by omega)
      obtain ⟨m2, q2⟩ := hcell i 2 hi (by omega)
      obtain ⟨m3, q3⟩ := hcell i 3 hi (by omega)
      rw [add_at, Nat.add_zero] at q0
      rw [add_at, ← Nat.add_assoc] at q1 q2 q3
      simp only [areaRead]
      rw [q0, q1, q2, q3]
      exact ⟨rfl, rfl, rfl, rfl⟩
theorem Came.areas {W : World} {a : Option Addr} {len cap b o : Nat} {xs : List A4} (h : Came W a len cap b o xs.length (fun W b o => AreasAt W b o xs)) : xs.length = len ∧ (xs ≠ [] → a = some ⟨b, o, none⟩) ∧ (a = none → cap = 0) ∧ (xs ≠ [] → b < W.heap.size) ∧ AreasAt W b o xs :=
  ⟨h.1, fun hne => h.2.1 (fun e => hne (List.eq_nil_of_length_eq_zero e)), h.2.2.1, fun hne => h.2.2.2.1 (fun e => hne (List.eq_nil_of_length_eq_zero e)), h.2.2.2.2⟩
end
end Go.Proofs.Ytkfobnhnehbkeaa
