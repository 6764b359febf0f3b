/- Slices that came in, opened: numbers; areas. -/
import Derived.Test.YtkfobnhnehbkeaaAllInt
import Derived.ProofKit
import Derived.ChangeSlices
import Derived.Deep.Slices
import Derived.Deep.Fields
import Derived.ChangeSame
import Derived.Deep.RegionHeld
namespace Go.Proofs.Ytkfobnhnehbkeaa
open Go.RowKit Go.ChangeShapes Go.WideShapes Go.Deep

/-- a slice that came in: xs are its elements -/
def Came (W : World) (a : Option Addr) (len cap b o : Nat) (n : Nat) (at_ : World → Nat → Nat → Prop) : Prop := n = len ∧ (n ≠ 0 → a = some ⟨b, o, none⟩) ∧ (a = none → cap = 0) ∧ (n ≠ 0 → b < W.heap.size) ∧ at_ W b o
section
variable {H : Type} {enc : TypeId × Value → H} {w : World} {base : Nat} {spare : Nat → Bool} {held : Bool}
theorem row_of_ints {t : TypeId} {a : Option Addr} {len cap : Nat} {d : DataW H} {p : List MemPlace} (ht : Try.prog.underlying t = some (.slice 3)) (h : DataW.Trod enc Try.prog w base spare held t (.slice a len cap) d p) :
    ∃ (xs : List Int) (b o : Nat), Came w a len cap b o xs.length (fun W b o => IntsAt W b o xs) ∧ ∀ x ∈ xs, (Lit.int .i64 x).wf = true := by
  obtain ⟨fuel, hf⟩ := h
  rcases open_ints ht Try.underlying3 (by kernel_rfl) hf with ⟨hcs, _⟩ | ⟨x, l, c, zs, hcs, _, hl, hm, hz, _, hcell, hwz⟩
  · simp [Value.cells] at hcs
    obtain ⟨rfl, rfl, rfl⟩ := hcs
    exact ⟨[], 0, 0, ⟨rfl, fun h => absurd rfl h, fun _ => rfl, fun h => absurd rfl h, fun i a h => by simp at h⟩, fun x h => by cases h⟩
  · simp [Value.cells] at hcs
    obtain ⟨rfl, rfl, rfl⟩ := hcs
    have hzl : len ≤ zs.length := by rw [hz]; split <;> omega
    have hlen : (zs.take len).length = len := by simp; omega
    by_cases h0 : len = 0
    · refine ⟨zs.take len, 0, 0, ⟨hlen, fun h => by rw [hlen] at h; exact absurd h0 h, (fun h => by cases h), fun h => by rw [hlen] at h; exact absurd h0 h, ?_⟩, fun x h => hwz x (List.mem_of_mem_take h)⟩
      intro i a h
      rw [h0] at h; simp at h
    · obtain ⟨b, o, sp⟩ := x
      have hc0 := hcell 0 (by omega)
      have hsp : sp = none := by simpa [Addr.add] using World.cell?_spot hc0
      subst hsp
      have hlt := World.block_lt_of_cell? w _ hc0
      refine ⟨zs.take len, b, o, ⟨hlen, fun _ => rfl, (fun h => by cases h), fun _ => by simpa [Addr.add] using hlt, ?_⟩, fun x h => hwz x (List.mem_of_mem_take h)⟩
      intro i a h
      have hi : i < len := by have := (List.getElem?_eq_some_iff.1 h).1; omega
      have h1 := hcell i (by omega)
      rw [List.getElem?_take, if_pos hi] at h
      rw [List.getD_eq_getElem?_getD, h] at h1
      by_cases hj : i = 0
      · subst hj; simpa [Addr.add] using h1
      · simpa [Addr.add, hj] using h1
theorem Came.ints {W : World} {a : Option Addr} {len cap b o : Nat} {xs : List Int} (h : Came W a len cap b o xs.length (fun W b o => IntsAt W b o xs)) : xs.length = len ∧ (xs ≠ [] → a = some ⟨b, o, none⟩) ∧ (a = none → cap = 0) ∧ (xs ≠ [] → b < W.heap.size) ∧ IntsAt W b o xs :=
  ⟨h.1, fun hne => h.2.1 (fun e => hne (List.eq_nil_of_length_eq_zero e)), h.2.2.1, fun hne => h.2.2.2.1 (fun e => hne (List.eq_nil_of_length_eq_zero e)), h.2.2.2.2⟩
end
end Go.Proofs.Ytkfobnhnehbkeaa
