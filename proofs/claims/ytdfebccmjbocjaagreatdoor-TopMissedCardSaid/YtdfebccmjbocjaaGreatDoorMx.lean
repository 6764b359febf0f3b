/- Plain mathematics of TopMissed: who was found, what a level of 0 excludes. -/
import Derived.Test.YtdfebccmjbocjaaGreatDoorMiG7
import Derived.Test.YtdfebccmjbocjaaGreatDoorMiG5
set_option linter.unusedVariables false
set_option linter.unusedSimpArgs false
namespace Mis
/-- how many of the first l were drawn -/
def fnd (l : Nat) (D : List Nat) : Nat := (D.filter fun x => decide (x < l)).length
theorem fnd_parts (l u : Nat) (p : Nat → Bool) : fnd l ((List.range (l + u)).filter p) ≤ l ∧ fnd l ((List.range (l + u)).filter p) ≤ ((List.range (l + u)).filter p).length ∧ ((List.range (l + u)).filter p).length ≤ fnd l ((List.range (l + u)).filter p) + u := by
  have e : List.range (l + u) = List.range l ++ (List.range u).map (l + ·) := List.range_add
  have h1 : ((List.range l).filter p).filter (fun x => decide (x < l)) = (List.range l).filter p := by
    rw [List.filter_eq_self]
    intro x hx
    simp only [List.mem_filter, List.mem_range] at hx
    exact decide_eq_true hx.1
  have h2 : (((List.range u).map (l + ·)).filter p).filter (fun x => decide (x < l)) = [] := by
    rw [List.filter_eq_nil_iff]
    intro x hx
    simp only [List.mem_filter, List.mem_map, List.mem_range] at hx
    obtain ⟨⟨y, _, rfl⟩, _⟩ := hx
    simp
  have h3 : ((List.range l).filter p).length ≤ l := by have := List.length_filter_le p (List.range l); simpa using this
  have h4 : (((List.range u).map (l + ·)).filter p).length ≤ u := by have := List.length_filter_le p ((List.range u).map (l + ·)); simpa using this
  unfold fnd
  rw [e, List.filter_append, List.filter_append, h1, h2, List.append_nil, List.length_append]
  omega
theorem fnd_drawn (l u : Nat) (lots : List Nat) (h : lots.length ≤ l + u) : fnd l (drawn (l + u) lots) ≤ l ∧ fnd l (drawn (l + u) lots) ≤ lots.length ∧ lots.length ≤ fnd l (drawn (l + u) lots) + u := by
  have hl := drawn_len (l + u) lots h
  have hp := fnd_parts l u (fun x => decide (x ∈ (dl (l + u) lots lots.length).2))
  change fnd l (drawn (l + u) lots) ≤ l ∧ fnd l (drawn (l + u) lots) ≤ (drawn (l + u) lots).length ∧ (drawn (l + u) lots).length ≤ fnd l (drawn (l + u) lots) + u at hp
  rw [hl] at hp
  exact hp
theorem fnd_snoc (l : Nat) (D : List Nat) (x : Nat) : fnd l (D ++ [x]) = fnd l D + (if x < l then 1 else 0) := by
  unfold fnd; rw [List.filter_append, List.length_append]
  by_cases h : x < l <;> simp [h]
theorem fnd_take_succ (l : Nat) (D : List Nat) (i : Nat) (h : i < D.length) : fnd l (D.take (i + 1)) = fnd l (D.take i) + (if D.getD i 0 < l then 1 else 0) := by
  rw [← fnd_snoc, List.getD_eq_getElem?_getD, List.take_add_one, List.getElem?_eq_getElem h]; rfl
theorem excl_zero (L S k u : Nat) : excl L S k 0 1 u = false := by
  unfold excl lower; simp
theorem sets_pos {l u s f : Nat} (h1 : f ≤ l) (h2 : s ≤ f + u) : 0 < sm (sets l u s) f 1 := by
  have e : sm (sets l u s) f 1 = ch l f * ch u (s - f) := by
    show 0 + sets l u s (f + 0) = _
    rw [Nat.zero_add, Nat.add_zero]; rfl
  rw [e]
  exact Nat.mul_pos (ch_pos l f h1) (ch_pos u (s - f) (by omega))
end Mis
namespace Go.Proofs.YtdfebccmjbocjaaGreatDoor.Mi
open Mis
theorem rangeOf_zero (l M s f : Nat) : rangeOf l M s f 0 1 = some (0, M) := by
  unfold rangeOf
  exact rng_eq (by rw [excl_zero]; rfl) (by rw [excl_zero]; rfl) (by omega) (by omega) (fun u hu _ => ⟨by omega, by omega⟩)
theorem rangeOf_in {l M s f n d : Nat} {r : Nat × Nat} (h : rangeOf l M s f n d = some r) : r.1 ≤ r.2 ∧ r.2 ≤ M := by
  obtain ⟨a, b⟩ := r
  have := rng_some _ _ _ _ h
  exact ⟨this.2.2.1, by omega⟩
end Go.Proofs.YtdfebccmjbocjaaGreatDoor.Mi
