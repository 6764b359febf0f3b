/- Texts of package name, for this seat. -/
import Derived.Test.YtkdflgaahhnigaaC15
import Derived.Test.YtkdflgaahhnigaaC17
set_option linter.unusedVariables false
set_option linter.unusedSimpArgs false
namespace Go.Proofs.Ytkdflgaahhnigaa
open Go.RowKit Go.Shelf

theorem step_append_none {P : Program} {w : World} {ops : Array Oper} {o : Oper} {a : Act} {K : Act → World → Prop} {Q : Exit → Act → World → Prop} {E : Prop} (hgd : o.guard = none) (s x : Operand) (t : TypeId)
    (ho : o.op = .call { callee := .builtin .append, args := #[s, x], argTypes := #[t, t] })
    (base : Nat) (e : TypeId) (i : TypeInfo) (size : Nat) (ht : P.underlying t = some (.slice e)) (hi : P.info? e = some i)
    (v : Value) (n : Nat) (xs : List Value) (hs : a.eval s = v) (hown : w.ownsRow base e size v n xs) (hx : a.eval x = .slice none 0 0)
    (h : K (a.put o.dst v) w) : if Region.wanted o (yielded ops a.tmps) = true then Oper.wp P o a w K Q else E := by
  have hw : Region.wanted o (yielded ops a.tmps) = true := by simp [Region.wanted, hgd]
  rw [if_pos hw]
  have hrun := run_append_owned_none (P := P) (w := w) base t o.type e i size ht hi v n xs hown
  unfold Oper.wp
  simp [execOp, ho, resolve, invoke, builtin, hs, hx, hrun, Result.andThen]
  exact h
theorem news_one {W : World} {nb : Nat} {x : Value} (h : W.cell? ⟨nb, 0, none⟩ = some x) : ∀ (j : Nat) (u : Value), ([x] : List Value)[j]? = some u → W.cell? ((⟨nb, 0, none⟩ : Addr).add j) = some u := fun j u hj => by
  have hj0 : j = 0 := by have := (List.getElem?_eq_some_iff.1 hj).1; simpa using this
  subst hj0
  simp at hj
  subst hj
  simpa [Addr.add] using h
end Go.Proofs.Ytkdflgaahhnigaa

namespace Go.Proofs.Ytkdflgaahhnigaa
open Go.RowKit Go.Shelf

def XR (W : World) (Bc : Nat) (v : Value) (l : List Nat) : Prop := W.ownsRow 0 3 1 v l.length (natsV l) ∧ ∀ j, v.ownBlock = some j → j < Bc
theorem XR.below {W W' : World} {Bc : Nat} {v : Value} {l : List Nat} (h : XR W Bc v l) (hb : Below W.heap.size W W') : XR W' Bc v l := ⟨row_below h.1 hb, h.2⟩
theorem XR.grown {W W' : World} {Bc : Nat} {v : Value} {l : List Nat} {row : Option Nat} (h : XR W Bc v l) (hg : W.grownBy W' row) (hr : ∀ r, row = some r → Bc ≤ r) : XR W' Bc v l := by
  refine ⟨h.1.kept hg ?_, h.2⟩
  cases e : v.ownBlock with
  | none => exact .inl rfl
  | some j => right; intro e2; have := h.2 j e; have := hr j e2.symm; omega
theorem XR.of {W : World} {B : Nat} {v : Value} {l : List Nat} {n : Nat} (h : W.ownsRow B 3 1 v n (natsV l)) (hn : n = l.length) : XR W W.heap.size v l := by
  subst hn
  exact ⟨h.mono (Nat.zero_le _), fun j e => (h.lt j e).2⟩
theorem ik_own {W : World} {B n : Nat} {v : Value} {l : List Nat} (h : W.ownsRow B 3 1 v n (natsV l)) : ∃ a g c, v = .slice a n c ∧ IK W a g 0 n (l.map fun (k : Nat) => (k : Int)) := by
  rcases Joins.ownsRow_forms h with ⟨rfl, rfl⟩ | ⟨g, c, rfl⟩
  · have hl : l = [] := List.eq_nil_of_length_eq_zero (by simpa [natsV] using h.1)
    subst hl
    exact ⟨none, 0, 0, rfl, rfl, fun h => absurd rfl h, fun i x e => by simp at e, fun h => absurd rfl h⟩
  · exact ⟨_, g, c, rfl, ik_of_row h⟩
/-- the numbers of the costs below k -/
def dD (c : Nat → Nat) (m k : Nat) : List Nat := (List.range k).flatMap fun v => (List.range m).filter fun i => c i == v
theorem dD_succ (c : Nat → Nat) (m k : Nat) : dD c m (k + 1) = dD c m k ++ (List.range m).filter fun i => c i == k := by
  unfold dD; rw [List.range_succ, List.flatMap_append]; simp
theorem fl_len (c : Nat → Nat) (j k : Nat) : ((List.range j).filter fun i => c i == k).length ≤ j := by
  have := List.length_filter_le (fun i => c i == k) (List.range j); simpa using this
theorem dD_len (c : Nat → Nat) (m : Nat) : ∀ k, (dD c m k).length ≤ k * m
  | 0 => by simp [dD]
  | k+1 => by
    have h := dD_len c m k
    have h2 := fl_len c m k
    rw [dD_succ, List.length_append, Nat.add_mul]; omega
theorem fl_snoc (c : Nat → Nat) (j k : Nat) : ((List.range (j + 1)).filter fun i => c i == k) = if c j = k then ((List.range j).filter fun i => c i == k) ++ [j] else (List.range j).filter fun i => c i == k := by
  rw [List.range_succ, List.filter_append]
  by_cases h : c j = k
  · rw [if_pos h]; simp [h]
  · rw [if_neg h]; simp [h]
theorem due_cap (c : Nat → Nat) (m L : Nat) (hL : 2400 ≤ L) (hc : ∀ i, i < m → c i ≤ 2400) : Nm.dueL c m L = Nm.dueL c m 2400 := by
  refine Nm.sorted_unique (fun x y h => Nm.lex_asymm h) _ _ (Nm.dueL_sorted c m (L + 1)) (Nm.dueL_sorted c m 2401) fun x => ?_
  have h1 := Nm.dueL_mem c m L x
  have h2 := Nm.dueL_mem c m 2400 x
  rw [h1, h2]
  exact ⟨fun h => ⟨h.1, hc x h.1⟩, fun h => ⟨h.1, by omega⟩⟩
theorem natsV_snoc (l : List Nat) (x : Nat) : natsV l ++ [.int .i64 (x : Int)] = natsV (l ++ [x]) := by simp [natsV]
end Go.Proofs.Ytkdflgaahhnigaa
