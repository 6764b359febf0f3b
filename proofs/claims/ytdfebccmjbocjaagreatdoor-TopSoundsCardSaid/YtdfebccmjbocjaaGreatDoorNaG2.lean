/- Texts of this seat, merged. -/
import Derived.Test.YtdfebccmjbocjaaGreatDoorNaG1
import Derived.RangeFuncBox
import Derived.RangeFuncNested
import Derived.RangeFuncLeaves
import Derived.RangeFuncCalls
import Derived.Shelf.RegionOpen
import Derived.OwnWalkIn
import Derived.TacticsInMore
import Derived.LoopNIn
import Derived.LoopIn
import Derived.Maps.AppendAt
import Derived.OrdersIn
import Derived.OrdersHeld
import Derived.Deep.RegionHeld
import Derived.Lib.SlBytesRow
set_option linter.unusedVariables false
set_option linter.unusedSimpArgs false
namespace Nm
/-! two names: sw i j what it costs to replace, sa i and sb j what it costs to skip -/
section
variable (sw : Nat → Nat → Nat) (sa sb : Nat → Nat) (n m : Nat)
/-- the cost of the beginnings -/
def pf : Nat → Nat → Nat
  | 0, 0 => 0
  | 0, j+1 => pf 0 j + sb j
  | i+1, 0 => pf i 0 + sa i
  | i+1, j+1 => min (pf i j + sw i j) (min (pf i (j+1) + sa i) (pf (i+1) j + sb j))
/-- the cost of the rests: a and b letters are left -/
def rs : Nat → Nat → Nat
  | 0, 0 => 0
  | 0, b+1 => sb (m-(b+1)) + rs 0 b
  | a+1, 0 => sa (n-(a+1)) + rs a 0
  | a+1, b+1 => min (min (sw (n-(a+1)) (m-(b+1)) + rs a b) (sa (n-(a+1)) + rs a (b+1))) (sb (m-(b+1)) + rs (a+1) b)
variable {sw sa sb n m}
theorem pf_sa (i j : Nat) : pf sw sa sb (i+1) j ≤ pf sw sa sb i j + sa i := by
  cases j with
  | zero => rw [pf]; exact Nat.le_refl _
  | succ j => rw [pf]; exact Nat.le_trans (Nat.min_le_right _ _) (Nat.min_le_left _ _)
theorem pf_sb (i j : Nat) : pf sw sa sb i (j+1) ≤ pf sw sa sb i j + sb j := by
  cases i with
  | zero => rw [pf]; exact Nat.le_refl _
  | succ i => rw [pf]; exact Nat.le_trans (Nat.min_le_right _ _) (Nat.min_le_right _ _)
theorem pf_sw (i j : Nat) : pf sw sa sb (i+1) (j+1) ≤ pf sw sa sb i j + sw i j := by
  rw [pf]; exact Nat.min_le_left _ _
/-- whatever rest is taken, the whole is no cheaper than the beginnings' cost -/
theorem pf_le_rs : ∀ a b, a ≤ n → b ≤ m → pf sw sa sb n m ≤ pf sw sa sb (n-a) (m-b) + rs sw sa sb n m a b
  | 0, 0, _, _ => by simp [rs]
  | 0, b+1, ha, hb => by
    have ih := pf_le_rs 0 b ha (by omega)
    have h := pf_sb (sw := sw) (sa := sa) (sb := sb) (n-0) (m-(b+1))
    rw [show m - (b+1) + 1 = m - b by omega] at h
    rw [rs]; omega
  | a+1, 0, ha, hb => by
    have ih := pf_le_rs a 0 (by omega) hb
    have h := pf_sa (sw := sw) (sa := sa) (sb := sb) (n-(a+1)) (m-0)
    rw [show n - (a+1) + 1 = n - a by omega] at h
    rw [rs]; omega
  | a+1, b+1, ha, hb => by
    have i1 := pf_le_rs a b (by omega) (by omega)
    have i2 := pf_le_rs a (b+1) (by omega) hb
    have i3 := pf_le_rs (a+1) b ha (by omega)
    have h1 := pf_sw (sw := sw) (sa := sa) (sb := sb) (n-(a+1)) (m-(b+1))
    have h2 := pf_sa (sw := sw) (sa := sa) (sb := sb) (n-(a+1)) (m-(b+1))
    have h3 := pf_sb (sw := sw) (sa := sa) (sb := sb) (n-(a+1)) (m-(b+1))
    rw [show m - (b+1) + 1 = m - b by omega] at h1 h3
    rw [show n - (a+1) + 1 = n - a by omega] at h1 h2
    rw [rs]; omega
theorem rs_sa (a b : Nat) : rs sw sa sb n m (a+1) b ≤ sa (n-(a+1)) + rs sw sa sb n m a b := by
  cases b with
  | zero => rw [rs]; exact Nat.le_refl _
  | succ b => rw [rs]; omega
theorem rs_sb (a b : Nat) : rs sw sa sb n m a (b+1) ≤ sb (m-(b+1)) + rs sw sa sb n m a b := by
  cases a with
  | zero => rw [rs]; exact Nat.le_refl _
  | succ b => rw [rs]; omega
theorem rs_sw (a b : Nat) : rs sw sa sb n m (a+1) (b+1) ≤ sw (n-(a+1)) (m-(b+1)) + rs sw sa sb n m a b := by rw [rs]; omega
theorem rs_le_pf : ∀ i j, i ≤ n → j ≤ m → rs sw sa sb n m n m ≤ pf sw sa sb i j + rs sw sa sb n m (n-i) (m-j)
  | 0, 0, _, _ => by simp
  | 0, j+1, hi, hj => by
    have ih := rs_le_pf 0 j hi (by omega)
    have h := rs_sb (sw := sw) (sa := sa) (sb := sb) (n := n) (m := m) (n-0) (m-(j+1))
    rw [show m - (j+1) + 1 = m - j by omega, show m - (m-j) = j by omega] at h
    rw [pf]; omega
  | i+1, 0, hi, hj => by
    have ih := rs_le_pf i 0 (by omega) hj
    have h := rs_sa (sw := sw) (sa := sa) (sb := sb) (n := n) (m := m) (n-(i+1)) (m-0)
    rw [show n - (i+1) + 1 = n - i by omega, show n - (n-i) = i by omega] at h
    rw [pf]; omega
  | i+1, j+1, hi, hj => by
    have i1 := rs_le_pf i j (by omega) (by omega)
    have i2 := rs_le_pf i (j+1) (by omega) hj
    have i3 := rs_le_pf (i+1) j hi (by omega)
    have h1 := rs_sw (sw := sw) (sa := sa) (sb := sb) (n := n) (m := m) (n-(i+1)) (m-(j+1))
    have h2 := rs_sa (sw := sw) (sa := sa) (sb := sb) (n := n) (m := m) (n-(i+1)) (m-(j+1))
    have h3 := rs_sb (sw := sw) (sa := sa) (sb := sb) (n := n) (m := m) (n-(i+1)) (m-(j+1))
    rw [show m - (j+1) + 1 = m - j by omega, show m - (m-j) = j by omega] at h1 h3
    rw [show n - (i+1) + 1 = n - i by omega, show n - (n-i) = i by omega] at h1 h2
    rw [pf]; omega
/-- THE COST FROM THE END IS THE COST FROM THE BEGINNING -/
theorem rs_eq_pf : rs sw sa sb n m n m = pf sw sa sb n m := by
  have h1 := pf_le_rs (sw := sw) (sa := sa) (sb := sb) (n := n) (m := m) n m (Nat.le_refl _) (Nat.le_refl _)
  have h2 := rs_le_pf (sw := sw) (sa := sa) (sb := sb) (n := n) (m := m) n m (Nat.le_refl _) (Nat.le_refl _)
  rw [Nat.sub_self, Nat.sub_self] at h1 h2
  rw [show pf sw sa sb 0 0 = 0 by rw [pf]] at h1
  rw [show rs sw sa sb n m 0 0 = 0 by rw [rs]] at h2
  omega
theorem rs_le (c : Nat) (h1 : ∀ i j, sw i j ≤ c) (h2 : ∀ i, sa i ≤ c) (h3 : ∀ i, sb i ≤ c) : ∀ a b, rs sw sa sb n m a b ≤ c * (a + b)
  | 0, 0 => by simp [rs]
  | 0, b+1 => by have := rs_le c h1 h2 h3 0 b; have := h3 (m-(b+1)); rw [rs, Nat.mul_add] at *; rw [Nat.mul_add]; omega
  | a+1, 0 => by have := rs_le c h1 h2 h3 a 0; have := h2 (n-(a+1)); rw [rs]; simp only [Nat.mul_add] at *; omega
  | a+1, b+1 => by have := rs_le c h1 h2 h3 a (b+1); have := h2 (n-(a+1)); rw [rs]; simp only [Nat.mul_add] at *; omega
end
/-- the order does not matter -/
theorem pf_swap (sw : Nat → Nat → Nat) (sa sb : Nat → Nat) : ∀ i j, pf sw sa sb i j = pf (fun j i => sw i j) sb sa j i
  | 0, 0 => by rw [pf, pf]
  | 0, j+1 => by rw [pf, pf, pf_swap sw sa sb 0 j]
  | i+1, 0 => by rw [pf, pf, pf_swap sw sa sb i 0]
  | i+1, j+1 => by rw [pf, pf, pf_swap sw sa sb i j, pf_swap sw sa sb i (j+1), pf_swap sw sa sb (i+1) j, Nat.min_comm (pf _ _ _ (j+1) i + _)]
/-- cheaper rules -/
theorem pf_mono {sw sw' : Nat → Nat → Nat} {sa sa' sb sb' : Nat → Nat} (h1 : ∀ i j, sw i j ≤ sw' i j) (h2 : ∀ i, sa i ≤ sa' i) (h3 : ∀ i, sb i ≤ sb' i) : ∀ i j, pf sw sa sb i j ≤ pf sw' sa' sb' i j
  | 0, 0 => by rw [pf, pf]; exact Nat.le_refl _
  | 0, j+1 => by rw [pf, pf]; exact Nat.add_le_add (pf_mono h1 h2 h3 0 j) (h3 _)
  | i+1, 0 => by rw [pf, pf]; exact Nat.add_le_add (pf_mono h1 h2 h3 i 0) (h2 _)
  | i+1, j+1 => by
    have e1 := pf_mono h1 h2 h3 i j
    have e2 := pf_mono h1 h2 h3 (i+1) j
    have e3 := pf_mono h1 h2 h3 i (j+1)
    have := h1 i j; have := h2 i; have := h3 j
    rw [pf, pf]; omega
/-- only what stands before counts -/
theorem pf_congr {sw sw' : Nat → Nat → Nat} {sa sa' sb sb' : Nat → Nat} : ∀ i j, (∀ x y, x < i → y < j → sw x y = sw' x y) → (∀ x, x < i → sa x = sa' x) → (∀ y, y < j → sb y = sb' y) → pf sw sa sb i j = pf sw' sa' sb' i j
  | 0, 0, _, _, _ => by rw [pf, pf]
  | 0, j+1, h1, h2, h3 => by rw [pf, pf, pf_congr 0 j (fun x y a b => h1 x y a (by omega)) h2 (fun y b => h3 y (by omega)), h3 j (by omega)]
  | i+1, 0, h1, h2, h3 => by rw [pf, pf, pf_congr i 0 (fun x y a b => h1 x y (by omega) b) (fun x a => h2 x (by omega)) h3, h2 i (by omega)]
  | i+1, j+1, h1, h2, h3 => by
    rw [pf, pf, pf_congr i j (fun x y a b => h1 x y (by omega) (by omega)) (fun x a => h2 x (by omega)) (fun y b => h3 y (by omega)),
      pf_congr (i+1) j (fun x y a b => h1 x y a (by omega)) h2 (fun y b => h3 y (by omega)),
      pf_congr i (j+1) (fun x y a b => h1 x y (by omega) b) (fun x a => h2 x (by omega)) h3, h1 i j (by omega) (by omega), h2 i (by omega), h3 j (by omega)]
/-- the letters one by one -/
theorem pf_diag (sw : Nat → Nat → Nat) (sa sb : Nat → Nat) (f : Nat → Nat) (h : ∀ i, sw i i ≤ f (i+1) - f i) (hf : ∀ i, f i ≤ f (i+1)) (h0 : f 0 = 0) : ∀ i, pf sw sa sb i i ≤ f i
  | 0 => by rw [pf]; omega
  | i+1 => by have := pf_diag sw sa sb f h hf h0 i; have := pf_sw (sw := sw) (sa := sa) (sb := sb) i i; have := h i; have := hf i; omega
end Nm
namespace Nm
/-! ## cells, steps, alignments -/
abbrev St := (Int × Int) × Nat
section
variable (sw : Nat → Nat → Nat) (sa sb : Nat → Nat) (n m : Nat)
/-- the steps from a cell -/
def stepsOf (i j : Nat) : List St :=
  (if i < n ∧ j < m then [(((i : Int), (j : Int)), sw i j)] else []) ++ ((if i < n then [(((i : Int), -1), sa i)] else []) ++ (if j < m then [((-1, (j : Int)), sb j)] else []))
def aft (c : Nat × Nat) (s : Int × Int) : Nat × Nat := (if s.1 = -1 then c.1 else c.1 + 1, if s.2 = -1 then c.2 else c.2 + 1)
/-- the cost from a cell on -/
def cs (i j : Nat) : Nat := rs sw sa sb n m (n - i) (m - j)
def minOf (l : List Nat) (x : Nat) : Nat := l.foldl min x
variable {sw sa sb n m}
theorem cs_end : cs sw sa sb n m n m = 0 := by simp [cs, rs]
theorem cs_both {i j : Nat} (h : i < n) (k : j < m) : cs sw sa sb n m i j = min (min (sw i j + cs sw sa sb n m (i+1) (j+1)) (sa i + cs sw sa sb n m (i+1) j)) (sb j + cs sw sa sb n m i (j+1)) := by
  obtain ⟨a, ha⟩ : ∃ a, n - i = a + 1 := ⟨n - i - 1, by omega⟩
  obtain ⟨b, hb⟩ : ∃ b, m - j = b + 1 := ⟨m - j - 1, by omega⟩
  unfold cs
  rw [ha, hb, show n - (i+1) = a by omega, show m - (j+1) = b by omega, rs, show n - (a+1) = i by omega, show m - (b+1) = j by omega]
theorem cs_first {i : Nat} (h : i < n) : cs sw sa sb n m i m = sa i + cs sw sa sb n m (i+1) m := by
  obtain ⟨a, ha⟩ : ∃ a, n - i = a + 1 := ⟨n - i - 1, by omega⟩
  unfold cs
  rw [ha, Nat.sub_self, show n - (i+1) = a by omega, rs, show n - (a+1) = i by omega]
theorem cs_second {j : Nat} (k : j < m) : cs sw sa sb n m n j = sb j + cs sw sa sb n m n (j+1) := by
  obtain ⟨b, hb⟩ : ∃ b, m - j = b + 1 := ⟨m - j - 1, by omega⟩
  unfold cs
  rw [hb, Nat.sub_self, show m - (j+1) = b by omega, rs, show m - (b+1) = j by omega]
/-- the minimum over the steps -/
theorem cs_steps {i j : Nat} (hi : i ≤ n) (hj : j ≤ m) (h : i < n ∨ j < m) (big : Nat) (hb : cs sw sa sb n m i j ≤ big) :
    (stepsOf sw sa sb n m i j).foldl (fun x s => min x (s.2 + cs sw sa sb n m (aft (i, j) s.1).1 (aft (i, j) s.1).2)) big = cs sw sa sb n m i j := by
  have e1 : ((i : Int) = -1) = False := by simp
  have e2 : ((j : Int) = -1) = False := by simp
  by_cases h1 : i < n
  · by_cases h2 : j < m
    · have e := cs_both (sw := sw) (sa := sa) (sb := sb) h1 h2
      simp only [stepsOf, h1, h2, and_self, if_true, List.cons_append, List.nil_append, List.foldl_cons, List.foldl_nil, aft, e1, e2, if_false]
      omega
    · obtain rfl : j = m := by omega
      have e := cs_first (sw := sw) (sa := sa) (sb := sb) (m := j) h1
      simp only [stepsOf, h1, h2, and_false, if_true, List.nil_append, List.foldl_cons, List.foldl_nil, aft, e1, if_false, List.append_nil]
      omega
  · obtain rfl : i = n := by omega
    have h2 : j < m := by omega
    have e := cs_second (sw := sw) (sa := sa) (sb := sb) (n := i) h2
    simp only [stepsOf, h1, h2, false_and, if_true, List.nil_append, List.foldl_cons, List.foldl_nil, aft, e2, if_false]
    omega
/-- some step has the minimum -/
theorem cs_some {i j : Nat} (hi : i ≤ n) (hj : j ≤ m) (h : i < n ∨ j < m) :
    ∃ s, s ∈ stepsOf sw sa sb n m i j ∧ s.2 + cs sw sa sb n m (aft (i, j) s.1).1 (aft (i, j) s.1).2 = cs sw sa sb n m i j := by
  have e1 : ((i : Int) = -1) = False := by simp
  have e2 : ((j : Int) = -1) = False := by simp
  by_cases h1 : i < n
  · by_cases h2 : j < m
    · have e := cs_both (sw := sw) (sa := sa) (sb := sb) h1 h2
      simp only [stepsOf, h1, h2, and_self, if_true, List.cons_append, List.nil_append, List.mem_cons, List.not_mem_nil, or_false]
      by_cases q1 : sw i j + cs sw sa sb n m (i+1) (j+1) = cs sw sa sb n m i j
      · exact ⟨_, .inl rfl, by simp only [aft, e1, e2, if_false]; exact q1⟩
      · by_cases q2 : sa i + cs sw sa sb n m (i+1) j = cs sw sa sb n m i j
        · exact ⟨_, .inr (.inl rfl), by simp only [aft, e1, if_false, if_true]; exact q2⟩
        · exact ⟨_, .inr (.inr rfl), by simp only [aft, e2, if_false, if_true]; omega⟩
    · obtain rfl : j = m := by omega
      have e := cs_first (sw := sw) (sa := sa) (sb := sb) (m := j) h1
      exact ⟨((i, -1), sa i), by simp [stepsOf, h1], by simp only [aft, e1, if_false, if_true]; exact e.symm⟩
  · obtain rfl : i = n := by omega
    have h2 : j < m := by omega
    have e := cs_second (sw := sw) (sa := sa) (sb := sb) (n := i) h2
    exact ⟨((-1, j), sb j), by simp [stepsOf, h2], by simp only [aft, e2, if_false, if_true]; exact e.symm⟩
theorem stepsOf_cases {i j : Nat} {s : St} (h : s ∈ stepsOf sw sa sb n m i j) :
    (s = (((i : Int), (j : Int)), sw i j) ∧ i < n ∧ j < m ∧ aft (i, j) s.1 = (i+1, j+1)) ∨ (s = (((i : Int), -1), sa i) ∧ i < n ∧ aft (i, j) s.1 = (i+1, j)) ∨ (s = ((-1, (j : Int)), sb j) ∧ j < m ∧ aft (i, j) s.1 = (i, j+1)) := by
  have e1 : ((i : Int) = -1) = False := by simp
  have e2 : ((j : Int) = -1) = False := by simp
  unfold stepsOf at h
  rcases List.mem_append.1 h with h | h
  · split at h
    · rename_i hh
      simp at h; subst h
      exact .inl ⟨rfl, hh.1, hh.2, by simp only [aft, e1, e2, if_false]⟩
    · simp at h
  · rcases List.mem_append.1 h with h | h
    · split at h
      · rename_i hh
        simp at h; subst h
        exact .inr (.inl ⟨rfl, hh, by simp only [aft, e1, if_false, if_true]⟩)
      · simp at h
    · split at h
      · rename_i hh
        simp at h; subst h
        exact .inr (.inr ⟨rfl, hh, by simp only [aft, e2, if_false, if_true]⟩)
      · simp at h
theorem stepsOf_le {i j : Nat} : (stepsOf sw sa sb n m i j).length ≤ 3 := by
  unfold stepsOf; simp only [List.length_append]; split <;> split <;> split <;> simp
variable (sw sa sb n m) in
/-- steps taken from (i, k), t having been paid -/
def walkS : Nat × Nat × Nat → List (Int × Int) → Option (Nat × Nat × Nat)
  | c, [] => some c
  | (i, k, t), s :: r =>
    if s.1 = i ∧ s.2 = k ∧ i < n ∧ k < m then walkS (i+1, k+1, t + sw i k) r
    else if s.1 = i ∧ s.2 = -1 ∧ i < n then walkS (i+1, k, t + sa i) r
    else if s.1 = -1 ∧ s.2 = k ∧ k < m then walkS (i, k+1, t + sb k) r
    else none
variable (sw sa sb n m) in
def step1 (c : Nat × Nat × Nat) (s : Int × Int) : Option (Nat × Nat × Nat) :=
  if s.1 = c.1 ∧ s.2 = c.2.1 ∧ c.1 < n ∧ c.2.1 < m then some (c.1+1, c.2.1+1, c.2.2 + sw c.1 c.2.1)
  else if s.1 = c.1 ∧ s.2 = -1 ∧ c.1 < n then some (c.1+1, c.2.1, c.2.2 + sa c.1)
  else if s.1 = -1 ∧ s.2 = c.2.1 ∧ c.2.1 < m then some (c.1, c.2.1+1, c.2.2 + sb c.2.1)
  else none
theorem walkS_cons (c : Nat × Nat × Nat) (s : Int × Int) (r : List (Int × Int)) : walkS sw sa sb n m c (s :: r) = (step1 sw sa sb n m c s).bind fun c => walkS sw sa sb n m c r := by
  obtain ⟨i, k, t⟩ := c
  rw [walkS, step1]
  split
  · rfl
  · split
    · rfl
    · split <;> rfl
theorem walkS_append : ∀ (l r : List (Int × Int)) (c : Nat × Nat × Nat), walkS sw sa sb n m c (l ++ r) = (walkS sw sa sb n m c l).bind fun c => walkS sw sa sb n m c r
  | [], r, c => by simp [walkS]
  | s :: l, r, c => by
    rw [List.cons_append, walkS_cons, walkS_cons, Option.bind_assoc]
    congr 1; funext c'
    exact walkS_append l r c'
theorem walkS_snoc (l : List (Int × Int)) (s : Int × Int) (c : Nat × Nat × Nat) : walkS sw sa sb n m c (l ++ [s]) = (walkS sw sa sb n m c l).bind fun c => step1 sw sa sb n m c s := by
  rw [walkS_append]
  refine congrArg _ (funext fun c' => ?_)
  rw [walkS_cons]
  cases step1 sw sa sb n m c' s <;> rfl
/-- one step, found among the steps from the cell -/
theorem step1_find (i k t : Nat) (s : Int × Int) : step1 sw sa sb n m (i, k, t) s = ((stepsOf sw sa sb n m i k).find? fun x => x.1 == s).map fun x => ((aft (i, k) s).1, (aft (i, k) s).2, t + x.2) := by
  have e1 : ((i : Int) = -1) = False := by simp
  have e2 : ((k : Int) = -1) = False := by simp
  obtain ⟨x, y⟩ := s
  unfold step1 stepsOf
  simp only []
  by_cases c1 : x = i ∧ y = k ∧ i < n ∧ k < m
  · obtain ⟨rfl, rfl, h1, h2⟩ := c1
    rw [if_pos ⟨rfl, rfl, h1, h2⟩]
    simp [h1, h2, aft, e1, e2]
  · rw [if_neg c1]
    by_cases c2 : x = i ∧ y = -1 ∧ i < n
    · obtain ⟨rfl, rfl, h1⟩ := c2
      rw [if_pos ⟨rfl, rfl, h1⟩]
      by_cases h2 : k < m
      · simp [h1, h2, aft, e1, e2]
      · simp [h1, h2, aft, e1]
    · rw [if_neg c2]
      by_cases c3 : x = -1 ∧ y = k ∧ k < m
      · obtain ⟨rfl, rfl, h1⟩ := c3
        rw [if_pos ⟨rfl, rfl, h1⟩]
        have e3 : ((i : Int) == -1) = false := by simp
        by_cases h2 : i < n
        · simp [h1, h2, aft, e1, e2]
        · simp [h1, h2, aft, e2]
      · rw [if_neg c3]
        symm
        rw [Option.map_eq_none_iff, List.find?_eq_none]
        intro z hz
        have hz' := stepsOf_cases (sw := sw) (sa := sa) (sb := sb) (n := n) (m := m) (i := i) (j := k) (s := z) hz
        simp only [beq_iff_eq]
        rcases hz' with ⟨rfl, h1, h2, _⟩ | ⟨rfl, h1, _⟩ | ⟨rfl, h1, _⟩
        · intro h; simp only [Prod.mk.injEq] at h; exact c1 ⟨h.1.symm, h.2.symm, h1, h2⟩
        · intro h; simp only [Prod.mk.injEq] at h; exact c2 ⟨h.1.symm, h.2.symm, h1⟩
        · intro h; simp only [Prod.mk.injEq] at h; exact c3 ⟨h.1.symm, h.2.symm, h1⟩
variable (sw sa sb n m) in
/-- what steps cost, if they are an alignment -/
def costsR (l : List (Int × Int)) : Int :=
  match walkS sw sa sb n m (0, 0, 0) l with
  | none => -1
  | some c => if c.1 < n ∨ c.2.1 < m then -1 else (c.2.2 : Int)
theorem step1_bound {c c' : Nat × Nat × Nat} {s : Int × Int} (h : step1 sw sa sb n m c s = some c') (h1 : c.1 ≤ n) (h2 : c.2.1 ≤ m) :
    c'.1 ≤ n ∧ c'.2.1 ≤ m ∧ c.2.2 + cs sw sa sb n m c.1 c.2.1 ≤ c'.2.2 + cs sw sa sb n m c'.1 c'.2.1 ∧ c.1 + c.2.1 < c'.1 + c'.2.1 := by
  obtain ⟨i, k, t⟩ := c
  unfold step1 at h
  simp only at h h1 h2 ⊢
  split at h
  · rename_i hh
    cases h
    have e := cs_both (sw := sw) (sa := sa) (sb := sb) hh.2.2.1 hh.2.2.2
    simp only; omega
  · split at h
    · rename_i hh
      cases h
      by_cases h3 : k < m
      · have e := cs_both (sw := sw) (sa := sa) (sb := sb) hh.2.2 h3
        simp only; omega
      · obtain rfl : k = m := by omega
        have e := cs_first (sw := sw) (sa := sa) (sb := sb) (m := k) hh.2.2
        simp only; omega
    · split at h
      · rename_i hh
        cases h
        by_cases h3 : i < n
        · have e := cs_both (sw := sw) (sa := sa) (sb := sb) h3 hh.2.2
          simp only; omega
        · obtain rfl : i = n := by omega
          have e := cs_second (sw := sw) (sa := sa) (sb := sb) (n := i) hh.2.2
          simp only; omega
      · cases h
theorem walkS_bound : ∀ (l : List (Int × Int)) (c c' : Nat × Nat × Nat), walkS sw sa sb n m c l = some c' → c.1 ≤ n → c.2.1 ≤ m →
    c'.1 ≤ n ∧ c'.2.1 ≤ m ∧ c.2.2 + cs sw sa sb n m c.1 c.2.1 ≤ c'.2.2 + cs sw sa sb n m c'.1 c'.2.1 ∧ l.length + c.1 + c.2.1 ≤ c'.1 + c'.2.1
  | [], c, c', h, h1, h2 => by simp only [walkS, Option.some.injEq] at h; subst h; simp; exact ⟨h1, h2⟩
  | s :: l, c, c', h, h1, h2 => by
    rw [walkS_cons] at h
    cases hs : step1 sw sa sb n m c s with
    | none => rw [hs] at h; cases h
    | some d =>
      rw [hs] at h
      obtain ⟨b1, b2, b3, b4⟩ := step1_bound hs h1 h2
      obtain ⟨r1, r2, r3, r4⟩ := walkS_bound l d c' h b1 b2
      refine ⟨r1, r2, by omega, ?_⟩
      simp only [List.length_cons]; omega
/-- no alignment is cheaper -/
theorem costsR_ge {l : List (Int × Int)} (h : 0 ≤ costsR sw sa sb n m l) : (cs sw sa sb n m 0 0 : Int) ≤ costsR sw sa sb n m l := by
  unfold costsR at *
  cases hw : walkS sw sa sb n m (0, 0, 0) l with
  | none => rw [hw] at h; simp at h
  | some c =>
    rw [hw] at h
    simp only at h ⊢
    split at h
    · omega
    · rename_i hn
      rw [if_neg hn]
      obtain ⟨b1, b2, b3, _⟩ := walkS_bound l _ _ hw (Nat.zero_le _) (Nat.zero_le _)
      simp only at b3
      obtain ⟨i, k, t⟩ := c
      simp only at *
      obtain rfl : i = n := by omega
      obtain rfl : k = m := by omega
      rw [cs_end] at b3
      omega
end
end Nm
namespace Go.Proofs.YtdfebccmjbocjaaGreatDoor.Na
open Go.RowKit Go.Shelf
attribute [local go_sem] Oper.semAt_some

/-- what it costs to skip, to replace -/
def skN (s : ByteArray) (sk ss db : Nat) (t : List UInt8) (i : Nat) : Nat :=
  if 0 < i ∧ t.getD i 0 = t.getD (i - 1) 0 then db else if decide (t.getD i 0 ∈ s.data.toList) = true then ss else sk
def swN (sn : UInt8 → UInt8) (al ot : Nat) (p q : UInt8) : Nat := if p = q then 0 else if sn p = sn q then al else ot
theorem skV_nat (s : ByteArray) (sk ss db : Nat) (t : List UInt8) (i : Nat) : skV s (sk : Int) (ss : Int) (db : Int) t i = ((skN s sk ss db t i : Nat) : Int) := by
  unfold skV skN; split
  · rfl
  · split <;> rfl
/-- the costs of two names' steps -/
abbrev SW (sn : UInt8 → UInt8) (al ot : Nat) (x y : ByteArray) (i j : Nat) : Nat := swN sn al ot (x.data.toList.getD i 0) (y.data.toList.getD j 0)
abbrev SA (s : ByteArray) (sk ss db : Nat) (x : ByteArray) (i : Nat) : Nat := skN s sk ss db x.data.toList i
abbrev stL (s : ByteArray) (al ot sk ss db : Nat) (x y : ByteArray) (sn : UInt8 → UInt8) (i j : Nat) : List Nm.St := Nm.stepsOf (SW sn al ot x y) (SA s sk ss db x) (SA s sk ss db y) x.size y.size i j
abbrev csD (s : ByteArray) (al ot sk ss db : Nat) (x y : ByteArray) (sn : UInt8 → UInt8) (i j : Nat) : Nat := Nm.cs (SW sn al ot x y) (SA s sk ss db x) (SA s sk ss db y) x.size y.size i j
/-- a name -/
def NameB (x : ByteArray) : Prop := x.size ≤ 1000 ∧ ∀ i (h : i < x.size), isL x[i] = true
/-- what a kind of steps answers -/
def Says (k i j : Nat) (s : ByteArray) (al ot sk ss db : Nat) (x y : ByteArray) (sn : UInt8 → UInt8) : Option Nm.St :=
  match k with
  | 0 => if i < x.size ∧ j < y.size then some (((i : Int), (j : Int)), SW sn al ot x y i j) else none
  | 1 => if i < x.size then some (((i : Int), -1), SA s sk ss db x i) else none
  | _ => if j < y.size then some ((-1, (j : Int)), SA s sk ss db y j) else none
theorem stL_says (s : ByteArray) (al ot sk ss db : Nat) (x y : ByteArray) (sn : UInt8 → UInt8) (i j : Nat) : stL s al ot sk ss db x y sn i j = (Says 0 i j s al ot sk ss db x y sn).toList ++ ((Says 1 i j s al ot sk ss db x y sn).toList ++ (Says 2 i j s al ot sk ss db x y sn).toList) := by
  unfold stL Nm.stepsOf Says
  simp only []
  split <;> split <;> split <;> rfl
end Go.Proofs.YtdfebccmjbocjaaGreatDoor.Na
namespace Go.Proofs.YtdfebccmjbocjaaGreatDoor.Na
open Go.RowKit Go.Shelf
attribute [local go_sem] Oper.semAt_some

/-- what a round keeps: whatever is cells, but for the blocks E -/
def KpE (E : Nat → Prop) (W W' : World) : Prop := ∀ k ob, ¬ E k → W.heap[k]? = some ob → ob.isCells = true → W'.heap[k]? = some ob
section
variable {E : Nat → Prop} {W W' W'' : World}
theorem KpE.trans (h : KpE E W W') (k : KpE E W' W'') : KpE E W W'' := fun b ob hE hb hc => k b ob hE (h b ob hE hb hc) hc
theorem KpE.below (h : Below W.heap.size W W') : KpE E W W' := fun b ob _ hb _ => (h.block b (Array.getElem?_eq_some_iff.1 hb).1).trans hb
theorem KpE.grown {row : Option Nat} (h : W.grownBy W' row) (hr : ∀ r, row = some r → E r) : KpE E W W' := fun b ob hE hb _ => (h.block b (Array.getElem?_eq_some_iff.1 hb).1 (fun e => hE (hr b e.symm))).trans hb
theorem KpE.set {a : Addr} (hE : E a.block) (v : Value) : KpE E W (W.setCell a v) := fun b ob hb h _ => (Below.heap_setCell W a v b (fun e => hb (by rw [e]; exact hE))).trans h
theorem KpE.putObj (l : Nat) (ob ob' : Obj) (h : W.heap[l]? = some ob) (hc : ob.isCells = false) : KpE E W (W.putObj l ob') := fun b o2 _ hb h2 => by
  have hne : b ≠ l := by rintro rfl; rw [h] at hb; cases hb; rw [hc] at h2; cases h2
  exact (World.putObj_heap_other hne).trans hb
theorem KpE.blk (h : KpE E W W') {b : Nat} {cs : Array Value} {t : TypeId} (hb : Blk W b cs t) (hE : ¬ E b) : Blk W' b cs t := h b _ hE hb rfl
end
/-- a duel's block is cells -/
structure DuelB (W : World) (d : Nat) (a : Option Addr) (n c : Nat) (s : ByteArray) (al ot sk ss db : Nat) (x y : ByteArray) (sn : UInt8 → UInt8) (mb : Nat) : Prop where
  duel : Duel W d a n c s al ot sk ss db x y sn mb
  cells : ∃ ob, W.heap[d]? = some ob ∧ ob.isCells = true
section
variable {W W' : World} {d : Nat} {a : Option Addr} {n c : Nat} {s : ByteArray} {al ot sk ss db : Nat} {x y : ByteArray} {sn : UInt8 → UInt8} {mb : Nat} {E : Nat → Prop}
theorem DuelB.kept (h : DuelB W d a n c s al ot sk ss db x y sn mb) (hk : KpE E W W') (hE : ¬ E d) : DuelB W' d a n c s al ot sk ss db x y sn mb := by
  obtain ⟨ob, h1, h2⟩ := h.cells
  have h3 := hk d ob hE h1 h2
  refine ⟨h.duel.keep (Array.getElem?_eq_some_iff.1 h3).1 (fun of => ?_), ob, h3, h2⟩
  unfold World.cell?
  simp only [h1, h3]
theorem DuelB.below (h : DuelB W d a n c s al ot sk ss db x y sn mb) (hb : Below W.heap.size W W') : DuelB W' d a n c s al ot sk ss db x y sn mb := by
  obtain ⟨ob, h1, h2⟩ := h.cells
  exact ⟨h.duel.below hb, ob, (hb.block d h.duel.lt).trans h1, h2⟩
end
abbrev StS (s : ByteArray) (al ot sk ss db : Nat) (x y : ByteArray) (sn : UInt8 → UInt8) (i j : Nat) := { t : Nm.St // t ∈ stL s al ot sk ss db x y sn i j }
def preS (s : ByteArray) (al ot sk ss db : Nat) (x y : ByteArray) (sn : UInt8 → UInt8) (i j : Nat) : Nat → List Nm.St
  | 0 => []
  | k + 1 => preS s al ot sk ss db x y sn i j k ++ (Says k i j s al ot sk ss db x y sn).toList
theorem preS_all (s : ByteArray) (al ot sk ss db : Nat) (x y : ByteArray) (sn : UInt8 → UInt8) (i j : Nat) : preS s al ot sk ss db x y sn i j 3 = stL s al ot sk ss db x y sn i j := by
  rw [stL_says]; simp [preS]
theorem preS_pre (s : ByteArray) (al ot sk ss db : Nat) (x y : ByteArray) (sn : UInt8 → UInt8) (i j : Nat) : ∀ k, k ≤ 3 → preS s al ot sk ss db x y sn i j k <+: stL s al ot sk ss db x y sn i j := by
  intro k hk
  rw [← preS_all]
  match k, hk with
  | 0, _ => exact List.nil_prefix
  | 1, _ => exact ⟨_, by simp only [preS, List.append_assoc]; rfl⟩
  | 2, _ => exact ⟨_, by simp only [preS]; rfl⟩
  | 3, _ => exact List.prefix_refl _
theorem preS_len (s : ByteArray) (al ot sk ss db : Nat) (x y : ByteArray) (sn : UInt8 → UInt8) (i j : Nat) : ∀ k, (preS s al ot sk ss db x y sn i j k).length ≤ k
  | 0 => Nat.le_refl _
  | k + 1 => by
    have := preS_len s al ot sk ss db x y sn i j k
    have h2 : ((Says k i j s al ot sk ss db x y sn).toList).length ≤ 1 := by cases Says k i j s al ot sk ss db x y sn <;> simp
    simp only [preS, List.length_append]; omega
theorem preS_snoc (s : ByteArray) (al ot sk ss db : Nat) (x y : ByteArray) (sn : UInt8 → UInt8) (i j : Nat) (k : Nat) {t : Nm.St} (h : Says k i j s al ot sk ss db x y sn = some t) : preS s al ot sk ss db x y sn i j k ++ [t] = preS s al ot sk ss db x y sn i j (k + 1) := by
  simp [preS, h]
theorem says_mem (s : ByteArray) (al ot sk ss db : Nat) (x y : ByteArray) (sn : UInt8 → UInt8) (i j : Nat) (k : Nat) (hk : k < 3) {t : Nm.St} (h : Says k i j s al ot sk ss db x y sn = some t) : t ∈ stL s al ot sk ss db x y sn i j := by
  have := (preS_pre s al ot sk ss db x y sn i j (k + 1) (by omega)).subset
  exact this (by simp [preS, h])
section
variable {W W' : World} {B0 d Bd Bc i j : Nat} {a : Option Addr} {n c : Nat} {s : ByteArray} {al ot sk ss db : Nat} {x y : ByteArray} {sn : UInt8 → UInt8} {mb : Nat} {E : Nat → Prop}
end
end Go.Proofs.YtdfebccmjbocjaaGreatDoor.Na
namespace Go.Proofs.YtdfebccmjbocjaaGreatDoor.Na
open Go.RowKit Go.Shelf

theorem rowsIn_round {l n : Nat} {P : Program} {row : String} {args : Array Value} {w : World} {R : Value → World → Prop} (h : Rows P row args w R) : RowsIn (Fence.wide.inRound l) n P row args w R :=
  fun c cs _ => let ⟨v, w', r, s⟩ := h c cs; ⟨v, w', r, stepsIn_wide.2 s⟩
theorem callsIn_round {l n : Nat} {P : Program} {f : FuncId} {args : Array Value} {w : World} {R : Ending → World → Prop} (h : Calls P f args w R) : CallsIn (Fence.wide.inRound l) n P f args w R :=
  CallsIn.inRound l (callsIn_wide.2 h)
theorem oper_round {l n : Nat} {P : Program} {o : Oper} {a : Act} {w : World} {K : Act → World → Prop} {Q : Exit → Act → World → Prop} (hd : ∀ c, o.op ≠ .defer c) (hQ : ¬ LetsOut Q) (h : o.wp P a w K Q) : o.wpIn (Fence.wide.inRound l) n P a w K Q := by
  refine ⟨fun _ _ => trivial, ?_⟩
  rw [Oper.semAt_eq _ _ _ hd]
  unfold Oper.wp at h
  generalize (execOp a.eval o).run P w = r at *
  cases r with
  | ok x w' =>
    cases x with
    | value v => exact h
    | skip => exact h
    | defer d => exact h
    | enter f args =>
      refine ⟨fun h => (by cases h), (callsIn_round h).mono fun e w'' he => ?_⟩
      cases e with
      | returned v => exact he
      | panicked c => exact he
      | outgrown => exact absurd he hQ
    | row row args => exact ⟨fun h => (by cases h), rowsIn_round h⟩
    | _ => exact h.elim
  | halt x w' =>
    cases x <;> exact h
theorem wpAny_round {l n : Nat} {P : Program} {md : Region.Mode} {ops : Array Oper} {Q : Exit → Act → World → Prop} (hd : ∀ (i : Nat) (o : Oper), ops[i]? = some o → ∀ c, o.op ≠ .defer c) (hQ : ¬ LetsOut Q) :
    ∀ (fuel : Nat) (listed : Array Bool) (a : Act) (w : World), wpAny P md ops Q fuel listed a w → wpAnyIn (Fence.wide.inRound l) n P md ops Q fuel listed a w
  | 0, _, _, _, h => h
  | fuel + 1, listed, a, w, h => ⟨h.1, fun i hi => by
    have h2 := h.2 i hi
    unfold wpOp at h2
    unfold wpOpIn
    cases ho : ops[i]? with
    | none => rw [ho] at h2; exact wpAny_round hd hQ fuel _ a w h2
    | some o =>
      rw [ho] at h2
      simp only at h2 ⊢
      split
      · rename_i hw
        rw [if_pos hw] at h2
        rcases h2 with h2 | h2
        · exact Oper.wpIn_mono (fun a w => wpAny_round hd hQ fuel _ a w) (oper_round (hd i o ho) hQ h2)
        · exact absurd h2.2 hQ
      · rename_i hw
        rw [if_neg hw] at h2
        exact ⟨fun _ _ => trivial, wpAny_round hd hQ fuel _ _ w h2⟩⟩
/-- no operation is a defer statement -/
def noDefer (ops : Array Oper) : Bool := ops.all fun o => match o.op with | .defer _ => false | _ => true
theorem noDefer_spec {ops : Array Oper} (h : noDefer ops = true) (i : Nat) (o : Oper) (ho : ops[i]? = some o) (c : Call) : o.op ≠ .defer c := by
  obtain ⟨hi, rfl⟩ := Array.getElem?_eq_some_iff.1 ho
  have := Array.all_eq_true.1 h i hi
  intro e
  rw [e] at this
  cases this
/-- a drawn region within a round -/
theorem wpIn_region_round {S : World → Prop} {l n id : Nat} {P : Program} {ops : Array Oper} {Q : Exit → Act → World → Prop} {a : Act} {w : World} (hm : P.follows .mixedOrders = true) (hd : noDefer ops = true) (hQ : ¬ LetsOut Q) (hS : S w.drew)
    (h : S w.drew → wpAnyH P .any ops Q S ops.size (Array.replicate ops.size false) a w.drew) : (Code.region id ops true).wpIn (Fence.wide.inRound l) n P Q a w :=
  wpIn_region_any hm (wpAny_round (noDefer_spec hd) hQ _ _ _ _ (wpAny_of_held _ _ _ _ (h hS)))
end Go.Proofs.YtdfebccmjbocjaaGreatDoor.Na
namespace Go.Proofs.YtdfebccmjbocjaaGreatDoor.Na
open Go.RowKit Go.Shelf
attribute [local go_sem] Oper.semAt_some

theorem KZ.put1 {w W : World} {bs : List (Nat × Array Value × TypeId)} {b : Nat} {t : TypeId} {x x' : Value} (h : KZ w bs b #[x] t W) : KZ w bs b #[x'] t (W.setCell ⟨b, 0, none⟩ x') := h.set 0 x'
theorem KZ.put1D {w W : World} {bs : List (Nat × Array Value × TypeId)} {b : Nat} {t : TypeId} {x x' : Value} (h : KZ w bs b #[x] t W) : KZ w bs b #[x'] t (W.drew.setCell ⟨b, 0, none⟩ x') := h.drew.put1
theorem KZ.keep1 {w W : World} {bs : List (Nat × Array Value × TypeId)} {b : Nat} {t : TypeId} {x x' : Value} (h : KZ w bs b #[x] t W) : KS w bs (W.setCell ⟨b, 0, none⟩ x') := (h.set 0 x').ks
abbrev FV (s : ByteArray) (al ot sk ss db : Nat) (x y : ByteArray) (sn : UInt8 → UInt8) : Nat → Nat → Nat := csD s al ot sk ss db x y sn
section
variable {W W' : World} {Bd Bf d : Nat} {a : Option Addr} {n c : Nat} {s : ByteArray} {al ot sk ss db : Nat} {x y : ByteArray} {sn : UInt8 → UInt8} {mb : Nat}
end
def Bnd (s : ByteArray) (al ot sk ss db : Nat) (x y : ByteArray) (sn : UInt8 → UInt8) : Prop := (∀ i j, csD s al ot sk ss db x y sn i j ≤ 2400) ∧ (∀ i j t, t ∈ stL s al ot sk ss db x y sn i j → t.2 ≤ 100) ∧ x.size ≤ 60 ∧ y.size ≤ 60
theorem grownBy_rowAny {w w' w'' : World} {mb : Nat} {row : Option Nat} (h : w.grownBy w' (some mb)) (k : w'.grownBy w'' row) (hr : ∀ r, row = some r → w.heap.size ≤ r) : w.grownBy w'' (some mb) :=
  ⟨k.os.trans h.os, k.tape.trans h.tape, k.output.trans h.output, Nat.le_trans h.size k.size, fun i hi hne => (k.block i (Nat.lt_of_lt_of_le hi h.size) (fun e => by have := hr i e.symm; omega)).trans (h.block i hi hne)⟩
section
variable {W W' : World} {Bd Bf d : Nat} {a : Option Addr} {n c : Nat} {s : ByteArray} {al ot sk ss db : Nat} {x y : ByteArray} {sn : UInt8 → UInt8} {mb : Nat}
end
/-- what has come so far, the least -/
def accS (s : ByteArray) (al ot sk ss db : Nat) (x y : ByteArray) (sn : UInt8 → UInt8) (i j : Nat) (pre : List (StS s al ot sk ss db x y sn i j)) : Nat :=
  (pre.map (·.1)).foldl (fun v t => min v (t.2 + csD s al ot sk ss db x y sn (Nm.aft (i, j) t.1).1 (Nm.aft (i, j) t.1).2)) 5000
theorem accS_snoc (s : ByteArray) (al ot sk ss db : Nat) (x y : ByteArray) (sn : UInt8 → UInt8) (i j : Nat) (pre : List (StS s al ot sk ss db x y sn i j)) (t : StS s al ot sk ss db x y sn i j) :
    accS s al ot sk ss db x y sn i j (pre ++ [t]) = min (accS s al ot sk ss db x y sn i j pre) (t.1.2 + csD s al ot sk ss db x y sn (Nm.aft (i, j) t.1.1).1 (Nm.aft (i, j) t.1.1).2) := by
  unfold accS; rw [List.map_append, List.foldl_append]; rfl
theorem accS_le (s : ByteArray) (al ot sk ss db : Nat) (x y : ByteArray) (sn : UInt8 → UInt8) (i j : Nat) (pre : List (StS s al ot sk ss db x y sn i j)) : accS s al ot sk ss db x y sn i j pre ≤ 5000 := by
  unfold accS
  have : ∀ (l : List Nm.St) (v : Nat), l.foldl (fun v t => min v (t.2 + csD s al ot sk ss db x y sn (Nm.aft (i, j) t.1).1 (Nm.aft (i, j) t.1).2)) v ≤ v := by
    intro l
    induction l with
    | nil => intro v; exact Nat.le_refl _
    | cons t l ih => intro v; exact Nat.le_trans (ih _) (Nat.min_le_left _ _)
  exact this _ _
theorem aft_ok (s : ByteArray) (al ot sk ss db : Nat) (x y : ByteArray) (sn : UInt8 → UInt8) (i j : Nat) (t : Nm.St) (ht : t ∈ stL s al ot sk ss db x y sn i j) (hi : i ≤ x.size) (hj : j ≤ y.size) :
    (Nm.aft (i, j) t.1).1 ≤ x.size ∧ (Nm.aft (i, j) t.1).2 ≤ y.size ∧ i + j < (Nm.aft (i, j) t.1).1 + (Nm.aft (i, j) t.1).2 := by
  rcases Nm.stepsOf_cases ht with ⟨rfl, h1, h2, h3⟩ | ⟨rfl, h1, h3⟩ | ⟨rfl, h1, h3⟩ <;> rw [h3] <;> simp only <;> omega
theorem keepsBelow {W W' : World} {B : Nat} (hb : Below W.heap.size W W') : KeepsFrom B W W' := KeepsFrom.of_grownBy (grownBy_below hb none) (fun j e => by cases e)
section
variable {w Wr W W' : World} {B nb Bx Bd Bf d i j : Nat} {t1 t2 : Int} {a : Option Addr} {n c : Nat} {s : ByteArray} {al ot sk ss db : Nat} {x y : ByteArray} {sn : UInt8 → UInt8} {mb : Nat}
end
end Go.Proofs.YtdfebccmjbocjaaGreatDoor.Na
namespace Go.Proofs.YtdfebccmjbocjaaGreatDoor.Na
open Go.RowKit Go.Shelf

end Go.Proofs.YtdfebccmjbocjaaGreatDoor.Na
namespace Go.Proofs.YtdfebccmjbocjaaGreatDoor.Na
open Go.RowKit Go.Shelf

/-- the representatives -/
def sndR (R : RB) (b : UInt8) : UInt8 := sndL (R.cls.map (·.data.toList)) b
theorem snd_arr (R : RB) (vs : List Value) (h : arrL (sF (R.cls.map (·.data.toList))) = vs) (b : UInt8) (hb : isL b = true) : vs[b.toNat - 65]? = some (.int .u8 ((sndR R b).toNat : Int)) := by
  have h2 := arrL_get (sF (R.cls.map (·.data.toList))) (b.toNat - 65) (u8_sub b hb).2.1
  rw [h] at h2
  simp only [sF] at h2
  rw [ofNat_sub b hb] at h2
  unfold sndR
  simpa using h2
theorem list26 {vs : List Value} (h : vs.length = 26) : ∃ v0 v1 v2 v3 v4 v5 v6 v7 v8 v9 v10 v11 v12 v13 v14 v15 v16 v17 v18 v19 v20 v21 v22 v23 v24 v25 : Value, vs = [v0, v1, v2, v3, v4, v5, v6, v7, v8, v9, v10, v11, v12, v13, v14, v15, v16, v17, v18, v19, v20, v21, v22, v23, v24, v25] := by
  match vs, h with
  | [v0, v1, v2, v3, v4, v5, v6, v7, v8, v9, v10, v11, v12, v13, v14, v15, v16, v17, v18, v19, v20, v21, v22, v23, v24, v25], _ => exact ⟨_, _, _, _, _, _, _, _, _, _, _, _, _, _, _, _, _, _, _, _, _, _, _, _, _, _, rfl⟩
end Go.Proofs.YtdfebccmjbocjaaGreatDoor.Na
namespace Go.Proofs.YtdfebccmjbocjaaGreatDoor.Na
open Go.RowKit Go.Shelf

/-- the cost of two names from a cell on -/
def cR (R : RB) (x y : ByteArray) (i j : Nat) : Nat := csD R.soft R.al.toNat R.ot.toNat R.sk.toNat R.ss.toNat R.db.toNat x y (sndR R) i j
/-- valid rules, told in parts -/
structure Good (R : RB) : Prop where
  n8 : R.cls.length ≤ 8
  rul : rulB R = true
theorem Good.letc {R : RB} (h : Good R) : LetC R := fun c hc => by
  have hr := h.rul
  simp only [rulB, distB, Bool.and_eq_true, List.all_eq_true] at hr
  obtain ⟨⟨⟨⟨h1, _⟩, _⟩, h3⟩, _⟩ := hr
  have h3c := h3 c hc
  simp only [evB, Bool.and_eq_true, Bool.not_eq_true'] at h3c
  refine ⟨?_, fun i hi => ?_⟩
  · rcases Nat.eq_zero_or_pos c.size with h0 | h0
    · have : c.data.toList = [] := List.eq_nil_of_length_eq_zero (by simpa using h0)
      rw [this] at h3c; cases h3c.1
    · exact h0
  · refine h1 c[i] ?_
    unfold fl
    rw [List.mem_flatten]
    exact ⟨c.data.toList, List.mem_map.2 ⟨c, hc, rfl⟩, by rw [← getD_size c i hi, List.getD_eq_getElem?_getD, List.getElem?_eq_getElem (by simpa using hi)]; exact List.getElem_mem _⟩
theorem Good.cos {R : RB} (h : Good R) : (0 ≤ R.al ∧ R.al ≤ 100) ∧ (0 ≤ R.ot ∧ R.ot ≤ 100) ∧ (0 ≤ R.sk ∧ R.sk ≤ 100) ∧ (0 ≤ R.ss ∧ R.ss ≤ 100) ∧ (0 ≤ R.db ∧ R.db ≤ 100) := by
  have hr := h.rul
  simp only [rulB, Bool.and_eq_true] at hr
  have h4 := hr.2
  simp only [cosB, List.all_cons, List.all_nil, Bool.and_true, Bool.and_eq_true, coB, inB_iff] at h4
  obtain ⟨a, b, c, d, e⟩ := h4
  exact ⟨a, b, c, d, e⟩
theorem name_of {x : ByteArray} (h : spB x = true) (h12 : x.size ≤ 12) : NameB x := ⟨by omega, fun i hi => by
  simp only [spB, Bool.and_eq_true, List.all_eq_true] at h
  refine h.2 x[i] ?_
  rw [← getD_size x i hi, List.getD_eq_getElem?_getD, List.getElem?_eq_getElem (by simpa using hi)]
  exact List.getElem_mem _⟩
theorem chkN_ok {R : RB} {l : List ByteArray} (h : chkN R l = 0) : Good R ∧ ∀ x, x ∈ l → x.size ≤ 12 ∧ spB x = true := by
  unfold chkN at h
  split at h
  · cases h
  · rename_i h1
    rw [not_or] at h1
    split at h
    · cases h
    · rename_i h2
      split at h
      · rename_i h3
        have h1' : (l.all fun s => decide (s.size ≤ 12)) = true := by simpa using h1.2
        exact ⟨⟨by omega, by simpa using h2⟩, fun x hx => ⟨by simpa using List.all_eq_true.1 h1' x hx, List.all_eq_true.1 h3 x hx⟩⟩
      · cases h
theorem skN_le (s : ByteArray) (sk ss db : Nat) (t : List UInt8) (i : Nat) (h1 : sk ≤ 100) (h2 : ss ≤ 100) (h3 : db ≤ 100) : skN s sk ss db t i ≤ 100 := by
  unfold skN; split
  · exact h3
  · split
    · exact h2
    · exact h1
theorem swN_le (sn : UInt8 → UInt8) (al ot : Nat) (p q : UInt8) (h1 : al ≤ 100) (h2 : ot ≤ 100) : swN sn al ot p q ≤ 100 := by
  unfold swN; split
  · omega
  · split
    · exact h1
    · exact h2
theorem bnd_of (s : ByteArray) (al ot sk ss db : Nat) (x y : ByteArray) (sn : UInt8 → UInt8) (h1 : al ≤ 100) (h2 : ot ≤ 100) (h3 : sk ≤ 100) (h4 : ss ≤ 100) (h5 : db ≤ 100) (hx : x.size ≤ 12) (hy : y.size ≤ 12) : Bnd s al ot sk ss db x y sn := by
  refine ⟨fun i j => ?_, fun i j t ht => ?_, by omega, by omega⟩
  · have := Nm.rs_le (sw := SW sn al ot x y) (sa := SA s sk ss db x) (sb := SA s sk ss db y) (n := x.size) (m := y.size) 100 (fun i j => swN_le _ _ _ _ _ h1 h2) (fun i => skN_le _ _ _ _ _ _ h3 h4 h5) (fun i => skN_le _ _ _ _ _ _ h3 h4 h5) (x.size - i) (y.size - j)
    show Nm.rs _ _ _ _ _ _ _ ≤ 2400
    omega
  · rcases Nm.stepsOf_cases ht with ⟨rfl, _⟩ | ⟨rfl, _⟩ | ⟨rfl, _⟩
    · exact swN_le _ _ _ _ _ h1 h2
    · exact skN_le _ _ _ _ _ _ h3 h4 h5
    · exact skN_le _ _ _ _ _ _ h3 h4 h5
theorem Good.bnd {R : RB} (h : Good R) {x y : ByteArray} (hx : x.size ≤ 12) (hy : y.size ≤ 12) : Bnd R.soft R.al.toNat R.ot.toNat R.sk.toNat R.ss.toNat R.db.toNat x y (sndR R) := by
  obtain ⟨a, b, c, d, e⟩ := h.cos
  exact bnd_of _ _ _ _ _ _ _ _ _ (by omega) (by omega) (by omega) (by omega) (by omega) hx hy
theorem cR_le {R : RB} (h : Good R) {x y : ByteArray} (hx : x.size ≤ 12) (hy : y.size ≤ 12) (i j : Nat) : cR R x y i j ≤ 2400 := (h.bnd hx hy).1 i j
/-- a duel at the rules' own costs -/
def DuelR (W : World) (d : Nat) (a : Option Addr) (n c : Nat) (R : RB) (x y : ByteArray) (mb : Nat) : Prop := DuelB W d a n c R.soft R.al.toNat R.ot.toNat R.sk.toNat R.ss.toNat R.db.toNat x y (sndR R) mb
/-- strings that the code lays -/
theorem sk2 {W : World} {b : Nat} {x y : ByteArray} {t : TypeId} (h : Blk W b #[.string x, .string y] t) : SK W (some ⟨b, 0, none⟩) b 0 [x, y] := ⟨fun _ => rfl, fun i s e => by
  match i, e with
  | 0, e => simp at e; subst e; exact h.cell 0
  | 1, e => simp at e; subst e; exact h.cell 1, fun _ => h.lt⟩
theorem sk1 {W : World} {b : Nat} {x : ByteArray} {t : TypeId} (h : Blk W b #[.string x] t) : SK W (some ⟨b, 0, none⟩) b 0 [x] := ⟨fun _ => rfl, fun i s e => by
  match i, e with
  | 0, e => simp at e; subst e; exact h.cell 0, fun _ => h.lt⟩
/-- Cost, whatever the rules and names -/
def costV (R : RB) (x y : ByteArray) : Nat := if chkN R [x, y] = 0 then cR R x y 0 0 else 0
end Go.Proofs.YtdfebccmjbocjaaGreatDoor.Na
namespace Nm
section
variable {α : Type} [DecidableEq α] (snd : α → α) (soft : α → Bool)
/-- one letter more -/
def kst (key : List α) (b : α) : List α :=
  if key.length = 6 then key else if soft b = true ∨ key.getLast? = some (snd b) then key else key ++ [snd b]
def keyOf (a : α) (s : List α) : List α := s.foldl (kst snd soft) [snd a]
variable {snd soft}
theorem kst_soft (key : List α) {b : α} (h : soft b = true) : kst snd soft key b = key := by
  unfold kst; simp [h]
theorem kst_twice (key : List α) (b : α) : kst snd soft (kst snd soft key b) b = kst snd soft key b := by
  by_cases h6 : key.length = 6
  · have e : kst snd soft key b = key := by unfold kst; rw [if_pos h6]
    rw [e, e]
  · by_cases hc : soft b = true ∨ key.getLast? = some (snd b)
    · have e : kst snd soft key b = key := by unfold kst; rw [if_neg h6, if_pos hc]
      rw [e, e]
    · have e : kst snd soft key b = key ++ [snd b] := by unfold kst; rw [if_neg h6, if_neg hc]
      rw [e]
      unfold kst
      by_cases h : (key ++ [snd b]).length = 6
      · rw [if_pos h]
      · rw [if_neg h, if_pos (.inr (by simp))]
theorem kst_congr (key : List α) {b b' : α} (h1 : snd b = snd b') (h2 : soft b = soft b') : kst snd soft key b = kst snd soft key b' := by
  unfold kst; rw [h1, h2]
theorem kst_len (key : List α) (b : α) (h : key.length ≤ 6) : (kst snd soft key b).length ≤ 6 := by
  unfold kst; split
  · exact h
  · split
    · exact h
    · simp; omega
/-- a key as a key makes them: adjacent letters differ; representatives; those behind the first are not soft -/
structure Keyish (snd : α → α) (soft : α → Bool) (k : List α) : Prop where
  len : k.length ≤ 6
  rep : ∀ x, x ∈ k → snd x = x
  hard : ∀ i x, 0 < i → k[i]? = some x → soft x = false
  apart : ∀ i x y, k[i]? = some x → k[i+1]? = some y → x ≠ y
  some : k ≠ []
omit [DecidableEq α] in
theorem keyish_one (hr : ∀ x, snd (snd x) = snd x) (a : α) : Keyish snd soft [snd a] :=
  ⟨by simp, fun x hx => by simp at hx; subst hx; exact hr a, fun i x hi h => by
    rcases i with _ | i
    · omega
    · simp at h, fun i x y h1 h2 => by simp at h2, by simp⟩
theorem keyish_step (hr : ∀ x, snd (snd x) = snd x) (hs : ∀ x, soft (snd x) = soft x) {k : List α} (h : Keyish snd soft k) (b : α) : Keyish snd soft (kst snd soft k b) := by
  unfold kst
  split
  · exact h
  · rename_i h6
    split
    · exact h
    · rename_i hc
      rw [not_or] at hc
      have hl := h.len
      have hlast : ∀ i x, i + 1 = k.length → k[i]? = some x → k.getLast? = some x := by
        intro i x hi hx
        rw [List.getLast?_eq_getElem?, ← hx]; congr 1; omega
      refine ⟨by simp; omega, fun x hx => ?_, fun i x hi hx => ?_, fun i x y hx hy => ?_, by simp⟩
      · rcases List.mem_append.1 hx with hx | hx
        · exact h.rep x hx
        · simp at hx; subst hx; exact hr b
      · rw [List.getElem?_append] at hx
        split at hx
        · exact h.hard i x hi hx
        · have : x = snd b := by
            rcases hj : i - k.length with _ | j
            · rw [hj] at hx; simpa using hx.symm
            · rw [hj] at hx; simp at hx
          rw [this, hs]; simpa using hc.1
      · rw [List.getElem?_append] at hx hy
        split at hy
        · rename_i h2
          rw [if_pos (by omega)] at hx
          exact h.apart i x y hx hy
        · rename_i h2
          have hy' : y = snd b ∧ i + 1 = k.length := by
            rcases hj : i + 1 - k.length with _ | j
            · rw [hj] at hy; exact ⟨by simpa using hy.symm, by omega⟩
            · rw [hj] at hy; simp at hy
          rw [if_pos (by omega)] at hx
          have := hlast i x hy'.2 hx
          rw [hy'.1]
          intro e
          rw [this, e] at hc
          exact hc.2 rfl
theorem keyish_key (hr : ∀ x, snd (snd x) = snd x) (hs : ∀ x, soft (snd x) = soft x) (a : α) (s : List α) : Keyish snd soft (keyOf snd soft a s) := by
  unfold keyOf
  have : ∀ (s k : List α), Keyish snd soft k → Keyish snd soft (s.foldl (kst snd soft) k) := by
    intro s
    induction s with
    | nil => exact fun k h => h
    | cons b s ih => exact fun k h => ih _ (keyish_step hr hs h b)
  exact this s _ (keyish_one hr a)
theorem keyish_fold {k : List α} (h : Keyish snd soft k) : ∀ (t p : List α), k = p ++ t → p ≠ [] → t.foldl (kst snd soft) p = k
  | [], p, e, _ => by simp [e]
  | b :: t, p, e, hp => by
    have hb : k[p.length]? = some b := by rw [e]; simp
    have hlen := h.len
    have e1 : kst snd soft p b = p ++ [b] := by
      have hrb : snd b = b := h.rep b (by rw [e]; simp)
      have hsb : soft b = false := h.hard p.length b (List.length_pos_iff.2 hp) hb
      unfold kst
      rw [if_neg (by rw [e] at hlen; simp at hlen; omega), if_neg, hrb]
      rw [hsb, hrb]
      rintro (h1 | h1)
      · cases h1
      · rw [List.getLast?_eq_getElem?] at h1
        have hpl : 0 < p.length := List.length_pos_iff.2 hp
        refine h.apart (p.length - 1) b b ?_ (by rw [show p.length - 1 + 1 = p.length by omega]; exact hb) rfl
        rw [e, List.getElem?_append_left (by omega)]; exact h1
    show t.foldl _ (kst snd soft p b) = k
    rw [e1]
    exact keyish_fold h t (p ++ [b]) (by rw [e, List.append_assoc]; rfl) (by simp)
/-- the key of a key is the key -/
theorem key_key (hr : ∀ x, snd (snd x) = snd x) (hs : ∀ x, soft (snd x) = soft x) (a : α) (s : List α) (k0 : α) (kt : List α) (e : keyOf snd soft a s = k0 :: kt) : keyOf snd soft k0 kt = k0 :: kt := by
  have h := keyish_key hr hs a s
  rw [e] at h
  have : snd k0 = k0 := h.rep k0 (by simp)
  unfold keyOf
  rw [this]
  exact keyish_fold h kt [k0] rfl (by simp)
end
end Nm
namespace Go.Proofs.YtdfebccmjbocjaaGreatDoor.Na
open Go.RowKit Go.Shelf

/-- the key of a name -/
def keyR (R : RB) (l : List UInt8) : List UInt8 := match l with | [] => [] | b :: t => Nm.keyOf (sndR R) (inS R.soft) b t
theorem keyR_snoc (R : RB) (l : List UInt8) (b : UInt8) : keyR R (l ++ [b]) = if l = [] then [sndR R b] else Nm.kst (sndR R) (inS R.soft) (keyR R l) b := by
  cases l with
  | nil => simp [keyR, Nm.keyOf]
  | cons a t => simp [keyR, Nm.keyOf]
theorem keyR_stop (R : RB) : ∀ (t l : List UInt8), (keyR R l).length = 6 → keyR R (l ++ t) = keyR R l
  | [], l, _ => by simp
  | b :: t, l, h => by
    have hl : l ≠ [] := by rintro rfl; simp [keyR] at h
    have e : keyR R (l ++ [b]) = keyR R l := by
      rw [keyR_snoc, if_neg hl]; unfold Nm.kst; rw [if_pos h]
    rw [show l ++ b :: t = (l ++ [b]) ++ t by simp, keyR_stop R t (l ++ [b]) (by rw [e]; exact h), e]
theorem keyR_pos (R : RB) (l : List UInt8) (h : l ≠ []) : keyR R l ≠ [] := by
  cases l with
  | nil => exact absurd rfl h
  | cons a t =>
    have : ∀ (t k : List UInt8), k ≠ [] → t.foldl (Nm.kst (sndR R) (inS R.soft)) k ≠ [] := by
      intro t
      induction t with
      | nil => intro k hk; exact hk
      | cons b t ih =>
        intro k hk
        refine ih _ ?_
        unfold Nm.kst
        split
        · exact hk
        · split
          · exact hk
          · simp
    exact this t _ (by simp)
def bytesV (l : List UInt8) : List Value := l.map fun b => .int .u8 (b.toNat : Int)
theorem tInfo5 : (Tryz.prog.info? 5).map (fun i => (i.zero, i.size, i.bytes)) = some (some (.int .u8 0), 1, 1) := by kernel_rfl
theorem conv_key {W : World} {base g cap : Nat} {l : List UInt8} (h : W.ownsRow base 5 1 (.slice (some ⟨g, 0, none⟩) l.length cap) l.length (bytesV l)) :
    (convert 87 9 (.slice (some ⟨g, 0, none⟩) l.length cap)).run Tryz.prog W = .ok (.string ⟨l.toArray⟩) W := by
  have hb : Lib.Bytes W g 0 ⟨l.toArray⟩ := fun i hi => by
    have hi' : i < l.length := hi
    have := h.cellAt i (by omega)
    rw [Nat.zero_add, this, bytesV, List.getElem?_map, List.getElem?_eq_getElem hi']
    rfl
  exact Lib.run_convert_whole (P := Tryz.prog) W 87 5 9 Tryz.underlying87 Tryz.underlying5 Tryz.underlying9 g 0 ⟨l.toArray⟩ hb cap
theorem row_below {W W' : World} {base : Nat} {e : TypeId} {size : Nat} {v : Value} {k : Nat} {xs : List Value} (h : W.ownsRow base e size v k xs) (hb : Below W.heap.size W W') : W'.ownsRow base e size v k xs := by
  refine h.kept (grownBy_below hb none) ?_
  rcases h.2 with ⟨rfl, _⟩ | ⟨g, cap, cur, rfl, _, hgb, _⟩
  · exact .inl rfl
  · exact .inr (by simp [Value.ownBlock])
/-- what the loop of Key keeps -/
def KeyS (w : World) (B7 Bn base : Nat) (rc : Array Value) (R : RB) (s : List UInt8) (W : World) : Prop :=
  Blk W w.heap.size rc 33 ∧ Blk W B7 (arrL (sF (R.cls.map (·.data.toList)))).toArray 85 ∧ BytesAt W Bn 0 s ∧ Below w.heap.size w W ∧ B7 < base ∧ Bn < base ∧ w.heap.size < base ∧ base ≤ W.heap.size
section
variable {w W W' : World} {B7 Bn base : Nat} {rc : Array Value} {R : RB} {s : List UInt8}
theorem KeyS.below (h : KeyS w B7 Bn base rc R s W) (hb : Below W.heap.size W W') : KeyS w B7 Bn base rc R s W' :=
  ⟨h.1.b hb, h.2.1.b hb, h.2.2.1.below hb (by have := h.2.2.2; omega), h.2.2.2.1.trans (hb.mono h.2.2.2.1.size), h.2.2.2.2.1, h.2.2.2.2.2.1, h.2.2.2.2.2.2.1, Nat.le_trans h.2.2.2.2.2.2.2 hb.size⟩
theorem KeyS.alloc (h : KeyS w B7 Bn base rc R s W) (o : Obj) : KeyS w B7 Bn base rc R s (W.alloc o) := h.below ((Below.refl _ _).alloc (Nat.le_refl _) o)
theorem KeyS.row (h : KeyS w B7 Bn base rc R s W) {row : Option Nat} (hg : W.grownBy W' row) (hr : ∀ r, row = some r → base ≤ r) : KeyS w B7 Bn base rc R s W' := by
  obtain ⟨h1, h2, h3, h4, h5, h6, h7, h8⟩ := h
  refine ⟨h1.kept hg (fun e => by have := hr _ e.symm; omega), h2.kept hg (fun e => by have := hr _ e.symm; omega), fun i x e => ?_, h4.grown hg h4.size (fun r e => by have := hr r e; omega), h5, h6, h7, Nat.le_trans h8 hg.size⟩
  exact hg.cell (h3 i x e) (fun e => by have := hr _ e.symm; show False; simp at this; omega)
end
set_option maxRecDepth 100000 in
set_option maxHeartbeats 4000000 in
theorem Key_good (a : Option Addr) (g o c n : Nat) (R : RB) (w : World) (hN : R.cls.length = n) (hk : SK w a g o R.cls) (hc : n ≤ c) (ht : Thn R) (x : ByteArray) (hx : x.size ≤ 1000) (hv : chkN R [x] = 0) : Calls Tryz.prog 9 #[rulesV a n c R.soft R.al R.ot R.sk R.ss R.db, .string x] w fun e w' => e = .returned (.tuple #[.string ⟨(keyR R x.data.toList).toArray⟩, .int .i64 0]) ∧ Below w.heap.size w w' := by
  have CK := Lib.hid (fun W b (hW : Below w.heap.size w W) (hb : Blk W b #[.string x] 9) => check_any a g o c n R W hN (hk.below hW) hc ht (some ⟨b, 0, none⟩) b 0 1 1 [x] rfl (sk1 hb) (by omega) (fun s hs => by simp at hs; subst hs; exact hx))
  rw [hv] at CK
  obtain ⟨hg, hxx⟩ := chkN_ok hv
  obtain ⟨gx1, gx2⟩ := hxx x (by simp)
  have hpos : 0 < x.size := by
    rcases Nat.eq_zero_or_pos x.size with h0 | h0
    · have : x.data.toList = [] := List.eq_nil_of_length_eq_zero (by simpa using h0)
      simp [spB, this] at gx2
    · exact h0
  have hnm := name_of gx2 gx1
  have CS := Lib.hid (fun W (hW : Below w.heap.size w W) => sounds_any a g o c n R W hN (hk.below hW) hc ht hg.letc)
  have CF := Lib.hid (fun b W => soft_any a n c R.soft R.al R.ot R.sk R.ss R.db b W)
  obtain ⟨i0, hi, hz0, hz1, hz2⟩ := info_parts tInfo5
  have HLET := Lib.hid hnm.2
  have HP := Lib.hid (And.intro hpos gx1)
  clear hk ht hN hv hg hxx gx1 gx2 hnm
  have s0 := (KS.start w).new (rulesC a n c R.soft R.al R.ot R.sk R.ss R.db) 33
  obtain ⟨kb0_0, kb0_1, kb0_2, kb0_3, kb0_4, kb0_5, kb0_6⟩ := (s0.blkAt 0 rfl).c7
  have S0 := Lib.hid s0
  clear s0
  go_enter Tryz.func9, Tryz.ntmps9
  go_wp2_with fail
  refine (CK.out _ (w.heap.size + 1) ((S0.out.bel).alloc S0.out.size _) (two_new w _ _ _ _).2.1).mono ?_
  rintro e w1 ⟨rfl, h1⟩
  clear kb0_0 kb0_1 kb0_2 kb0_3 kb0_4 kb0_5 kb0_6
  have s1 := (S0.out.alloc (.cells #[.string x] 9)).below h1
  obtain ⟨kb0_0, kb0_1, kb0_2, kb0_3, kb0_4, kb0_5, kb0_6⟩ := (s1.blkAt 0 rfl).c7
  have S1 := Lib.hid s1
  clear h1 s1
  go_wp2_with fail
  refine (CS.out _ S1.out.bel).mono ?_
  rintro e w2 ⟨rfl, h2⟩
  clear kb0_0 kb0_1 kb0_2 kb0_3 kb0_4 kb0_5 kb0_6
  have s2 := S1.out.below h2
  obtain ⟨kb0_0, kb0_1, kb0_2, kb0_3, kb0_4, kb0_5, kb0_6⟩ := (s2.blkAt 0 rfl).c7
  have S2 := Lib.hid s2
  clear h2 s2
  generalize hvs : arrL (sF (R.cls.map (·.data.toList))) = vs at *
  have hlen : vs.length = 26 := by rw [← hvs]; exact arrL_len _
  have hone : ∀ v, v ∈ vs → v.oneCell' = true := fun v hv => arrL_one _ v (by rw [hvs]; exact hv)
  have HLN := Lib.hid hlen
  have HON := Lib.hid hone
  have HVS := Lib.hid hvs
  have hkc := conv_rule
  clear hlen hone hvs kb0_0 kb0_1 kb0_2 kb0_3 kb0_4 kb0_5 kb0_6
  go_wp2_with (refine wpList_store_row rfl 85 _ _ rfl _ rfl 85 _ vs.toArray rfl (Blk.new w2 _ 85) (by rw [tInfo103]; rfl) (by simp [HLN.out]) (by simpa using HON.out) ?_; intro w3 hb3 hg3; have HB3 := Lib.hid hb3; have HG3 := Lib.hid hg3; clear hb3 hg3)
  have q2 := S2.out.lt 0 rfl
  have q3 := HG3.out.size
  rw [World.size_alloc] at q3
  have HS3 := Lib.hid (show KeyS w w2.heap.size w3.heap.size (Lib.bytesWorld w3 5 x).heap.size (rulesC a n c R.soft R.al R.ot R.sk R.ss R.db) R x.data.toList (Lib.bytesWorld w3 5 x) from by
    have hbb := bytes_below w3 5 x
    have hss := Lib.bytesWorld_size w3 5 x
    have hbs : Below w.heap.size w w3 := below_grownBy (S2.out.bel.alloc S2.out.size _) HG3.out (by omega)
    have hc0 : Blk w3 w.heap.size (rulesC a n c R.soft R.al R.ot R.sk R.ss R.db) 33 := ((S2.out.blkAt 0 rfl).alloc _).kept HG3.out (by simp; omega)
    refine ⟨hc0.b hbb, by rw [HVS.out]; exact HB3.out.b hbb, bytes_at w3 5 x, hbs.trans (hbb.mono hbs.size), by omega, by omega, by omega, Nat.le_refl _⟩)
  clear q2 q3
  go_wp2_with fail
  clear S1 S2 S0 HB3 HG3 CK CS
  generalize (Lib.bytesWorld w3 5 x).heap.size = base at *
  generalize w2.heap.size = B7 at *
  generalize w3.heap.size = Bn at *
  go_loopw [24, 8] (fun y v wr => ∃ i k : Nat, i ≤ x.size ∧ y = .int .i64 (i : Int) ∧ k < 6 ∧ k = (keyR R (x.data.toList.take i)).length ∧ wr.ownsRow base 5 1 v k (bytesV (keyR R (x.data.toList.take i))) ∧ KeyS w B7 Bn base (rulesC a n c R.soft R.al R.ot R.sk R.ss R.db) R x.data.toList wr) (fun y _ _ => x.size - (intOf y).toNat)
  case atStart => exact ⟨0, 0, Nat.zero_le _, rfl, by omega, by simp [keyR], World.ownsRow_nil _ _ _ _, HS3.out⟩
  case round =>
    clear HS3
    obtain ⟨i, k, hi', rfl, hk6, hkl, hown, HS⟩ := hrel
    have HKL := Lib.hid hkl
    have HO := Lib.hid hown
    have H := Lib.hid HS
    have hbs := HS.2.2.2.2.2.2.2
    have hb1 := HS.2.2.2.2.1
    clear hkl hown HS
    by_cases hil : i < x.size
    · have hget : x.data.toList[i]? = some x[i] := by rw [List.getElem?_eq_getElem (by simpa using hil)]; rfl
      have b0 := H.out.2.2.1 i x[i] hget
      rw [Nat.zero_add] at b0
      obtain ⟨u1, u2, u3⟩ := u8_sub x[i] (HLET.out i hil)
      have hcell := (H.out.2.1).cell (x[i].toNat - 65)
      rw [HVS.out, List.getElem?_toArray, snd_arr R vs HVS.out x[i] (HLET.out i hil)] at hcell
      have htk : x.data.toList.take (i + 1) = x.data.toList.take i ++ [x[i]] := by rw [List.take_add_one, hget]; rfl
      have HTK := Lib.hid (keyR_snoc R (x.data.toList.take i) x[i])
      rw [← htk] at HTK
      have H6 := Lib.hid (show (keyR R (x.data.toList.take (i + 1))).length = 6 → keyR R x.data.toList = keyR R (x.data.toList.take (i + 1)) from fun h => by
        have h2 := keyR_stop R (x.data.toList.drop (i + 1)) _ h
        rwa [List.take_append_drop] at h2)
      have hbi : Bn < base := H.out.2.2.2.2.2.1
      clear hget htk
      rcases Nat.eq_zero_or_pos i with hz | hz
      · have hz' : ¬ (0 : Int) < (i : Int) := by omega
        have HNEW := Lib.hid (show keyR R (x.data.toList.take (i + 1)) = keyR R (x.data.toList.take i) ++ [sndR R x[i]] by rw [HTK.out, if_pos (by simp [hz])]; simp [hz, keyR])
        have HZ := Lib.hid hz
        clear hz HTK
        have CV := Lib.hid (fun (W : World) (gg cc : Nat) (h : W.ownsRow base 5 1 (.slice (some ⟨gg, 0, none⟩) (k + 1) cc) (k + 1) (bytesV (keyR R (x.data.toList.take i)) ++ [.int .u8 ((sndR R x[i]).toNat : Int)])) (h6 : k = 5) => show (convert 87 9 (.slice (some ⟨gg, 0, none⟩) (k + 1) cc)).run Tryz.prog W = .ok (.string ⟨(keyR R x.data.toList).toArray⟩) W from by
          have hl : (keyR R (x.data.toList.take (i + 1))).length = k + 1 := by rw [HNEW.out, List.length_append, ← HKL.out]; rfl
          rw [H6.out (by omega)]
          rw [← hl] at h ⊢
          refine conv_key (base := base) ?_
          rw [HNEW.out] at h ⊢
          simpa [bytesV] using h)
        by_cases hk5 : k = 5
        · go_wp2_with (first
            | (go_at_call 29; (with_reducible refine (CF.out x[i] _).mono ?_); rintro e w4 ⟨rfl, h4⟩; have HO4 := Lib.hid (row_below HO.out h4); have H4 := Lib.hid (H.out.below h4); have s4 := h4.size; have k9 := HCEL.out w4 HO4.out; clear h4)
            | (at_builtin; refine wpList_append_own _ rfl _ _ 87 rfl base 5 i0 (.int .u8 0) 1 1 Tryz.underlying87 hi hz0 hz1 hz2 rfl (by decide) _ _ _ rfl (HO.out.alloc _) ⟨wr.heap.size, 0, none⟩ 1 1 [.int .u8 ((sndR R x[i]).toNat : Int)] rfl rfl (cell_one_new _ _ _) (by simp [Value.oneCell']) (by unfold maxLen; omega) (by omega) (by simp; omega) ?_; intro v' w5 hown' hgrow _; obtain ⟨g5, c5, rfl⟩ := ownsRow_succ hown'; have hcv := CV.out w5 g5 c5 hown' hk5; rw [show k + 1 = 6 by omega] at hcv; have HO5 := Lib.hid hown'; have HG := Lib.hid hgrow; clear hown' hgrow))
          go_wp2_with fail
          go_ret2
          exact ⟨rfl, (H.out.2.2.2.1.alloc H.out.2.2.2.1.size _).grown HG.out (by have := H.out.2.2.2.2.2.2.1; simp; omega) (fun r e => by have := (HO.out.lt r e).1; have := H.out.2.2.2.2.2.2.1; omega)⟩
        · go_wp2_with (first
            | (go_at_call 29; (with_reducible refine (CF.out x[i] _).mono ?_); rintro e w4 ⟨rfl, h4⟩; have HO4 := Lib.hid (row_below HO.out h4); have H4 := Lib.hid (H.out.below h4); have s4 := h4.size; have k9 := HCEL.out w4 HO4.out; clear h4)
            | (at_builtin; refine wpList_append_own _ rfl _ _ 87 rfl base 5 i0 (.int .u8 0) 1 1 Tryz.underlying87 hi hz0 hz1 hz2 rfl (by decide) _ _ _ rfl (HO.out.alloc _) ⟨wr.heap.size, 0, none⟩ 1 1 [.int .u8 ((sndR R x[i]).toNat : Int)] rfl rfl (cell_one_new _ _ _) (by simp [Value.oneCell']) (by unfold maxLen; omega) (by omega) (by simp; omega) ?_; intro v' w5 hown' hgrow _; obtain ⟨g5, c5, rfl⟩ := ownsRow_succ hown'; have HO5 := Lib.hid hown'; have HG := Lib.hid hgrow; clear hown' hgrow))
          go_roundw
          case rel =>
            refine ⟨i + 1, k + 1, by omega, by go_num, by omega, by rw [HNEW.out, List.length_append, ← HKL.out]; rfl, ?_, ?_⟩
            · rw [HNEW.out]; simpa [bytesV] using HO5.out
            · exact (H.out.alloc _).row HG.out (fun r e => (HO.out.lt r e).1)
          case measure => simp [intOf]; omega
      · have hz' : (0 : Int) < (i : Int) := by omega
        have hne : x.data.toList.take i ≠ [] := by
          have e1 : (x.data.toList.take i).length = i := by
            rw [List.length_take, show x.data.toList.length = x.size by simp]; omega
          intro e
          rw [e] at e1
          simp at e1
          omega
        have hkne := keyR_pos R _ hne
        rw [if_neg hne] at HTK
        obtain ⟨q, hq⟩ : ∃ q, k = q + 1 := ⟨k - 1, by
          have := HKL.out
          have h2 := List.length_pos_iff.2 hkne
          omega⟩
        subst hq
        obtain ⟨z, hz9⟩ : ∃ z, (keyR R (x.data.toList.take i)).getLast? = some z := ⟨_, List.getLast?_eq_some_getLast hkne⟩
        obtain ⟨g8, c8, rfl⟩ := ownsRow_succ HO.out
        obtain ⟨kb0_0, kb0_1, kb0_2, kb0_3, kb0_4, kb0_5, kb0_6⟩ := H.out.1.c7
        have hz10 : (keyR R (x.data.toList.take i))[q]? = some z := by
          rw [List.getLast?_eq_getElem?, ← HKL.out] at hz9
          simpa using hz9
        have HCEL := Lib.hid (fun (W : World) (h : W.ownsRow base 5 1 (.slice (some ⟨g8, 0, none⟩) (q + 1) c8) (q + 1) (bytesV (keyR R (x.data.toList.take i)))) => show W.cell? ⟨g8, q, none⟩ = some (.int .u8 (z.toNat : Int)) from by
          rw [h.cellAt q (by omega), bytesV, List.getElem?_map, hz10]; rfl)
        have hq5 : q + 1 ≤ 5 := by omega
        unfold Nm.kst at HTK
        rw [if_neg (by rw [← HKL.out]; omega), hz9] at HTK
        clear hz hne hkne hz9 hz10
        cases hsf : inS R.soft x[i] with
        | true =>
          rw [if_pos (by simp [hsf])] at HTK
          go_wp2_with (go_at_call 29; (with_reducible refine (CF.out x[i] _).mono ?_); rintro e w4 ⟨rfl, h4⟩; have HO4 := Lib.hid (row_below HO.out h4); have H4 := Lib.hid (H.out.below h4); have s4 := h4.size; clear h4)
          go_roundw
          case rel => exact ⟨i + 1, q + 1, by omega, by go_num, by omega, by rw [HTK.out]; exact HKL.out, by rw [HTK.out]; exact HO4.out, H4.out⟩
          case measure => simp [intOf]; omega
        | false =>
          by_cases hsz : sndR R x[i] = z
          · rw [if_pos (by simp [hsz])] at HTK
            subst hsz
            go_wp2_with (go_at_call 29; (with_reducible refine (CF.out x[i] _).mono ?_); rintro e w4 ⟨rfl, h4⟩; have HO4 := Lib.hid (row_below HO.out h4); have H4 := Lib.hid (H.out.below h4); have s4 := h4.size; have k9 := HCEL.out w4 HO4.out; clear h4)
            go_roundw
            case rel => exact ⟨i + 1, q + 1, by omega, by go_num, by omega, by rw [HTK.out]; exact HKL.out, by rw [HTK.out]; exact HO4.out, H4.out⟩
            case measure => simp [intOf]; omega
          · rw [if_neg (by simp [hsf]; exact fun e => hsz e.symm)] at HTK
            have HNEW := HTK
            have hzn : ¬ ((sndR R x[i]).toNat = z.toNat) := fun e => hsz (UInt8.toNat_inj.1 e)
            have hzi : ¬ ((sndR R x[i]).toNat : Int) = (z.toNat : Int) := by omega
            clear HTK hsz
            have CV := Lib.hid (fun (W : World) (gg cc : Nat) (h : W.ownsRow base 5 1 (.slice (some ⟨gg, 0, none⟩) ((q + 1) + 1) cc) ((q + 1) + 1) (bytesV (keyR R (x.data.toList.take i)) ++ [.int .u8 ((sndR R x[i]).toNat : Int)])) (h6 : (q + 1) = 5) => show (convert 87 9 (.slice (some ⟨gg, 0, none⟩) ((q + 1) + 1) cc)).run Tryz.prog W = .ok (.string ⟨(keyR R x.data.toList).toArray⟩) W from by
              have hl : (keyR R (x.data.toList.take (i + 1))).length = (q + 1) + 1 := by rw [HNEW.out, List.length_append, ← HKL.out]; rfl
              rw [H6.out (by omega)]
              rw [← hl] at h ⊢
              refine conv_key (base := base) ?_
              rw [HNEW.out] at h ⊢
              simpa [bytesV] using h)
            by_cases hk5 : (q + 1) = 5
            · obtain rfl : q = 4 := by omega
              clear hk5
              go_wp2_with (first
                | (go_at_call 29; (with_reducible refine (CF.out x[i] _).mono ?_); rintro e w4 ⟨rfl, h4⟩; have HO4 := Lib.hid (row_below HO.out h4); have H4 := Lib.hid (H.out.below h4); have s4 := h4.size; have k9 := HCEL.out w4 HO4.out; clear h4)
                | (at_builtin; refine wpList_append_own _ rfl _ _ 87 rfl base 5 i0 (.int .u8 0) 1 1 Tryz.underlying87 hi hz0 hz1 hz2 rfl (by decide) _ _ _ rfl (HO4.out.alloc _) ⟨w4.heap.size, 0, none⟩ 1 1 [.int .u8 ((sndR R x[i]).toNat : Int)] rfl rfl (cell_one_new _ _ _) (by simp [Value.oneCell']) (by unfold maxLen; omega) (by omega) (by simp; omega) ?_; intro v' w5 hown' hgrow _; obtain ⟨g5, c5, rfl⟩ := ownsRow_succ hown'; have hcv : (convert 87 9 (.slice (some ⟨g5, 0, none⟩) 6 c5)).run Tryz.prog w5 = .ok (.string ⟨(keyR R x.data.toList).toArray⟩) w5 := CV.out w5 g5 c5 hown' (by trivial); have HO5 := Lib.hid hown'; have HG := Lib.hid hgrow; clear hown' hgrow))
              go_wp2_with fail
              go_ret2
              exact ⟨rfl, (H4.out.2.2.2.1.alloc H4.out.2.2.2.1.size _).grown HG.out (by have := H4.out.2.2.2.2.2.2.1; simp; omega) (fun r e => by have := (HO4.out.lt r e).1; have := H4.out.2.2.2.2.2.2.1; omega)⟩
            · go_wp2_with (first
                | (go_at_call 29; (with_reducible refine (CF.out x[i] _).mono ?_); rintro e w4 ⟨rfl, h4⟩; have HO4 := Lib.hid (row_below HO.out h4); have H4 := Lib.hid (H.out.below h4); have s4 := h4.size; have k9 := HCEL.out w4 HO4.out; clear h4)
                | (at_builtin; refine wpList_append_own _ rfl _ _ 87 rfl base 5 i0 (.int .u8 0) 1 1 Tryz.underlying87 hi hz0 hz1 hz2 rfl (by decide) _ _ _ rfl (HO4.out.alloc _) ⟨w4.heap.size, 0, none⟩ 1 1 [.int .u8 ((sndR R x[i]).toNat : Int)] rfl rfl (cell_one_new _ _ _) (by simp [Value.oneCell']) (by unfold maxLen; omega) (by omega) (by simp; omega) ?_; intro v' w5 hown' hgrow _; obtain ⟨g5, c5, rfl⟩ := ownsRow_succ hown'; have HO5 := Lib.hid hown'; have HG := Lib.hid hgrow; clear hown' hgrow))
              go_roundw
              case rel =>
                refine ⟨i + 1, (q + 1) + 1, by omega, by go_num, by omega, by rw [HNEW.out, List.length_append, ← HKL.out]; rfl, ?_, ?_⟩
                · rw [HNEW.out]; simpa [bytesV] using HO5.out
                · exact (H4.out.alloc _).row HG.out (fun r e => (HO4.out.lt r e).1)
              case measure => simp [intOf]; omega
    · obtain rfl : i = x.size := by omega
      rw [show x.data.toList.take x.size = x.data.toList from List.take_of_length_le (by simp)] at HKL HO
      have hne : x.data.toList ≠ [] := by
        intro e
        have e1 : x.data.toList.length = x.size := by simp
        rw [e] at e1
        simp at e1
        omega
      obtain ⟨q, hq⟩ : ∃ q, k = q + 1 := ⟨k - 1, by
        have := HKL.out
        have h2 := List.length_pos_iff.2 (keyR_pos R _ hne)
        omega⟩
      subst hq
      obtain ⟨g8, c8, rfl⟩ := ownsRow_succ HO.out
      have hcv : (convert 87 9 (.slice (some ⟨g8, 0, none⟩) (q + 1) c8)).run Tryz.prog wr = .ok (.string ⟨(keyR R x.data.toList).toArray⟩) wr := by
        have h := HO.out
        rw [HKL.out] at h ⊢
        exact conv_key h
      clear hne
      go_wp2_with fail
      go_ret2
      exact ⟨rfl, H.out.2.2.2.1⟩
set_option maxRecDepth 100000 in
set_option maxHeartbeats 400000 in
theorem Key_bad (a : Option Addr) (g o c n : Nat) (R : RB) (w : World) (hN : R.cls.length = n) (hk : SK w a g o R.cls) (hc : n ≤ c) (ht : Thn R) (x : ByteArray) (hx : x.size ≤ 1000) (v : Nat) (hv : chkN R [x] = v) (h0 : v ≠ 0) :
    Calls Tryz.prog 9 #[rulesV a n c R.soft R.al R.ot R.sk R.ss R.db, .string x] w fun e w' => e = .returned (.tuple #[.string ⟨#[]⟩, .int .i64 (v : Nat)]) ∧ Below w.heap.size w w' := by
  have CK := Lib.hid (fun W b (hW : Below w.heap.size w W) (hb : Blk W b #[.string x] 9) => check_any a g o c n R W hN (hk.below hW) hc ht (some ⟨b, 0, none⟩) b 0 1 1 [x] rfl (sk1 hb) (by omega) (fun s hs => by simp at hs; subst hs; exact hx))
  rw [hv] at CK
  have t0 : ((v : Int) == 0) = false := by simp; omega
  have t1 : ((v : Int) != 0) = true := by simp; omega
  clear hk ht hN hx hv h0
  have s0 := (KS.start w).new (rulesC a n c R.soft R.al R.ot R.sk R.ss R.db) 33
  obtain ⟨kb0_0, kb0_1, kb0_2, kb0_3, kb0_4, kb0_5, kb0_6⟩ := (s0.blkAt 0 rfl).c7
  have S0 := Lib.hid s0
  clear s0
  go_enter Tryz.func9, Tryz.ntmps9
  go_wp2_with fail
  refine (CK.out _ (w.heap.size + 1) ((S0.out.bel).alloc S0.out.size _) (two_new w _ _ _ _).2.1).mono ?_
  rintro e w1 ⟨rfl, h1⟩
  clear kb0_0 kb0_1 kb0_2 kb0_3 kb0_4 kb0_5 kb0_6
  have s1 := (S0.out.alloc (.cells #[.string x] 9)).below h1
  obtain ⟨kb0_0, kb0_1, kb0_2, kb0_3, kb0_4, kb0_5, kb0_6⟩ := (s1.blkAt 0 rfl).c7
  have S1 := Lib.hid s1
  clear h1 s1
  go_wp2_with fail
  go_ret2
  exact ⟨rfl, S1.out.bel⟩
/-- Key, whatever the rules and name -/
def keyV (R : RB) (x : ByteArray) : List UInt8 := if chkN R [x] = 0 then keyR R x.data.toList else []
theorem Key_any (a : Option Addr) (g o c n : Nat) (R : RB) (w : World) (hN : R.cls.length = n) (hk : SK w a g o R.cls) (hc : n ≤ c) (ht : Thn R) (x : ByteArray) (hx : x.size ≤ 1000) : Calls Tryz.prog 9 #[rulesV a n c R.soft R.al R.ot R.sk R.ss R.db, .string x] w fun e w' => e = .returned (.tuple #[.string ⟨(keyV R x).toArray⟩, .int .i64 (chkN R [x] : Nat)]) ∧ Below w.heap.size w w' := by
  unfold keyV
  by_cases h : chkN R [x] = 0
  · rw [if_pos h, h]; exact Key_good a g o c n R w hN hk hc ht x hx h
  · rw [if_neg h]; exact Key_bad a g o c n R w hN hk hc ht x hx _ rfl h
end Go.Proofs.YtdfebccmjbocjaaGreatDoor.Na
namespace Go.Proofs.YtdfebccmjbocjaaGreatDoor.Na
open Go.RowKit Go.Shelf

def shB (l : List ByteArray) : Bool := decide (l.length ≤ 15) && l.all fun s => decide (s.size ≤ 40)
set_option maxRecDepth 100000 in
set_option maxHeartbeats 1000000 in
theorem short48 (a : Option Addr) (g o c n : Nat) (l : List ByteArray) (w : World) (hM : l.length = n) (hk : SK w a g o l) : Calls Tryz.prog 24 #[.slice a n c] w fun e w' => e = .returned (.bool (shB l)) ∧ w' = w := by
  have HK := Lib.hid hk
  have HM := Lib.hid hM
  clear hk
  generalize hB : shB l = B
  have HB := Lib.hid hB
  clear hB hM
  go_enter Tryz.func24, Tryz.ntmps24
  go_wp2_with fail
  go_loopw [3] (fun y wr => wr = w ∧ ∃ i : Nat, i ≤ n ∧ i ≤ 16 ∧ y = .int .i64 (i : Int) ∧ Hid (∀ j s, j < i → l[j]? = some s → s.size ≤ 40)) (fun y _ => 16 - (intOf y).toNat)
  case atStart => exact ⟨rfl, 0, Nat.zero_le _, by omega, rfl, fun j s h => by omega⟩
  case round =>
    obtain ⟨hw, i, hi1, hi2, rfl, HS⟩ := hrel
    replace hw := hw.symm
    subst hw
    by_cases hin : i < n
    · by_cases h16 : i < 16
      · obtain ⟨s, hs⟩ : ∃ s, l[i]? = some s := ⟨l[i]'(by rw [HM.out]; exact hin), by simp⟩
        have hne : l ≠ [] := by rintro e; rw [e] at hs; simp at hs
        have e1 := HK.out.1 hne
        subst e1
        have k0 := HK.out.2.1 i s hs
        by_cases h40 : s.size ≤ 40
        · have p1 : ¬ (40 : Int) < (s.size : Int) := by omega
          have HS2 := Lib.hid (show ∀ j t, j < i + 1 → l[j]? = some t → t.size ≤ 40 from fun j t hj ht => by
            rcases Nat.lt_or_ge j i with h | h
            · exact HS.out j t h ht
            · obtain rfl : j = i := by omega
              rw [hs] at ht; cases ht; exact h40)
          clear hs hne
          go_wp2_with fail
          go_roundw
          case rel => exact ⟨by trivial, i + 1, by omega, by omega, by go_num, HS2.out⟩
          case measure => simp [intOf]; omega
        · have p1 : (40 : Int) < (s.size : Int) := by omega
          have hB : B = false := by
            rw [← HB.out]
            unfold shB
            have : (l.all fun s => decide (s.size ≤ 40)) = false := List.all_eq_false.2 ⟨s, List.mem_of_getElem? hs, by simpa using h40⟩
            rw [this, Bool.and_false]
          subst hB
          clear hs hne
          go_wp2_with fail
          go_ret
          exact ⟨rfl, rfl⟩
      · have hB : B = false := by
          rw [← HB.out]
          unfold shB
          rw [show decide (l.length ≤ 15) = false by simp; have := HM.out; omega, Bool.false_and]
        subst hB
        have p1 : ¬ (i : Int) < 16 := by omega
        have p2 : ¬ (n : Int) ≤ 15 := by omega
        go_wp2_with fail
        go_ret
        exact ⟨rfl, rfl⟩
    · obtain rfl : i = n := by omega
      have hall : (l.all fun s => decide (s.size ≤ 40)) = true := List.all_eq_true.2 fun s hs => by
        obtain ⟨j, hj, e⟩ := List.mem_iff_getElem.1 hs
        have := HS.out j s (by rw [← HM.out]; exact hj) (by rw [List.getElem?_eq_getElem hj, e])
        simpa using this
      have hB2 : B = decide ((i : Int) ≤ 15) := by
        rw [← HB.out]
        unfold shB
        rw [hall, Bool.and_true, HM.out, decide_eq_decide]
        omega
      have HB2 := Lib.hid hB2
      clear hB2 hall
      go_wp2_with fail
      go_ret
      exact ⟨by rw [HB2.out]; rfl, rfl⟩
end Go.Proofs.YtdfebccmjbocjaaGreatDoor.Na
namespace Go.Proofs.YtdfebccmjbocjaaGreatDoor.Na
open Go.RowKit Go.Shelf

set_option maxRecDepth 100000 in
set_option maxHeartbeats 1000000 in
theorem letters61 (s : ByteArray) (hs : s.size ≤ 1000) (w : World) : Calls Tryz.prog 25 #[.string s] w fun e w' => e = .returned (.bool (s.data.toList.all isL)) ∧ w' = w := by
  generalize hB : s.data.toList.all isL = B
  have HB := Lib.hid hB
  clear hB
  go_enter Tryz.func25, Tryz.ntmps25
  go_wp2_with fail
  go_loopw [3] (fun y wr => wr = w ∧ ∃ i : Nat, i ≤ s.size ∧ y = .int .i64 (i : Int) ∧ Hid (∀ j (h : j < s.size), j < i → isL s[j] = true)) (fun y _ => s.size - (intOf y).toNat)
  case atStart => exact ⟨rfl, 0, Nat.zero_le _, rfl, fun j s h => by omega⟩
  case round =>
    obtain ⟨hw, i, hi1, rfl, HS⟩ := hrel
    replace hw := hw.symm
    subst hw
    by_cases hin : i < s.size
    · by_cases hL : isL s[i] = true
      · have hL2 := hL
        simp only [isL, decide_eq_true_eq] at hL2
        have p1 : ¬ (s[i].toNat : Int) < 65 := by omega
        have p2 : ¬ (90 : Int) < (s[i].toNat : Int) := by omega
        have HS2 := Lib.hid (show ∀ j (h : j < s.size), j < i + 1 → isL s[j] = true from fun j h hj => by
          rcases Nat.lt_or_ge j i with h2 | h2
          · exact HS.out j h h2
          · obtain rfl : j = i := by omega
            exact hL)
        clear hL hL2
        go_wp2_with fail
        go_roundw
        case rel => exact ⟨by trivial, i + 1, by omega, by go_num, HS2.out⟩
        case measure => simp [intOf]; omega
      · have hL2 := hL
        simp only [isL, decide_eq_true_eq] at hL2
        have hB : B = false := by
          rw [← HB.out]
          refine List.all_eq_false.2 ⟨s[i], ?_, hL⟩
          exact List.getElem_mem (l := s.data.toList) (n := i) (by simpa using hin)
        subst hB
        by_cases h65 : s[i].toNat < 65
        · have p1 : (s[i].toNat : Int) < 65 := by omega
          clear hL hL2
          go_wp2_with fail
          go_ret
          exact ⟨rfl, rfl⟩
        · have p1 : ¬ (s[i].toNat : Int) < 65 := by omega
          have p2 : (90 : Int) < (s[i].toNat : Int) := by omega
          clear hL hL2
          go_wp2_with fail
          go_ret
          exact ⟨rfl, rfl⟩
    · have hB : B = true := by
        rw [← HB.out]
        refine List.all_eq_true.2 fun x hx => ?_
        obtain ⟨j, hj, e⟩ := List.mem_iff_getElem.1 hx
        have := HS.out j (by simpa using hj) (by have : j < s.size := by simpa using hj
                                                 omega)
        rw [← e]; exact this
      subst hB
      go_wp2_with fail
      go_ret
      exact ⟨rfl, rfl⟩
end Go.Proofs.YtdfebccmjbocjaaGreatDoor.Na
namespace Go.Proofs.YtdfebccmjbocjaaGreatDoor.Na
open Go.RowKit Go.Shelf

def bAr (p : Nat → Bool) : List Value := (List.range 256).map fun i => .bool (p i)
def memB (l : List UInt8) (j : Nat) : Bool := decide (UInt8.ofNat j ∈ l)
theorem bAr_get (p : Nat → Bool) (i : Nat) (h : i < 256) : (bAr p).toArray[i]? = some (.bool (p i)) := by simp [bAr, h]
theorem memB_u8 (l : List UInt8) (b : UInt8) : memB l b.toNat = decide (b ∈ l) := by unfold memB; rw [UInt8.ofNat_toNat]
theorem bAr_set (l : List UInt8) (b : UInt8) : (bAr (memB l)).toArray.setIfInBounds b.toNat (.bool true) = (bAr (memB (l ++ [b]))).toArray := by
  have hb := b.toNat_lt
  apply Array.ext_getElem?
  intro i
  rw [Array.getElem?_setIfInBounds]
  by_cases h : b.toNat = i
  · subst h
    rw [if_pos rfl, if_pos (by simp [bAr]; omega), bAr_get _ _ (by omega), memB_u8]
    simp
  · rw [if_neg h]
    by_cases hi : i < 256
    · rw [bAr_get _ _ hi, bAr_get _ _ hi]
      have hne : UInt8.ofNat i ≠ b := fun e => h (by rw [← e, UInt8.toNat_ofNat']; omega)
      unfold memB
      simp [hne]
    · rw [Array.getElem?_eq_none (by simp [bAr]; omega), Array.getElem?_eq_none (by simp [bAr]; omega)]
theorem zeros256 : Tryz.zeroCells78 = (bAr (memB [])).toArray := by kernel_rfl
def flk (R : RB) (k : Nat) : List UInt8 := ((R.cls.map (·.data.toList)).take k).flatten
theorem flk_succ {R : RB} {k : Nat} {cl : ByteArray} (h : R.cls[k]? = some cl) : flk R (k + 1) = flk R k ++ cl.data.toList := by
  unfold flk
  rw [List.take_add_one, List.getElem?_map, h]; simp
theorem flk_fl {R : RB} {k : Nat} : ∃ t, fl R = flk R k ++ t := by
  refine ⟨((R.cls.map (·.data.toList)).drop k).flatten, ?_⟩
  unfold fl flk
  rw [← List.flatten_append, List.take_append_drop]
theorem flk_all {R : RB} {k : Nat} (h : R.cls.length ≤ k) : flk R k = fl R := by
  unfold fl flk
  rw [List.take_of_length_le (by simpa using h)]
theorem rul_dist {R : RB} {k : Nat} (h : distB (flk R k) = false) : rulB R = false := by
  obtain ⟨t, e⟩ := flk_fl (R := R) (k := k)
  unfold rulB
  rw [e, distB_pre h]; rfl
theorem rul_ev {R : RB} {k : Nat} {cl : ByteArray} (hk : R.cls[k]? = some cl) (h : evB R.soft cl = false) : rulB R = false := by
  unfold rulB
  have : R.cls.all (evB R.soft) = false := List.all_eq_false.2 ⟨cl, List.mem_of_getElem? hk, by rw [h]; simp⟩
  rw [this]; simp
theorem rul_soft {R : RB} (h : distB R.soft.data.toList = false) : rulB R = false := by
  unfold rulB
  rw [h]; simp
theorem rul_cos {R : RB} (h : cosB R = false) : rulB R = false := by
  unfold rulB
  rw [h]; simp
theorem chk_one {R : RB} (h8 : R.cls.length ≤ 8) (h : rulB R = false) : chk R = 1 := by
  unfold chk
  rw [if_neg (by omega), h]; rfl
theorem nodup_not {l : List UInt8} {i : Nat} {b : UInt8} (h : l[i]? = some b) (hm : b ∈ l.take i) : ¬ l.Nodup := by
  intro hn
  have e : l = (l.take i ++ [b]) ++ l.drop (i + 1) := by
    have := (List.getElem?_eq_some_iff.1 h)
    obtain ⟨hi, e⟩ := this
    rw [← e]; simp
  rw [e] at hn
  have h2 := (List.nodup_append.1 hn).1
  have h3 := (List.nodup_append.1 h2).2.2 b hm b (by simp)
  exact h3 rfl
theorem soft_twice {s : ByteArray} {i : Nat} {b : UInt8} (h : s.data.toList[i]? = some b) (hm : b ∈ s.data.toList.take i) : distB s.data.toList = false := by
  unfold distB
  rw [decide_eq_false (nodup_not h hm), Bool.and_false]
theorem take_snoc {l : List UInt8} {i : Nat} {b : UInt8} (h : l[i]? = some b) : l.take (i + 1) = l.take i ++ [b] := by
  rw [List.take_add_one, h]; rfl
theorem nodup_take {l : List UInt8} {i : Nat} {b : UInt8} (h : l[i]? = some b) (hn : (l.take i).Nodup) (hm : b ∉ l.take i) : (l.take (i + 1)).Nodup := by
  rw [take_snoc h, List.nodup_append]
  exact ⟨hn, by simp, fun x hx y hy e => hm (by simp at hy; rw [← hy, ← e]; exact hx)⟩
theorem get_u8 {s : ByteArray} {i : Nat} (h : i < s.size) : s.data.toList[i]? = some s[i] := by rw [List.getElem?_eq_getElem (by simpa using h)]; rfl
/-- what the classes' loop has found so far -/
def CK (R : RB) (k : Nat) : Prop := distB (flk R k) = true ∧ ∀ j cl, j < k → R.cls[j]? = some cl → evB R.soft cl = true
theorem evB_intro {s cl : ByteArray} (h0 : 0 < cl.size) (h : ∀ j (hj : j < cl.size), inS s cl[j] = inS s cl[0]) : evB s cl = true := by
  unfold evB
  rw [headD_get cl h0]
  have h1 : cl.data.toList.isEmpty = false := by
    cases e : cl.data.toList with
    | nil => have h2 : cl.data.toList.length = cl.size := by simp
             rw [e] at h2; simp at h2; omega
    | cons x t => rfl
  rw [h1, Bool.not_false, Bool.true_and, List.all_eq_true]
  intro x hx
  obtain ⟨j, hj, e⟩ := List.mem_iff_getElem.1 hx
  have := h j (by simpa using hj)
  rw [beq_iff_eq, ← e]; exact this
theorem evB_not {s cl : ByteArray} {j : Nat} (hj : j < cl.size) (h : inS s cl[j] ≠ inS s (cl[0]'(by omega))) : evB s cl = false := by
  unfold evB
  rw [headD_get cl (by omega)]
  have : (cl.data.toList.all fun b => inS s b == inS s (cl[0]'(by omega))) = false := List.all_eq_false.2 ⟨cl[j], List.getElem_mem (l := cl.data.toList) (n := j) (by simpa using hj), by simpa using h⟩
  rw [this, Bool.and_false]
theorem evB_empty {s cl : ByteArray} (h : cl.size = 0) : evB s cl = false := by
  unfold evB
  have : cl.data.toList = [] := List.eq_nil_of_length_eq_zero (by simpa using h)
  rw [this]; rfl
theorem dist_letters {l : List UInt8} {cl : ByteArray} (h : cl.data.toList.all isL = false) : distB (l ++ cl.data.toList) = false := by
  unfold distB
  rw [List.all_append, h]; simp
/-- the blocks of the walk -/
def FSt (w : World) (rc : Array Value) (p q : List UInt8) (W : World) : Prop :=
  Blk W w.heap.size rc 24 ∧ Blk W (w.heap.size + 1) (bAr (memB p)).toArray 78 ∧ Blk W (w.heap.size + 1 + 1) (bAr (memB q)).toArray 78 ∧ Below w.heap.size w W
theorem FSt.below {w W W' : World} {rc : Array Value} {p q : List UInt8} (h : FSt w rc p q W) (hb : Below W.heap.size W W') : FSt w rc p q W' := ⟨h.1.b hb, h.2.1.b hb, h.2.2.1.b hb, h.2.2.2.trans (hb.mono h.2.2.2.size)⟩
theorem FSt.drew {w W : World} {rc : Array Value} {p q : List UInt8} (h : FSt w rc p q W) : FSt w rc p q W.drew := h.below (Below.refl _ _).drew
theorem FSt.setQ {w W : World} {rc : Array Value} {p q : List UInt8} (h : FSt w rc p q W) (b : UInt8) : FSt w rc p (q ++ [b]) (W.setCell ⟨w.heap.size + 1 + 1, b.toNat, none⟩ (.bool true)) :=
  ⟨h.1.other (by simp; omega) _, h.2.1.other (by simp) _, by rw [← bAr_set]; exact h.2.2.1.set _ _, h.2.2.2.setCell (p := ⟨w.heap.size + 1 + 1, _, none⟩) (by simp; omega) _⟩
theorem FSt.setP {w W : World} {rc : Array Value} {p q : List UInt8} (h : FSt w rc p q W) (b : UInt8) : FSt w rc (p ++ [b]) q (W.setCell ⟨w.heap.size + 1, b.toNat, none⟩ (.bool true)) :=
  ⟨h.1.other (by simp) _, by rw [← bAr_set]; exact h.2.1.set _ _, h.2.2.1.other (by simp) _, h.2.2.2.setCell (p := ⟨w.heap.size + 1, _, none⟩) (by simp) _⟩
theorem FSt.p {w W : World} {rc : Array Value} {p q : List UInt8} (h : FSt w rc p q W) (b : UInt8) : W.cell? ⟨w.heap.size + 1, b.toNat, none⟩ = some (.bool (decide (b ∈ p))) := by
  rw [h.2.1.cell, bAr_get _ _ (by have := b.toNat_lt; omega), memB_u8]
theorem FSt.q {w W : World} {rc : Array Value} {p q : List UInt8} (h : FSt w rc p q W) (b : UInt8) : W.cell? ⟨w.heap.size + 1 + 1, b.toNat, none⟩ = some (.bool (decide (b ∈ q))) := by
  rw [h.2.2.1.cell, bAr_get _ _ (by have := b.toNat_lt; omega), memB_u8]
set_option maxRecDepth 100000 in
set_option maxHeartbeats 8000000 in
theorem Fault_any (a : Option Addr) (g o c n : Nat) (R : RB) (w : World) (hN : R.cls.length = n) (hk : SK w a g o R.cls) (ht : Thn R) : Calls Tryz.prog 6 #[rulesV a n c R.soft R.al R.ot R.sk R.ss R.db] w fun e w' => e = .returned (.int .i64 (chk R : Nat)) ∧ Below w.heap.size w w' := by
  by_cases h8 : 8 < n
  · have hv : chk R = 3 := by unfold chk; rw [if_pos (by omega)]
    rw [hv]
    have p1 : (8 : Int) < (n : Int) := by omega
    clear hk hN ht hv h8
    go_enter Tryz.func6, Tryz.ntmps6
    go_wp2_with fail
    go_ret
    exact ⟨rfl, (Below.refl _ _).alloc (Nat.le_refl _) _⟩
  · have p1 : ¬ (8 : Int) < (n : Int) := by omega
    have hs1000 := ht.2.2
    have HK := Lib.hid hk
    have HN := Lib.hid hN
    have HT := Lib.hid ht
    have H8 := Lib.hid (show R.cls.length ≤ 8 by omega)
    have hn8 : n ≤ 8 := by omega
    generalize hV : chk R = V
    have HV := Lib.hid hV
    clear hk hN ht h8 hV
    go_enter Tryz.func6, Tryz.ntmps6
    go_wp2_with fail
    obtain ⟨d1, d2, d3, d4, d5⟩ := three_new w (rulesC a n c R.soft R.al R.ot R.sk R.ss R.db) Tryz.zeroCells78 Tryz.zeroCells78 24 78 78
    have S0 := Lib.hid (show FSt w (rulesC a n c R.soft R.al R.ot R.sk R.ss R.db) [] [] (((w.alloc (.cells (rulesC a n c R.soft R.al R.ot R.sk R.ss R.db) 24)).alloc (.cells Tryz.zeroCells78 78)).alloc (.cells Tryz.zeroCells78 78)) from ⟨d1, by rw [← zeros256]; exact d2, by rw [← zeros256]; exact d3, d4⟩)
    clear d1 d2 d3 d4 d5
    go_loopw [5] (fun y wr => ∃ i : Nat, i ≤ R.soft.size ∧ y = .int .i64 (i : Int) ∧ Hid ((R.soft.data.toList.take i).Nodup ∧ FSt w (rulesC a n c R.soft R.al R.ot R.sk R.ss R.db) [] (R.soft.data.toList.take i) wr)) (fun y _ => R.soft.size - (intOf y).toNat)
    case atStart => exact ⟨0, Nat.zero_le _, rfl, by simp, S0.out⟩
    case round =>
      clear S0
      obtain ⟨i, hi, rfl, H⟩ := hrel
      have kc1 := H.out.2.1.cell 1
      by_cases hin : i < R.soft.size
      · have hget := get_u8 hin
        have q0 : (0 : Int) ≤ (R.soft[i].toNat : Int) := by omega
        have q1 : (R.soft[i].toNat : Int) < 256 := by have := R.soft[i].toNat_lt; omega
        have kq := H.out.2.q R.soft[i]
        have fq := H.out.2.2.2.1.frozen R.soft[i].toNat
        have HG := Lib.hid hget
        by_cases hm : R.soft[i] ∈ R.soft.data.toList.take i
        · rw [decide_eq_true hm] at kq
          have hv : V = 1 := HV.out.symm.trans (chk_one H8.out (rul_soft (soft_twice HG.out hm)))
          subst hv
          clear hm hget
          go_wp2_with fail
          go_ret
          exact ⟨rfl, H.out.2.2.2.2⟩
        · rw [decide_eq_false hm] at kq
          have S1 := Lib.hid (show (R.soft.data.toList.take (i + 1)).Nodup ∧ FSt w (rulesC a n c R.soft R.al R.ot R.sk R.ss R.db) [] (R.soft.data.toList.take (i + 1)) (wr.setCell ⟨w.heap.size + 1 + 1, R.soft[i].toNat, none⟩ (.bool true)) from ⟨nodup_take HG.out H.out.1 hm, by rw [take_snoc HG.out]; exact H.out.2.setQ R.soft[i]⟩)
          clear hm hget
          go_wp2_with fail
          go_roundw
          case rel => exact ⟨i + 1, by omega, by go_num, S1.out⟩
          case measure => simp [intOf]; omega
      · have hi2 : i = R.soft.size := by omega
        have S1 := Lib.hid (show R.soft.data.toList.Nodup ∧ FSt w (rulesC a n c R.soft R.al R.ot R.sk R.ss R.db) [] R.soft.data.toList wr by have h := H.out; rw [List.take_of_length_le (by simp; omega)] at h; exact h)
        subst hi2
        have hc0 := H.out.2.1.cell 0
        clear H
        by_cases hL : R.soft.data.toList.all isL = true
        · have C61 := Lib.hid (fun W => letters61 R.soft (by omega) W)
          rw [hL] at C61
          have hds : distB R.soft.data.toList = true := by unfold distB; rw [hL, Bool.true_and, decide_eq_true_eq]; exact S1.out.1
          have HDS := Lib.hid hds
          have S2 := Lib.hid (show CK R 0 ∧ FSt w (rulesC a n c R.soft R.al R.ot R.sk R.ss R.db) (flk R 0) R.soft.data.toList wr from ⟨⟨by simp [flk, distB], fun j cl hj => by omega⟩, by have h := S1.out.2; simpa [flk] using h⟩)
          clear hL hds S1
          go_wp2_with (go_at_call 25; (with_reducible refine (C61.out _).mono ?_); rintro e w1 ⟨rfl, rfl⟩)
          clear kc1 hc0
          go_loopw [6] (fun y wr => ∃ k : Nat, k ≤ n ∧ y = .int .i64 (k : Int) ∧ Hid (CK R k ∧ FSt w (rulesC a n c R.soft R.al R.ot R.sk R.ss R.db) (flk R k) R.soft.data.toList wr)) (fun y _ => n - (intOf y).toNat)
          case atStart => exact ⟨0, Nat.zero_le _, rfl, S2.out⟩
          case round =>
            clear S2
            obtain ⟨k, hk, rfl, H⟩ := hrel
            have kc0 := H.out.2.1.cell 0
            by_cases hkn : k < n
            · obtain ⟨cl, hcl⟩ : ∃ cl, R.cls[k]? = some cl := ⟨R.cls[k]'(by rw [HN.out]; exact hkn), by simp⟩
              have HCL := Lib.hid hcl
              have hne : R.cls ≠ [] := by rintro e; rw [e] at hcl; simp at hcl
              have e1 := HK.out.1 hne
              subst e1
              have k0 := (HK.out.2.1.below H.out.2.2.2.2 (HK.out.2.2 hne)) k cl hcl
              have hcs := HT.out.2.1 cl (List.mem_of_getElem? hcl)
              clear hcl hne
              by_cases hz : cl.size = 0
              · have hv : V = 1 := HV.out.symm.trans (chk_one H8.out (rul_ev HCL.out (evB_empty hz)))
                subst hv
                have p2 : ((cl.size : Int) == 0) = true := by rw [beq_iff_eq]; omega
                clear hz
                go_wp2_with fail
                go_ret
                exact ⟨rfl, H.out.2.2.2.2⟩
              · have p2 : ((cl.size : Int) == 0) = false := by rw [beq_eq_false_iff_ne]; omega
                by_cases hL : cl.data.toList.all isL = true
                · have C61 := Lib.hid (fun W => letters61 cl hcs W)
                  rw [hL] at C61
                  have HLL := Lib.hid hL
                  have hpos : 0 < cl.size := by omega
                  have S3 := Lib.hid (show distB (flk R k ++ cl.data.toList.take 0) = true ∧ (∀ j (hj : j < cl.size), j < 0 → inS R.soft cl[j] = inS R.soft cl[0]) ∧ FSt w (rulesC (some ⟨g, o, none⟩) n c R.soft R.al R.ot R.sk R.ss R.db) (flk R k ++ cl.data.toList.take 0) R.soft.data.toList wr from ⟨by rw [List.take_zero, List.append_nil]; exact H.out.1.1, fun j _ h => by omega, by rw [List.take_zero, List.append_nil]; exact H.out.2⟩)
                  clear hL hz
                  go_wp2_with (go_at_call 25; (with_reducible refine (C61.out _).mono ?_); rintro e w1 ⟨rfl, rfl⟩)
                  clear k0 kc0
                  have HCK := Lib.hid H.out.1
                  clear H
                  go_loopw [8] (fun y wr => ∃ i : Nat, i ≤ cl.size ∧ y = .int .i64 (i : Int) ∧ Hid (distB (flk R k ++ cl.data.toList.take i) = true ∧ (∀ j (hj : j < cl.size), j < i → inS R.soft cl[j] = inS R.soft cl[0]) ∧ FSt w (rulesC (some ⟨g, o, none⟩) n c R.soft R.al R.ot R.sk R.ss R.db) (flk R k ++ cl.data.toList.take i) R.soft.data.toList wr)) (fun y _ => cl.size - (intOf y).toNat)
                  case atStart => exact ⟨0, Nat.zero_le _, rfl, S3.out⟩
                  case round =>
                    clear S3
                    obtain ⟨i, hi, rfl, H⟩ := hrel
                    by_cases hin : i < cl.size
                    · have q0 : (0 : Int) ≤ (cl[i].toNat : Int) := by omega
                      have q1 : (cl[i].toNat : Int) < 256 := by have := cl[i].toNat_lt; omega
                      have q2 : (0 : Int) ≤ (cl[0].toNat : Int) := by omega
                      have q3 : (cl[0].toNat : Int) < 256 := by have := cl[0].toNat_lt; omega
                      have q4 : (0 : Int) < (cl.size : Int) := by omega
                      have HG := Lib.hid (get_u8 hin)
                      obtain ⟨BS, hBS⟩ : ∃ BS, BS = (rulesC (some ⟨g, o, none⟩) n c R.soft R.al R.ot R.sk R.ss R.db) := ⟨_, rfl⟩
                      obtain ⟨PP, hPP⟩ : ∃ PP, PP = flk R k ++ cl.data.toList.take i := ⟨_, rfl⟩
                      have hS : FSt w BS PP R.soft.data.toList wr.drew := by rw [hBS, hPP]; exact H.out.2.2.drew
                      by_cases hm : cl[i] ∈ flk R k ++ cl.data.toList.take i
                      · have K0 : ∀ W, FSt w BS PP R.soft.data.toList W → W.cell? ⟨w.heap.size + 1, cl[i].toNat, none⟩ = some (.bool true) := fun W h => by rw [h.p, hPP, decide_eq_true hm]
                        have hd : distB (flk R (k + 1)) = false := by
                          rw [flk_succ HCL.out, ← List.take_append_drop (i + 1) cl.data.toList, ← List.append_assoc]
                          refine distB_pre ?_
                          rw [take_snoc HG.out, ← List.append_assoc, distB_snoc, decide_eq_true hm]; simp
                        have hv : V = 1 := HV.out.symm.trans (chk_one H8.out (rul_dist hd))
                        subst hv
                        have HBS := Lib.hid (And.intro hBS hPP)
                        clear hm hd hBS hPP
                        go_wp2_with fail
                        refine wp_region_held_drew (S := FSt w BS PP R.soft.data.toList) (by kernel_rfl) hS (fun hHeld => ?_)
                        refine wpAnyH_take (i := 0) (v := ?_) rfl (by kernel_rfl) (by kernel_rfl) (by kernel_rfl) (fun _ _ _ h => h) (Or.inl ⟨by kernel_rfl, ?h0⟩) hHeld ?_
                        case h0 =>
                          intro w' hSw
                          (try dsimp only at hSw)
                          go_simp
                          (try with_reducible rfl)
                        (try simp only [Act.put]); (try simp only [List.setIfInBounds_toArray]); (try simp only [List.set_cons_succ]); (try simp only [List.set_cons_zero])
                        refine wpAnyH_take (i := 1) (v := ?_) rfl (by kernel_rfl) (by kernel_rfl) (by kernel_rfl) (fun _ _ _ h => h) (Or.inl ⟨by kernel_rfl, ?h1⟩) hHeld ?_
                        case h1 =>
                          intro w' hSw
                          (try dsimp only at hSw)
                          go_simp
                          (try with_reducible rfl)
                        (try simp only [Act.put]); (try simp only [List.setIfInBounds_toArray]); (try simp only [List.set_cons_succ]); (try simp only [List.set_cons_zero])
                        refine wpAnyH_take (i := 2) (v := ?_) rfl (by kernel_rfl) (by kernel_rfl) (by kernel_rfl) (fun _ _ _ h => h) (Or.inl ⟨by kernel_rfl, ?h2⟩) hHeld ?_
                        case h2 =>
                          intro w' hSw
                          (try dsimp only at hSw)
                          go_simp
                          (try with_reducible rfl)
                        (try simp only [Act.put]); (try simp only [List.setIfInBounds_toArray]); (try simp only [List.set_cons_succ]); (try simp only [List.set_cons_zero])
                        refine wpAnyH_take (i := 3) (v := ?_) rfl (by kernel_rfl) (by kernel_rfl) (by kernel_rfl) (fun _ _ _ h => h) (Or.inl ⟨by kernel_rfl, ?h3⟩) hHeld ?_
                        case h3 =>
                          intro w' hSw
                          (try dsimp only at hSw)
                          go_simp
                          (try with_reducible rfl)
                        (try simp only [Act.put]); (try simp only [List.setIfInBounds_toArray]); (try simp only [List.set_cons_succ]); (try simp only [List.set_cons_zero])
                        refine wpAnyH_take (i := 4) (v := ?_) rfl (by kernel_rfl) (by kernel_rfl) (by kernel_rfl) (fun _ _ _ h => h) (Or.inl ⟨by kernel_rfl, ?h4⟩) hHeld ?_
                        case h4 =>
                          intro w' hSw
                          (try dsimp only at hSw)
                          go_simp
                          (try with_reducible rfl)
                        (try simp only [Act.put]); (try simp only [List.setIfInBounds_toArray]); (try simp only [List.set_cons_succ]); (try simp only [List.set_cons_zero])
                        refine wpAnyH_take (i := 5) (v := ?_) rfl (by kernel_rfl) (by kernel_rfl) (by kernel_rfl) (fun _ _ _ h => h) (Or.inl ⟨by kernel_rfl, ?h5⟩) hHeld ?_
                        case h5 =>
                          intro w' hSw
                          (try dsimp only at hSw)
                          go_simp
                          (try with_reducible rfl)
                        (try simp only [Act.put]); (try simp only [List.setIfInBounds_toArray]); (try simp only [List.set_cons_succ]); (try simp only [List.set_cons_zero])
                        refine wpAnyH_take (i := 6) (v := undef) rfl (by kernel_rfl) (by kernel_rfl) (by kernel_rfl) (fun _ _ _ h => h) (Or.inr ⟨by kernel_rfl, rfl⟩) hHeld ?_
                        (try simp only [Act.put]); (try simp only [List.setIfInBounds_toArray]); (try simp only [List.set_cons_succ]); (try simp only [List.set_cons_zero])
                        refine wpAnyH_take (i := 7) (v := undef) rfl (by kernel_rfl) (by kernel_rfl) (by kernel_rfl) (fun _ _ _ h => h) (Or.inr ⟨by kernel_rfl, rfl⟩) hHeld ?_
                        (try simp only [Act.put]); (try simp only [List.setIfInBounds_toArray]); (try simp only [List.set_cons_succ]); (try simp only [List.set_cons_zero])
                        refine wpAnyH_take (i := 8) (v := undef) rfl (by kernel_rfl) (by kernel_rfl) (by kernel_rfl) (fun _ _ _ h => h) (Or.inr ⟨by kernel_rfl, rfl⟩) hHeld ?_
                        (try simp only [Act.put]); (try simp only [List.setIfInBounds_toArray]); (try simp only [List.set_cons_succ]); (try simp only [List.set_cons_zero])
                        refine wpAnyH_take (i := 9) (v := undef) rfl (by kernel_rfl) (by kernel_rfl) (by kernel_rfl) (fun _ _ _ h => h) (Or.inr ⟨by kernel_rfl, rfl⟩) hHeld ?_
                        (try simp only [Act.put]); (try simp only [List.setIfInBounds_toArray]); (try simp only [List.set_cons_succ]); (try simp only [List.set_cons_zero])
                        refine wpAnyH_take (i := 10) (v := undef) rfl (by kernel_rfl) (by kernel_rfl) (by kernel_rfl) (fun _ _ _ h => h) (Or.inr ⟨by kernel_rfl, rfl⟩) hHeld ?_
                        (try simp only [Act.put]); (try simp only [List.setIfInBounds_toArray]); (try simp only [List.set_cons_succ]); (try simp only [List.set_cons_zero])
                        refine wpAnyH_take (i := 11) (v := undef) rfl (by kernel_rfl) (by kernel_rfl) (by kernel_rfl) (fun _ _ _ h => h) (Or.inr ⟨by kernel_rfl, rfl⟩) hHeld ?_
                        (try simp only [Act.put]); (try simp only [List.setIfInBounds_toArray]); (try simp only [List.set_cons_succ]); (try simp only [List.set_cons_zero])
                        refine wpAnyH_take (i := 12) (v := undef) rfl (by kernel_rfl) (by kernel_rfl) (by kernel_rfl) (fun _ _ _ h => h) (Or.inr ⟨by kernel_rfl, rfl⟩) hHeld ?_
                        (try simp only [Act.put]); (try simp only [List.setIfInBounds_toArray]); (try simp only [List.set_cons_succ]); (try simp only [List.set_cons_zero])
                        refine wpAnyH_take (i := 13) (v := undef) rfl (by kernel_rfl) (by kernel_rfl) (by kernel_rfl) (fun _ _ _ h => h) (Or.inr ⟨by kernel_rfl, rfl⟩) hHeld ?_
                        (try simp only [Act.put]); (try simp only [List.setIfInBounds_toArray]); (try simp only [List.set_cons_succ]); (try simp only [List.set_cons_zero])
                        refine wpAnyH_take (i := 14) (v := undef) rfl (by kernel_rfl) (by kernel_rfl) (by kernel_rfl) (fun _ _ _ h => h) (Or.inr ⟨by kernel_rfl, rfl⟩) hHeld ?_
                        (try simp only [Act.put]); (try simp only [List.setIfInBounds_toArray]); (try simp only [List.set_cons_succ]); (try simp only [List.set_cons_zero])
                        refine wpAnyH_take (i := 15) (v := undef) rfl (by kernel_rfl) (by kernel_rfl) (by kernel_rfl) (fun _ _ _ h => h) (Or.inr ⟨by kernel_rfl, rfl⟩) hHeld ?_
                        (try simp only [Act.put]); (try simp only [List.setIfInBounds_toArray]); (try simp only [List.set_cons_succ]); (try simp only [List.set_cons_zero])
                        refine wpAnyH_ready (rs := [16]) (by kernel_rfl) (by simp) ?_
                        refine AllReadyH.cons rfl (fun K hK => ?_) AllReadyH.nil
                        go_simp
                        refine hK.out _ _ hHeld (fun hHeld => ?_)
                        clear hK K
                        (try simp only [Act.put]); (try simp only [List.setIfInBounds_toArray]); (try simp only [List.set_cons_succ]); (try simp only [List.set_cons_zero])
                        refine wpAnyH_done (by kernel_rfl) ?_ _
                        go_wp2_with fail
                        go_ret
                        exact ⟨rfl, H.out.2.2.2.2.2.drew⟩
                      · have K0 : ∀ W, FSt w BS PP R.soft.data.toList W → W.cell? ⟨w.heap.size + 1, cl[i].toNat, none⟩ = some (.bool false) := fun W h => by rw [h.p, hPP, decide_eq_false hm]
                        have K1 : ∀ W, FSt w BS PP R.soft.data.toList W → W.cell? ⟨w.heap.size + 1 + 1, cl[i].toNat, none⟩ = some (.bool (inS R.soft cl[i])) := fun W h => by rw [h.q]; rfl
                        have K2 : ∀ W, FSt w BS PP R.soft.data.toList W → W.cell? ⟨w.heap.size + 1 + 1, cl[0].toNat, none⟩ = some (.bool (inS R.soft cl[0])) := fun W h => by rw [h.q]; rfl
                        have HBS := Lib.hid (And.intro hBS hPP)
                        have HM := Lib.hid hm
                        by_cases he : inS R.soft cl[i] = inS R.soft cl[0]
                        · have hls : isL cl[i] = true := List.all_eq_true.1 HLL.out _ (List.mem_of_getElem? HG.out)
                          have S4 := Lib.hid (show distB (flk R k ++ cl.data.toList.take (i + 1)) = true ∧ (∀ j (hj : j < cl.size), j < i + 1 → inS R.soft cl[j] = inS R.soft cl[0]) ∧ FSt w (rulesC (some ⟨g, o, none⟩) n c R.soft R.al R.ot R.sk R.ss R.db) (flk R k ++ cl.data.toList.take (i + 1)) R.soft.data.toList (wr.drew.setCell ⟨w.heap.size + 1, cl[i].toNat, none⟩ (.bool true)) from ⟨by rw [take_snoc HG.out, ← List.append_assoc, distB_snoc, H.out.1, hls, decide_eq_false HM.out]; rfl, fun j hj h => by
                            rcases Nat.lt_or_ge j i with h2 | h2
                            · exact H.out.2.1 j hj h2
                            · obtain rfl : j = i := by omega
                              exact he, by rw [take_snoc HG.out, ← List.append_assoc]; exact H.out.2.2.drew.setP cl[i]⟩)
                          rw [he] at K1
                          have t0 : (inS R.soft cl[0] != inS R.soft cl[0]) = false := by simp
                          generalize inS R.soft cl[0] = bb at *
                          clear hm hBS hPP he hls
                          go_wp2_with fail
                          refine wp_region_held_drew (S := FSt w BS PP R.soft.data.toList) (by kernel_rfl) hS (fun hHeld => ?_)
                          refine wpAnyH_take (i := 0) (v := ?_) rfl (by kernel_rfl) (by kernel_rfl) (by kernel_rfl) (fun _ _ _ h => h) (Or.inl ⟨by kernel_rfl, ?h0⟩) hHeld ?_
                          case h0 =>
                            intro w' hSw
                            (try dsimp only at hSw)
                            go_simp
                            (try with_reducible rfl)
                          (try simp only [Act.put]); (try simp only [List.setIfInBounds_toArray]); (try simp only [List.set_cons_succ]); (try simp only [List.set_cons_zero])
                          refine wpAnyH_take (i := 1) (v := ?_) rfl (by kernel_rfl) (by kernel_rfl) (by kernel_rfl) (fun _ _ _ h => h) (Or.inl ⟨by kernel_rfl, ?h1⟩) hHeld ?_
                          case h1 =>
                            intro w' hSw
                            (try dsimp only at hSw)
                            go_simp
                            (try with_reducible rfl)
                          (try simp only [Act.put]); (try simp only [List.setIfInBounds_toArray]); (try simp only [List.set_cons_succ]); (try simp only [List.set_cons_zero])
                          refine wpAnyH_take (i := 2) (v := ?_) rfl (by kernel_rfl) (by kernel_rfl) (by kernel_rfl) (fun _ _ _ h => h) (Or.inl ⟨by kernel_rfl, ?h2⟩) hHeld ?_
                          case h2 =>
                            intro w' hSw
                            (try dsimp only at hSw)
                            go_simp
                            (try with_reducible rfl)
                          (try simp only [Act.put]); (try simp only [List.setIfInBounds_toArray]); (try simp only [List.set_cons_succ]); (try simp only [List.set_cons_zero])
                          refine wpAnyH_take (i := 3) (v := ?_) rfl (by kernel_rfl) (by kernel_rfl) (by kernel_rfl) (fun _ _ _ h => h) (Or.inl ⟨by kernel_rfl, ?h3⟩) hHeld ?_
                          case h3 =>
                            intro w' hSw
                            (try dsimp only at hSw)
                            go_simp
                            (try with_reducible rfl)
                          (try simp only [Act.put]); (try simp only [List.setIfInBounds_toArray]); (try simp only [List.set_cons_succ]); (try simp only [List.set_cons_zero])
                          refine wpAnyH_take (i := 4) (v := ?_) rfl (by kernel_rfl) (by kernel_rfl) (by kernel_rfl) (fun _ _ _ h => h) (Or.inl ⟨by kernel_rfl, ?h4⟩) hHeld ?_
                          case h4 =>
                            intro w' hSw
                            (try dsimp only at hSw)
                            go_simp
                            (try with_reducible rfl)
                          (try simp only [Act.put]); (try simp only [List.setIfInBounds_toArray]); (try simp only [List.set_cons_succ]); (try simp only [List.set_cons_zero])
                          refine wpAnyH_take (i := 5) (v := ?_) rfl (by kernel_rfl) (by kernel_rfl) (by kernel_rfl) (fun _ _ _ h => h) (Or.inl ⟨by kernel_rfl, ?h5⟩) hHeld ?_
                          case h5 =>
                            intro w' hSw
                            (try dsimp only at hSw)
                            go_simp
                            (try with_reducible rfl)
                          (try simp only [Act.put]); (try simp only [List.setIfInBounds_toArray]); (try simp only [List.set_cons_succ]); (try simp only [List.set_cons_zero])
                          refine wpAnyH_take (i := 6) (v := ?_) rfl (by kernel_rfl) (by kernel_rfl) (by kernel_rfl) (fun _ _ _ h => h) (Or.inl ⟨by kernel_rfl, ?h6⟩) hHeld ?_
                          case h6 =>
                            intro w' hSw
                            (try dsimp only at hSw)
                            go_simp
                            (try with_reducible rfl)
                          (try simp only [Act.put]); (try simp only [List.setIfInBounds_toArray]); (try simp only [List.set_cons_succ]); (try simp only [List.set_cons_zero])
                          refine wpAnyH_take (i := 7) (v := ?_) rfl (by kernel_rfl) (by kernel_rfl) (by kernel_rfl) (fun _ _ _ h => h) (Or.inl ⟨by kernel_rfl, ?h7⟩) hHeld ?_
                          case h7 =>
                            intro w' hSw
                            (try dsimp only at hSw)
                            go_simp
                            (try with_reducible rfl)
                          (try simp only [Act.put]); (try simp only [List.setIfInBounds_toArray]); (try simp only [List.set_cons_succ]); (try simp only [List.set_cons_zero])
                          refine wpAnyH_take (i := 8) (v := ?_) rfl (by kernel_rfl) (by kernel_rfl) (by kernel_rfl) (fun _ _ _ h => h) (Or.inl ⟨by kernel_rfl, ?h8⟩) hHeld ?_
                          case h8 =>
                            intro w' hSw
                            (try dsimp only at hSw)
                            go_simp
                            (try with_reducible rfl)
                          (try simp only [Act.put]); (try simp only [List.setIfInBounds_toArray]); (try simp only [List.set_cons_succ]); (try simp only [List.set_cons_zero])
                          refine wpAnyH_take (i := 9) (v := ?_) rfl (by kernel_rfl) (by kernel_rfl) (by kernel_rfl) (fun _ _ _ h => h) (Or.inl ⟨by kernel_rfl, ?h9⟩) hHeld ?_
                          case h9 =>
                            intro w' hSw
                            (try dsimp only at hSw)
                            go_simp
                            (try with_reducible rfl)
                          (try simp only [Act.put]); (try simp only [List.setIfInBounds_toArray]); (try simp only [List.set_cons_succ]); (try simp only [List.set_cons_zero])
                          refine wpAnyH_take (i := 10) (v := ?_) rfl (by kernel_rfl) (by kernel_rfl) (by kernel_rfl) (fun _ _ _ h => h) (Or.inl ⟨by kernel_rfl, ?h10⟩) hHeld ?_
                          case h10 =>
                            intro w' hSw
                            (try dsimp only at hSw)
                            go_simp
                            (try with_reducible rfl)
                          (try simp only [Act.put]); (try simp only [List.setIfInBounds_toArray]); (try simp only [List.set_cons_succ]); (try simp only [List.set_cons_zero])
                          refine wpAnyH_take (i := 11) (v := ?_) rfl (by kernel_rfl) (by kernel_rfl) (by kernel_rfl) (fun _ _ _ h => h) (Or.inl ⟨by kernel_rfl, ?h11⟩) hHeld ?_
                          case h11 =>
                            intro w' hSw
                            (try dsimp only at hSw)
                            go_simp
                            (try with_reducible rfl)
                          (try simp only [Act.put]); (try simp only [List.setIfInBounds_toArray]); (try simp only [List.set_cons_succ]); (try simp only [List.set_cons_zero])
                          refine wpAnyH_take (i := 12) (v := ?_) rfl (by kernel_rfl) (by kernel_rfl) (by kernel_rfl) (fun _ _ _ h => h) (Or.inl ⟨by kernel_rfl, ?h12⟩) hHeld ?_
                          case h12 =>
                            intro w' hSw
                            (try dsimp only at hSw)
                            go_simp
                            (try with_reducible rfl)
                          (try simp only [Act.put]); (try simp only [List.setIfInBounds_toArray]); (try simp only [List.set_cons_succ]); (try simp only [List.set_cons_zero])
                          refine wpAnyH_take (i := 13) (v := ?_) rfl (by kernel_rfl) (by kernel_rfl) (by kernel_rfl) (fun _ _ _ h => h) (Or.inl ⟨by kernel_rfl, ?h13⟩) hHeld ?_
                          case h13 =>
                            intro w' hSw
                            (try dsimp only at hSw)
                            go_simp
                            (try with_reducible rfl)
                          (try simp only [Act.put]); (try simp only [List.setIfInBounds_toArray]); (try simp only [List.set_cons_succ]); (try simp only [List.set_cons_zero])
                          refine wpAnyH_take (i := 14) (v := ?_) rfl (by kernel_rfl) (by kernel_rfl) (by kernel_rfl) (fun _ _ _ h => h) (Or.inl ⟨by kernel_rfl, ?h14⟩) hHeld ?_
                          case h14 =>
                            intro w' hSw
                            (try dsimp only at hSw)
                            go_simp
                            (try with_reducible rfl)
                          (try simp only [Act.put]); (try simp only [List.setIfInBounds_toArray]); (try simp only [List.set_cons_succ]); (try simp only [List.set_cons_zero])
                          refine wpAnyH_take (i := 15) (v := ?_) rfl (by kernel_rfl) (by kernel_rfl) (by kernel_rfl) (fun _ _ _ h => h) (Or.inl ⟨by kernel_rfl, ?h15⟩) hHeld ?_
                          case h15 =>
                            intro w' hSw
                            (try dsimp only at hSw)
                            go_simp
                            (try with_reducible rfl)
                          (try simp only [Act.put]); (try simp only [List.setIfInBounds_toArray]); (try simp only [List.set_cons_succ]); (try simp only [List.set_cons_zero])
                          refine wpAnyH_ready (rs := [16]) (by kernel_rfl) (by simp) ?_
                          refine AllReadyH.cons rfl (fun K hK => ?_) AllReadyH.nil
                          go_simp
                          refine hK.out _ _ hHeld (fun hHeld => ?_)
                          clear hK K
                          (try simp only [Act.put]); (try simp only [List.setIfInBounds_toArray]); (try simp only [List.set_cons_succ]); (try simp only [List.set_cons_zero])
                          refine wpAnyH_done (by kernel_rfl) ?_ _
                          have kp2 : wr.cell? ⟨w.heap.size + 1, cl[i].toNat, none⟩ = some (.bool false) := by have h := H.out.2.2.p cl[i]; rwa [decide_eq_false HM.out] at h
                          have kf := H.out.2.2.2.1.frozen cl[i].toNat
                          have kf2 := H.out.2.2.2.1.drew.frozen cl[i].toNat
                          go_wp2_with fail
                          go_roundw
                          case rel => exact ⟨i + 1, by omega, by go_num, S4.out⟩
                          case measure => simp [intOf]; omega
                        · have hv : V = 1 := HV.out.symm.trans (chk_one H8.out (rul_ev HCL.out (evB_not hin he)))
                          subst hv
                          have t0 : (!(inS R.soft cl[i] == inS R.soft cl[0])) = true := by simpa using he
                          have t1 : (inS R.soft cl[i] == inS R.soft cl[0]) = false := by simpa using he
                          generalize inS R.soft cl[0] = bb at *
                          generalize inS R.soft cl[i] = bc at *
                          clear hm hBS hPP he
                          go_wp2_with fail
                          refine wp_region_held_drew (S := FSt w BS PP R.soft.data.toList) (by kernel_rfl) hS (fun hHeld => ?_)
                          refine wpAnyH_take (i := 0) (v := ?_) rfl (by kernel_rfl) (by kernel_rfl) (by kernel_rfl) (fun _ _ _ h => h) (Or.inl ⟨by kernel_rfl, ?h0⟩) hHeld ?_
                          case h0 =>
                            intro w' hSw
                            (try dsimp only at hSw)
                            go_simp
                            (try with_reducible rfl)
                          (try simp only [Act.put]); (try simp only [List.setIfInBounds_toArray]); (try simp only [List.set_cons_succ]); (try simp only [List.set_cons_zero])
                          refine wpAnyH_take (i := 1) (v := ?_) rfl (by kernel_rfl) (by kernel_rfl) (by kernel_rfl) (fun _ _ _ h => h) (Or.inl ⟨by kernel_rfl, ?h1⟩) hHeld ?_
                          case h1 =>
                            intro w' hSw
                            (try dsimp only at hSw)
                            go_simp
                            (try with_reducible rfl)
                          (try simp only [Act.put]); (try simp only [List.setIfInBounds_toArray]); (try simp only [List.set_cons_succ]); (try simp only [List.set_cons_zero])
                          refine wpAnyH_take (i := 2) (v := ?_) rfl (by kernel_rfl) (by kernel_rfl) (by kernel_rfl) (fun _ _ _ h => h) (Or.inl ⟨by kernel_rfl, ?h2⟩) hHeld ?_
                          case h2 =>
                            intro w' hSw
                            (try dsimp only at hSw)
                            go_simp
                            (try with_reducible rfl)
                          (try simp only [Act.put]); (try simp only [List.setIfInBounds_toArray]); (try simp only [List.set_cons_succ]); (try simp only [List.set_cons_zero])
                          refine wpAnyH_take (i := 3) (v := ?_) rfl (by kernel_rfl) (by kernel_rfl) (by kernel_rfl) (fun _ _ _ h => h) (Or.inl ⟨by kernel_rfl, ?h3⟩) hHeld ?_
                          case h3 =>
                            intro w' hSw
                            (try dsimp only at hSw)
                            go_simp
                            (try with_reducible rfl)
                          (try simp only [Act.put]); (try simp only [List.setIfInBounds_toArray]); (try simp only [List.set_cons_succ]); (try simp only [List.set_cons_zero])
                          refine wpAnyH_take (i := 4) (v := ?_) rfl (by kernel_rfl) (by kernel_rfl) (by kernel_rfl) (fun _ _ _ h => h) (Or.inl ⟨by kernel_rfl, ?h4⟩) hHeld ?_
                          case h4 =>
                            intro w' hSw
                            (try dsimp only at hSw)
                            go_simp
                            (try with_reducible rfl)
                          (try simp only [Act.put]); (try simp only [List.setIfInBounds_toArray]); (try simp only [List.set_cons_succ]); (try simp only [List.set_cons_zero])
                          refine wpAnyH_take (i := 5) (v := ?_) rfl (by kernel_rfl) (by kernel_rfl) (by kernel_rfl) (fun _ _ _ h => h) (Or.inl ⟨by kernel_rfl, ?h5⟩) hHeld ?_
                          case h5 =>
                            intro w' hSw
                            (try dsimp only at hSw)
                            go_simp
                            (try with_reducible rfl)
                          (try simp only [Act.put]); (try simp only [List.setIfInBounds_toArray]); (try simp only [List.set_cons_succ]); (try simp only [List.set_cons_zero])
                          refine wpAnyH_take (i := 6) (v := ?_) rfl (by kernel_rfl) (by kernel_rfl) (by kernel_rfl) (fun _ _ _ h => h) (Or.inl ⟨by kernel_rfl, ?h6⟩) hHeld ?_
                          case h6 =>
                            intro w' hSw
                            (try dsimp only at hSw)
                            go_simp
                            (try with_reducible rfl)
                          (try simp only [Act.put]); (try simp only [List.setIfInBounds_toArray]); (try simp only [List.set_cons_succ]); (try simp only [List.set_cons_zero])
                          refine wpAnyH_take (i := 7) (v := ?_) rfl (by kernel_rfl) (by kernel_rfl) (by kernel_rfl) (fun _ _ _ h => h) (Or.inl ⟨by kernel_rfl, ?h7⟩) hHeld ?_
                          case h7 =>
                            intro w' hSw
                            (try dsimp only at hSw)
                            go_simp
                            (try with_reducible rfl)
                          (try simp only [Act.put]); (try simp only [List.setIfInBounds_toArray]); (try simp only [List.set_cons_succ]); (try simp only [List.set_cons_zero])
                          refine wpAnyH_take (i := 8) (v := ?_) rfl (by kernel_rfl) (by kernel_rfl) (by kernel_rfl) (fun _ _ _ h => h) (Or.inl ⟨by kernel_rfl, ?h8⟩) hHeld ?_
                          case h8 =>
                            intro w' hSw
                            (try dsimp only at hSw)
                            go_simp
                            (try with_reducible rfl)
                          (try simp only [Act.put]); (try simp only [List.setIfInBounds_toArray]); (try simp only [List.set_cons_succ]); (try simp only [List.set_cons_zero])
                          refine wpAnyH_take (i := 9) (v := ?_) rfl (by kernel_rfl) (by kernel_rfl) (by kernel_rfl) (fun _ _ _ h => h) (Or.inl ⟨by kernel_rfl, ?h9⟩) hHeld ?_
                          case h9 =>
                            intro w' hSw
                            (try dsimp only at hSw)
                            go_simp
                            (try with_reducible rfl)
                          (try simp only [Act.put]); (try simp only [List.setIfInBounds_toArray]); (try simp only [List.set_cons_succ]); (try simp only [List.set_cons_zero])
                          refine wpAnyH_take (i := 10) (v := ?_) rfl (by kernel_rfl) (by kernel_rfl) (by kernel_rfl) (fun _ _ _ h => h) (Or.inl ⟨by kernel_rfl, ?h10⟩) hHeld ?_
                          case h10 =>
                            intro w' hSw
                            (try dsimp only at hSw)
                            go_simp
                            (try with_reducible rfl)
                          (try simp only [Act.put]); (try simp only [List.setIfInBounds_toArray]); (try simp only [List.set_cons_succ]); (try simp only [List.set_cons_zero])
                          refine wpAnyH_take (i := 11) (v := ?_) rfl (by kernel_rfl) (by kernel_rfl) (by kernel_rfl) (fun _ _ _ h => h) (Or.inl ⟨by kernel_rfl, ?h11⟩) hHeld ?_
                          case h11 =>
                            intro w' hSw
                            (try dsimp only at hSw)
                            go_simp
                            (try with_reducible rfl)
                          (try simp only [Act.put]); (try simp only [List.setIfInBounds_toArray]); (try simp only [List.set_cons_succ]); (try simp only [List.set_cons_zero])
                          refine wpAnyH_take (i := 12) (v := ?_) rfl (by kernel_rfl) (by kernel_rfl) (by kernel_rfl) (fun _ _ _ h => h) (Or.inl ⟨by kernel_rfl, ?h12⟩) hHeld ?_
                          case h12 =>
                            intro w' hSw
                            (try dsimp only at hSw)
                            go_simp
                            (try with_reducible rfl)
                          (try simp only [Act.put]); (try simp only [List.setIfInBounds_toArray]); (try simp only [List.set_cons_succ]); (try simp only [List.set_cons_zero])
                          refine wpAnyH_take (i := 13) (v := ?_) rfl (by kernel_rfl) (by kernel_rfl) (by kernel_rfl) (fun _ _ _ h => h) (Or.inl ⟨by kernel_rfl, ?h13⟩) hHeld ?_
                          case h13 =>
                            intro w' hSw
                            (try dsimp only at hSw)
                            go_simp
                            (try with_reducible rfl)
                          (try simp only [Act.put]); (try simp only [List.setIfInBounds_toArray]); (try simp only [List.set_cons_succ]); (try simp only [List.set_cons_zero])
                          refine wpAnyH_take (i := 14) (v := ?_) rfl (by kernel_rfl) (by kernel_rfl) (by kernel_rfl) (fun _ _ _ h => h) (Or.inl ⟨by kernel_rfl, ?h14⟩) hHeld ?_
                          case h14 =>
                            intro w' hSw
                            (try dsimp only at hSw)
                            go_simp
                            (try with_reducible rfl)
                          (try simp only [Act.put]); (try simp only [List.setIfInBounds_toArray]); (try simp only [List.set_cons_succ]); (try simp only [List.set_cons_zero])
                          refine wpAnyH_take (i := 15) (v := ?_) rfl (by kernel_rfl) (by kernel_rfl) (by kernel_rfl) (fun _ _ _ h => h) (Or.inl ⟨by kernel_rfl, ?h15⟩) hHeld ?_
                          case h15 =>
                            intro w' hSw
                            (try dsimp only at hSw)
                            go_simp
                            (try with_reducible rfl)
                          (try simp only [Act.put]); (try simp only [List.setIfInBounds_toArray]); (try simp only [List.set_cons_succ]); (try simp only [List.set_cons_zero])
                          refine wpAnyH_ready (rs := [16]) (by kernel_rfl) (by simp) ?_
                          refine AllReadyH.cons rfl (fun K hK => ?_) AllReadyH.nil
                          go_simp
                          refine hK.out _ _ hHeld (fun hHeld => ?_)
                          clear hK K
                          (try simp only [Act.put]); (try simp only [List.setIfInBounds_toArray]); (try simp only [List.set_cons_succ]); (try simp only [List.set_cons_zero])
                          refine wpAnyH_done (by kernel_rfl) ?_ _
                          go_wp2_with fail
                          go_ret
                          exact ⟨rfl, H.out.2.2.2.2.2.drew⟩
                    · have hi2 : i = cl.size := by omega
                      have S5 := Lib.hid (show CK R (k + 1) ∧ FSt w (rulesC (some ⟨g, o, none⟩) n c R.soft R.al R.ot R.sk R.ss R.db) (flk R (k + 1)) R.soft.data.toList wr by
                        have h := H.out
                        rw [List.take_of_length_le (by simp; omega), ← flk_succ HCL.out] at h
                        exact ⟨⟨h.1, fun j c2 hj hc2 => by
                          rcases Nat.lt_or_ge j k with h2 | h2
                          · exact HCK.out.2 j c2 h2 hc2
                          · obtain rfl : j = k := by omega
                            rw [HCL.out] at hc2; cases hc2
                            exact evB_intro hpos (fun j hj => h.2.1 j hj (by omega))⟩, h.2.2⟩)
                      subst hi2
                      clear H
                      go_wp2_with fail
                      go_roundw
                      case rel => exact ⟨k + 1, by omega, by go_num, S5.out⟩
                      case measure => simp [intOf]; omega
                · have hL2 : cl.data.toList.all isL = false := by simpa using hL
                  have hv : V = 1 := HV.out.symm.trans (chk_one H8.out (rul_dist (k := k + 1) (by rw [flk_succ HCL.out]; exact dist_letters hL2)))
                  subst hv
                  have C61 := Lib.hid (fun W => letters61 cl hcs W)
                  rw [hL2] at C61
                  clear hL hL2 hz
                  go_wp2_with (go_at_call 25; (with_reducible refine (C61.out _).mono ?_); rintro e w1 ⟨rfl, rfl⟩)
                  go_ret
                  exact ⟨rfl, H.out.2.2.2.2⟩
            · obtain rfl : k = n := by omega
              have hrul : rulB R = cosB R := by
                unfold rulB
                have h1 : distB (fl R) = true := by rw [← flk_all (k := k) (by rw [HN.out]; exact Nat.le_refl _)]; exact H.out.1.1
                have h2 : R.cls.all (evB R.soft) = true := List.all_eq_true.2 fun c2 hc2 => by
                  obtain ⟨j, hj, e⟩ := List.mem_iff_getElem.1 hc2
                  exact H.out.1.2 j c2 (by rw [← HN.out]; exact hj) (by rw [List.getElem?_eq_getElem hj, e])
                rw [h1, h2, HDS.out]; rfl
              have hv : V = if cosB R then 0 else 1 := by rw [← HV.out]; unfold chk; rw [if_neg (by have := H8.out; omega), hrul]
              have hcos : cosB R = (inB R.al 0 100 && (inB R.ot 0 100 && (inB R.sk 0 100 && (inB R.ss 0 100 && inB R.db 0 100)))) := by simp [cosB, coB]
              rw [hcos] at hv
              have kc2 := H.out.2.1.cell 2
              have kc3 := H.out.2.1.cell 3
              have kc4 := H.out.2.1.cell 4
              have kc5 := H.out.2.1.cell 5
              have kc6 := H.out.2.1.cell 6
              have C1 := Lib.hid (fun w => rIn_any R.al 0 100 w)
              have C2 := Lib.hid (fun w => rIn_any R.ot 0 100 w)
              have C3 := Lib.hid (fun w => rIn_any R.sk 0 100 w)
              have C4 := Lib.hid (fun w => rIn_any R.ss 0 100 w)
              have C5 := Lib.hid (fun w => rIn_any R.db 0 100 w)
              have HB := Lib.hid H.out.2.2.2.2
              clear hcos hrul
              generalize inB R.al 0 100 = b1 at *
              generalize inB R.ot 0 100 = b2 at *
              generalize inB R.sk 0 100 = b3 at *
              generalize inB R.ss 0 100 = b4 at *
              generalize inB R.db 0 100 = b5 at *
              cases b1 with
              | false =>
                replace hv : V = 1 := hv
                subst hv
                go_wp2_with (first | (go_at_call 26; (with_reducible refine (C1.out _).mono ?_); rintro e w1 ⟨rfl, rfl⟩) | (go_at_call 26; (with_reducible refine (C2.out _).mono ?_); rintro e w1 ⟨rfl, rfl⟩) | (go_at_call 26; (with_reducible refine (C3.out _).mono ?_); rintro e w1 ⟨rfl, rfl⟩) | (go_at_call 26; (with_reducible refine (C4.out _).mono ?_); rintro e w1 ⟨rfl, rfl⟩) | (go_at_call 26; (with_reducible refine (C5.out _).mono ?_); rintro e w1 ⟨rfl, rfl⟩))
                go_ret
                exact ⟨rfl, HB.out⟩
              | true =>
                cases b2 with
                | false =>
                  replace hv : V = 1 := hv
                  subst hv
                  go_wp2_with (first | (go_at_call 26; (with_reducible refine (C1.out _).mono ?_); rintro e w1 ⟨rfl, rfl⟩) | (go_at_call 26; (with_reducible refine (C2.out _).mono ?_); rintro e w1 ⟨rfl, rfl⟩) | (go_at_call 26; (with_reducible refine (C3.out _).mono ?_); rintro e w1 ⟨rfl, rfl⟩) | (go_at_call 26; (with_reducible refine (C4.out _).mono ?_); rintro e w1 ⟨rfl, rfl⟩) | (go_at_call 26; (with_reducible refine (C5.out _).mono ?_); rintro e w1 ⟨rfl, rfl⟩))
                  go_ret
                  exact ⟨rfl, HB.out⟩
                | true =>
                  cases b3 with
                  | false =>
                    replace hv : V = 1 := hv
                    subst hv
                    go_wp2_with (first | (go_at_call 26; (with_reducible refine (C1.out _).mono ?_); rintro e w1 ⟨rfl, rfl⟩) | (go_at_call 26; (with_reducible refine (C2.out _).mono ?_); rintro e w1 ⟨rfl, rfl⟩) | (go_at_call 26; (with_reducible refine (C3.out _).mono ?_); rintro e w1 ⟨rfl, rfl⟩) | (go_at_call 26; (with_reducible refine (C4.out _).mono ?_); rintro e w1 ⟨rfl, rfl⟩) | (go_at_call 26; (with_reducible refine (C5.out _).mono ?_); rintro e w1 ⟨rfl, rfl⟩))
                    go_ret
                    exact ⟨rfl, HB.out⟩
                  | true =>
                    cases b4 with
                    | false =>
                      replace hv : V = 1 := hv
                      subst hv
                      go_wp2_with (first | (go_at_call 26; (with_reducible refine (C1.out _).mono ?_); rintro e w1 ⟨rfl, rfl⟩) | (go_at_call 26; (with_reducible refine (C2.out _).mono ?_); rintro e w1 ⟨rfl, rfl⟩) | (go_at_call 26; (with_reducible refine (C3.out _).mono ?_); rintro e w1 ⟨rfl, rfl⟩) | (go_at_call 26; (with_reducible refine (C4.out _).mono ?_); rintro e w1 ⟨rfl, rfl⟩) | (go_at_call 26; (with_reducible refine (C5.out _).mono ?_); rintro e w1 ⟨rfl, rfl⟩))
                      go_ret
                      exact ⟨rfl, HB.out⟩
                    | true =>
                      cases b5 with
                      | false =>
                        replace hv : V = 1 := hv
                        subst hv
                        go_wp2_with (first | (go_at_call 26; (with_reducible refine (C1.out _).mono ?_); rintro e w1 ⟨rfl, rfl⟩) | (go_at_call 26; (with_reducible refine (C2.out _).mono ?_); rintro e w1 ⟨rfl, rfl⟩) | (go_at_call 26; (with_reducible refine (C3.out _).mono ?_); rintro e w1 ⟨rfl, rfl⟩) | (go_at_call 26; (with_reducible refine (C4.out _).mono ?_); rintro e w1 ⟨rfl, rfl⟩) | (go_at_call 26; (with_reducible refine (C5.out _).mono ?_); rintro e w1 ⟨rfl, rfl⟩))
                        go_ret
                        exact ⟨rfl, HB.out⟩
                      | true =>
                        replace hv : V = 0 := hv
                        subst hv
                        go_wp2_with (first | (go_at_call 26; (with_reducible refine (C1.out _).mono ?_); rintro e w1 ⟨rfl, rfl⟩) | (go_at_call 26; (with_reducible refine (C2.out _).mono ?_); rintro e w1 ⟨rfl, rfl⟩) | (go_at_call 26; (with_reducible refine (C3.out _).mono ?_); rintro e w1 ⟨rfl, rfl⟩) | (go_at_call 26; (with_reducible refine (C4.out _).mono ?_); rintro e w1 ⟨rfl, rfl⟩) | (go_at_call 26; (with_reducible refine (C5.out _).mono ?_); rintro e w1 ⟨rfl, rfl⟩))
                        go_ret
                        exact ⟨rfl, HB.out⟩
        · have hL2 : R.soft.data.toList.all isL = false := by simpa using hL
          have hv : V = 1 := HV.out.symm.trans (chk_one H8.out (rul_soft (by unfold distB; rw [hL2]; rfl)))
          subst hv
          have C61 := Lib.hid (fun W => letters61 R.soft (by omega) W)
          rw [hL2] at C61
          clear hL hL2
          go_wp2_with (go_at_call 25; (with_reducible refine (C61.out _).mono ?_); rintro e w1 ⟨rfl, rfl⟩)
          go_ret
          exact ⟨rfl, S1.out.2.2.2.2⟩
end Go.Proofs.YtdfebccmjbocjaaGreatDoor.Na
