/- Texts of package name, for this seat. -/
import Derived.Sort.LotA
set_option linter.unusedVariables false
set_option linter.unusedSimpArgs false
namespace Nm
/-! two names: sw i j what it costs to replace, sa i and sb j what it costs to skip -/
section
variable (sw : Nat → Nat → Nat) (sa sb : Nat → Nat) (n m : Nat)
/-- the cost of the beginnings -/
def pf : Nat → Nat → Nat
  | 0, 0 => 0
  | 0, j+1 => pf 0 j + sb j
  | i+1, 0 => pf i 0 + sa i
  | i+1, j+1 => min (pf i j + sw i j) (min (pf i (j+1) + sa i) (pf (i+1) j + sb j))
/-- the cost of the rests: a and b letters are left -/
def rs : Nat → Nat → Nat
  | 0, 0 => 0
  | 0, b+1 => sb (m-(b+1)) + rs 0 b
  | a+1, 0 => sa (n-(a+1)) + rs a 0
  | a+1, b+1 => min (min (sw (n-(a+1)) (m-(b+1)) + rs a b) (sa (n-(a+1)) + rs a (b+1))) (sb (m-(b+1)) + rs (a+1) b)
variable {sw sa sb n m}
theorem pf_sa (i j : Nat) : pf sw sa sb (i+1) j ≤ pf sw sa sb i j + sa i := by
  cases j with
  | zero => rw [pf]; exact Nat.le_refl _
  | succ j => rw [pf]; exact Nat.le_trans (Nat.min_le_right _ _) (Nat.min_le_left _ _)
theorem pf_sb (i j : Nat) : pf sw sa sb i (j+1) ≤ pf sw sa sb i j + sb j := by
  cases i with
  | zero => rw [pf]; exact Nat.le_refl _
  | succ i => rw [pf]; exact Nat.le_trans (Nat.min_le_right _ _) (Nat.min_le_right _ _)
theorem pf_sw (i j : Nat) : pf sw sa sb (i+1) (j+1) ≤ pf sw sa sb i j + sw i j := by
  rw [pf]; exact Nat.min_le_left _ _
/-- whatever rest is taken, the whole is no cheaper than the beginnings' cost -/
theorem pf_le_rs : ∀ a b, a ≤ n → b ≤ m → pf sw sa sb n m ≤ pf sw sa sb (n-a) (m-b) + rs sw sa sb n m a b
  | 0, 0, _, _ => by simp [rs]
  | 0, b+1, ha, hb => by
    have ih := pf_le_rs 0 b ha (by omega)
    have h := pf_sb (sw := sw) (sa := sa) (sb := sb) (n-0) (m-(b+1))
    rw [show m - (b+1) + 1 = m - b by omega] at h
    rw [rs]; omega
  | a+1, 0, ha, hb => by
    have ih := pf_le_rs a 0 (by omega) hb
    have h := pf_sa (sw := sw) (sa := sa) (sb := sb) (n-(a+1)) (m-0)
    rw [show n - (a+1) + 1 = n - a by omega] at h
    rw [rs]; omega
  | a+1, b+1, ha, hb => by
    have i1 := pf_le_rs a b (by omega) (by omega)
    have i2 := pf_le_rs a (b+1) (by omega) hb
    have i3 := pf_le_rs (a+1) b ha (by omega)
    have h1 := pf_sw (sw := sw) (sa := sa) (sb := sb) (n-(a+1)) (m-(b+1))
    have h2 := pf_sa (sw := sw) (sa := sa) (sb := sb) (n-(a+1)) (m-(b+1))
    have h3 := pf_sb (sw := sw) (sa := sa) (sb := sb) (n-(a+1)) (m-(b+1))
    rw [show m - (b+1) + 1 = m - b by omega] at h1 h3
    rw [show n - (a+1) + 1 = n - a by omega] at h1 h2
    rw [rs]; omega
theorem rs_sa (a b : Nat) : rs sw sa sb n m (a+1) b ≤ sa (n-(a+1)) + rs sw sa sb n m a b := by
  cases b with
  | zero => rw [rs]; exact Nat.le_refl _
  | succ b => rw [rs]; omega
theorem rs_sb (a b : Nat) : rs sw sa sb n m a (b+1) ≤ sb (m-(b+1)) + rs sw sa sb n m a b := by
  cases a with
  | zero => rw [rs]; exact Nat.le_refl _
  | succ b => rw [rs]; omega
theorem rs_sw (a b : Nat) : rs sw sa sb n m (a+1) (b+1) ≤ sw (n-(a+1)) (m-(b+1)) + rs sw sa sb n m a b := by rw [rs]; omega
theorem rs_le_pf : ∀ i j, i ≤ n → j ≤ m → rs sw sa sb n m n m ≤ pf sw sa sb i j + rs sw sa sb n m (n-i) (m-j)
  | 0, 0, _, _ => by simp
  | 0, j+1, hi, hj => by
    have ih := rs_le_pf 0 j hi (by omega)
    have h := rs_sb (sw := sw) (sa := sa) (sb := sb) (n := n) (m := m) (n-0) (m-(j+1))
    rw [show m - (j+1) + 1 = m - j by omega, show m - (m-j) = j by omega] at h
    rw [pf]; omega
  | i+1, 0, hi, hj => by
    have ih := rs_le_pf i 0 (by omega) hj
    have h := rs_sa (sw := sw) (sa := sa) (sb := sb) (n := n) (m := m) (n-(i+1)) (m-0)
    rw [show n - (i+1) + 1 = n - i by omega, show n - (n-i) = i by omega] at h
    rw [pf]; omega
  | i+1, j+1, hi, hj => by
    have i1 := rs_le_pf i j (by omega) (by omega)
    have i2 := rs_le_pf i (j+1) (by omega) hj
    have i3 := rs_le_pf (i+1) j hi (by omega)
    have h1 := rs_sw (sw := sw) (sa := sa) (sb := sb) (n := n) (m := m) (n-(i+1)) (m-(j+1))
    have h2 := rs_sa (sw := sw) (sa := sa) (sb := sb) (n := n) (m := m) (n-(i+1)) (m-(j+1))
    have h3 := rs_sb (sw := sw) (sa := sa) (sb := sb) (n := n) (m := m) (n-(i+1)) (m-(j+1))
    rw [show m - (j+1) + 1 = m - j by omega, show m - (m-j) = j by omega] at h1 h3
    rw [show n - (i+1) + 1 = n - i by omega, show n - (n-i) = i by omega] at h1 h2
    rw [pf]; omega
/-- THE COST FROM THE END IS THE COST FROM THE BEGINNING -/
theorem rs_eq_pf : rs sw sa sb n m n m = pf sw sa sb n m := by
  have h1 := pf_le_rs (sw := sw) (sa := sa) (sb := sb) (n := n) (m := m) n m (Nat.le_refl _) (Nat.le_refl _)
  have h2 := rs_le_pf (sw := sw) (sa := sa) (sb := sb) (n := n) (m := m) n m (Nat.le_refl _) (Nat.le_refl _)
  rw [Nat.sub_self, Nat.sub_self] at h1 h2
  rw [show pf sw sa sb 0 0 = 0 by rw [pf]] at h1
  rw [show rs sw sa sb n m 0 0 = 0 by rw [rs]] at h2
  omega
theorem rs_le (c : Nat) (h1 : ∀ i j, sw i j ≤ c) (h2 : ∀ i, sa i ≤ c) (h3 : ∀ i, sb i ≤ c) : ∀ a b, rs sw sa sb n m a b ≤ c * (a + b)
  | 0, 0 => by simp [rs]
  | 0, b+1 => by have := rs_le c h1 h2 h3 0 b; have := h3 (m-(b+1)); rw [rs, Nat.mul_add] at *; rw [Nat.mul_add]; omega
  | a+1, 0 => by have := rs_le c h1 h2 h3 a 0; have := h2 (n-(a+1)); rw [rs]; simp only [Nat.mul_add] at *; omega
  | a+1, b+1 => by have := rs_le c h1 h2 h3 a (b+1); have := h2 (n-(a+1)); rw [rs]; simp only [Nat.mul_add] at *; omega
end
/-- the order does not matter -/
theorem pf_swap (sw : Nat → Nat → Nat) (sa sb : Nat → Nat) : ∀ i j, pf sw sa sb i j = pf (fun j i => sw i j) sb sa j i
  | 0, 0 => by rw [pf, pf]
  | 0, j+1 => by rw [pf, pf, pf_swap sw sa sb 0 j]
  | i+1, 0 => by rw [pf, pf, pf_swap sw sa sb i 0]
  | i+1, j+1 => by rw [pf, pf, pf_swap sw sa sb i j, pf_swap sw sa sb i (j+1), pf_swap sw sa sb (i+1) j, Nat.min_comm (pf _ _ _ (j+1) i + _)]
/-- cheaper rules -/
theorem pf_mono {sw sw' : Nat → Nat → Nat} {sa sa' sb sb' : Nat → Nat} (h1 : ∀ i j, sw i j ≤ sw' i j) (h2 : ∀ i, sa i ≤ sa' i) (h3 : ∀ i, sb i ≤ sb' i) : ∀ i j, pf sw sa sb i j ≤ pf sw' sa' sb' i j
  | 0, 0 => by rw [pf, pf]; exact Nat.le_refl _
  | 0, j+1 => by rw [pf, pf]; exact Nat.add_le_add (pf_mono h1 h2 h3 0 j) (h3 _)
  | i+1, 0 => by rw [pf, pf]; exact Nat.add_le_add (pf_mono h1 h2 h3 i 0) (h2 _)
  | i+1, j+1 => by
    have e1 := pf_mono h1 h2 h3 i j
    have e2 := pf_mono h1 h2 h3 (i+1) j
    have e3 := pf_mono h1 h2 h3 i (j+1)
    have := h1 i j; have := h2 i; have := h3 j
    rw [pf, pf]; omega
/-- only what stands before counts -/
theorem pf_congr {sw sw' : Nat → Nat → Nat} {sa sa' sb sb' : Nat → Nat} : ∀ i j, (∀ x y, x < i → y < j → sw x y = sw' x y) → (∀ x, x < i → sa x = sa' x) → (∀ y, y < j → sb y = sb' y) → pf sw sa sb i j = pf sw' sa' sb' i j
  | 0, 0, _, _, _ => by rw [pf, pf]
  | 0, j+1, h1, h2, h3 => by rw [pf, pf, pf_congr 0 j (fun x y a b => h1 x y a (by omega)) h2 (fun y b => h3 y (by omega)), h3 j (by omega)]
  | i+1, 0, h1, h2, h3 => by rw [pf, pf, pf_congr i 0 (fun x y a b => h1 x y (by omega) b) (fun x a => h2 x (by omega)) h3, h2 i (by omega)]
  | i+1, j+1, h1, h2, h3 => by
    rw [pf, pf, pf_congr i j (fun x y a b => h1 x y (by omega) (by omega)) (fun x a => h2 x (by omega)) (fun y b => h3 y (by omega)),
      pf_congr (i+1) j (fun x y a b => h1 x y a (by omega)) h2 (fun y b => h3 y (by omega)),
      pf_congr i (j+1) (fun x y a b => h1 x y (by omega) b) (fun x a => h2 x (by omega)) h3, h1 i j (by omega) (by omega), h2 i (by omega), h3 j (by omega)]
/-- the letters one by one -/
theorem pf_diag (sw : Nat → Nat → Nat) (sa sb : Nat → Nat) (f : Nat → Nat) (h : ∀ i, sw i i ≤ f (i+1) - f i) (hf : ∀ i, f i ≤ f (i+1)) (h0 : f 0 = 0) : ∀ i, pf sw sa sb i i ≤ f i
  | 0 => by rw [pf]; omega
  | i+1 => by have := pf_diag sw sa sb f h hf h0 i; have := pf_sw (sw := sw) (sa := sa) (sb := sb) i i; have := h i; have := hf i; omega
end Nm
namespace Nm
/-! ## cells, steps, alignments -/
abbrev St := (Int × Int) × Nat
section
variable (sw : Nat → Nat → Nat) (sa sb : Nat → Nat) (n m : Nat)
/-- the steps from a cell -/
def stepsOf (i j : Nat) : List St :=
  (if i < n ∧ j < m then [(((i : Int), (j : Int)), sw i j)] else []) ++ ((if i < n then [(((i : Int), -1), sa i)] else []) ++ (if j < m then [((-1, (j : Int)), sb j)] else []))
def aft (c : Nat × Nat) (s : Int × Int) : Nat × Nat := (if s.1 = -1 then c.1 else c.1 + 1, if s.2 = -1 then c.2 else c.2 + 1)
/-- the cost from a cell on -/
def cs (i j : Nat) : Nat := rs sw sa sb n m (n - i) (m - j)
def minOf (l : List Nat) (x : Nat) : Nat := l.foldl min x
variable {sw sa sb n m}
theorem cs_end : cs sw sa sb n m n m = 0 := by simp [cs, rs]
theorem cs_both {i j : Nat} (h : i < n) (k : j < m) : cs sw sa sb n m i j = min (min (sw i j + cs sw sa sb n m (i+1) (j+1)) (sa i + cs sw sa sb n m (i+1) j)) (sb j + cs sw sa sb n m i (j+1)) := by
  obtain ⟨a, ha⟩ : ∃ a, n - i = a + 1 := ⟨n - i - 1, by omega⟩
  obtain ⟨b, hb⟩ : ∃ b, m - j = b + 1 := ⟨m - j - 1, by omega⟩
  unfold cs
  rw [ha, hb, show n - (i+1) = a by omega, show m - (j+1) = b by omega, rs, show n - (a+1) = i by omega, show m - (b+1) = j by omega]
theorem cs_first {i : Nat} (h : i < n) : cs sw sa sb n m i m = sa i + cs sw sa sb n m (i+1) m := by
  obtain ⟨a, ha⟩ : ∃ a, n - i = a + 1 := ⟨n - i - 1, by omega⟩
  unfold cs
  rw [ha, Nat.sub_self, show n - (i+1) = a by omega, rs, show n - (a+1) = i by omega]
theorem cs_second {j : Nat} (k : j < m) : cs sw sa sb n m n j = sb j + cs sw sa sb n m n (j+1) := by
  obtain ⟨b, hb⟩ : ∃ b, m - j = b + 1 := ⟨m - j - 1, by omega⟩
  unfold cs
  rw [hb, Nat.sub_self, show m - (j+1) = b by omega, rs, show m - (b+1) = j by omega]
/-- the minimum over the steps -/
theorem cs_steps {i j : Nat} (hi : i ≤ n) (hj : j ≤ m) (h : i < n ∨ j < m) (big : Nat) (hb : cs sw sa sb n m i j ≤ big) :
    (stepsOf sw sa sb n m i j).foldl (fun x s => min x (s.2 + cs sw sa sb n m (aft (i, j) s.1).1 (aft (i, j) s.1).2)) big = cs sw sa sb n m i j := by
  have e1 : ((i : Int) = -1) = False := by simp
  have e2 : ((j : Int) = -1) = False := by simp
  by_cases h1 : i < n
  · by_cases h2 : j < m
    · have e := cs_both (sw := sw) (sa := sa) (sb := sb) h1 h2
      simp only [stepsOf, h1, h2, and_self, if_true, List.cons_append, List.nil_append, List.foldl_cons, List.foldl_nil, aft, e1, e2, if_false]
      omega
    · obtain rfl : j = m := by omega
      have e := cs_first (sw := sw) (sa := sa) (sb := sb) (m := j) h1
      simp only [stepsOf, h1, h2, and_false, if_true, List.nil_append, List.foldl_cons, List.foldl_nil, aft, e1, if_false, List.append_nil]
      omega
  · obtain rfl : i = n := by omega
    have h2 : j < m := by omega
    have e := cs_second (sw := sw) (sa := sa) (sb := sb) (n := i) h2
    simp only [stepsOf, h1, h2, false_and, if_true, List.nil_append, List.foldl_cons, List.foldl_nil, aft, e2, if_false]
    omega
/-- some step has the minimum -/
theorem cs_some {i j : Nat} (hi : i ≤ n) (hj : j ≤ m) (h : i < n ∨ j < m) :
    ∃ s, s ∈ stepsOf sw sa sb n m i j ∧ s.2 + cs sw sa sb n m (aft (i, j) s.1).1 (aft (i, j) s.1).2 = cs sw sa sb n m i j := by
  have e1 : ((i : Int) = -1) = False := by simp
  have e2 : ((j : Int) = -1) = False := by simp
  by_cases h1 : i < n
  · by_cases h2 : j < m
    · have e := cs_both (sw := sw) (sa := sa) (sb := sb) h1 h2
      simp only [stepsOf, h1, h2, and_self, if_true, List.cons_append, List.nil_append, List.mem_cons, List.not_mem_nil, or_false]
      by_cases q1 : sw i j + cs sw sa sb n m (i+1) (j+1) = cs sw sa sb n m i j
      · exact ⟨_, .inl rfl, by simp only [aft, e1, e2, if_false]; exact q1⟩
      · by_cases q2 : sa i + cs sw sa sb n m (i+1) j = cs sw sa sb n m i j
        · exact ⟨_, .inr (.inl rfl), by simp only [aft, e1, if_false, if_true]; exact q2⟩
        · exact ⟨_, .inr (.inr rfl), by simp only [aft, e2, if_false, if_true]; omega⟩
    · obtain rfl : j = m := by omega
      have e := cs_first (sw := sw) (sa := sa) (sb := sb) (m := j) h1
      exact ⟨((i, -1), sa i), by simp [stepsOf, h1], by simp only [aft, e1, if_false, if_true]; exact e.symm⟩
  · obtain rfl : i = n := by omega
    have h2 : j < m := by omega
    have e := cs_second (sw := sw) (sa := sa) (sb := sb) (n := i) h2
    exact ⟨((-1, j), sb j), by simp [stepsOf, h2], by simp only [aft, e2, if_false, if_true]; exact e.symm⟩
theorem stepsOf_cases {i j : Nat} {s : St} (h : s ∈ stepsOf sw sa sb n m i j) :
    (s = (((i : Int), (j : Int)), sw i j) ∧ i < n ∧ j < m ∧ aft (i, j) s.1 = (i+1, j+1)) ∨ (s = (((i : Int), -1), sa i) ∧ i < n ∧ aft (i, j) s.1 = (i+1, j)) ∨ (s = ((-1, (j : Int)), sb j) ∧ j < m ∧ aft (i, j) s.1 = (i, j+1)) := by
  have e1 : ((i : Int) = -1) = False := by simp
  have e2 : ((j : Int) = -1) = False := by simp
  unfold stepsOf at h
  rcases List.mem_append.1 h with h | h
  · split at h
    · rename_i hh
      simp at h; subst h
      exact .inl ⟨rfl, hh.1, hh.2, by simp only [aft, e1, e2, if_false]⟩
    · simp at h
  · rcases List.mem_append.1 h with h | h
    · split at h
      · rename_i hh
        simp at h; subst h
        exact .inr (.inl ⟨rfl, hh, by simp only [aft, e1, if_false, if_true]⟩)
      · simp at h
    · split at h
      · rename_i hh
        simp at h; subst h
        exact .inr (.inr ⟨rfl, hh, by simp only [aft, e2, if_false, if_true]⟩)
      · simp at h
theorem stepsOf_le {i j : Nat} : (stepsOf sw sa sb n m i j).length ≤ 3 := by
  unfold stepsOf; simp only [List.length_append]; split <;> split <;> split <;> simp
variable (sw sa sb n m) in
/-- steps taken from (i, k), t having been paid -/
def walkS : Nat × Nat × Nat → List (Int × Int) → Option (Nat × Nat × Nat)
  | c, [] => some c
  | (i, k, t), s :: r =>
    if s.1 = i ∧ s.2 = k ∧ i < n ∧ k < m then walkS (i+1, k+1, t + sw i k) r
    else if s.1 = i ∧ s.2 = -1 ∧ i < n then walkS (i+1, k, t + sa i) r
    else if s.1 = -1 ∧ s.2 = k ∧ k < m then walkS (i, k+1, t + sb k) r
    else none
variable (sw sa sb n m) in
def step1 (c : Nat × Nat × Nat) (s : Int × Int) : Option (Nat × Nat × Nat) :=
  if s.1 = c.1 ∧ s.2 = c.2.1 ∧ c.1 < n ∧ c.2.1 < m then some (c.1+1, c.2.1+1, c.2.2 + sw c.1 c.2.1)
  else if s.1 = c.1 ∧ s.2 = -1 ∧ c.1 < n then some (c.1+1, c.2.1, c.2.2 + sa c.1)
  else if s.1 = -1 ∧ s.2 = c.2.1 ∧ c.2.1 < m then some (c.1, c.2.1+1, c.2.2 + sb c.2.1)
  else none
theorem walkS_cons (c : Nat × Nat × Nat) (s : Int × Int) (r : List (Int × Int)) : walkS sw sa sb n m c (s :: r) = (step1 sw sa sb n m c s).bind fun c => walkS sw sa sb n m c r := by
  obtain ⟨i, k, t⟩ := c
  rw [walkS, step1]
  split
  · rfl
  · split
    · rfl
    · split <;> rfl
theorem walkS_append : ∀ (l r : List (Int × Int)) (c : Nat × Nat × Nat), walkS sw sa sb n m c (l ++ r) = (walkS sw sa sb n m c l).bind fun c => walkS sw sa sb n m c r
  | [], r, c => by simp [walkS]
  | s :: l, r, c => by
    rw [List.cons_append, walkS_cons, walkS_cons, Option.bind_assoc]
    congr 1; funext c'
    exact walkS_append l r c'
theorem walkS_snoc (l : List (Int × Int)) (s : Int × Int) (c : Nat × Nat × Nat) : walkS sw sa sb n m c (l ++ [s]) = (walkS sw sa sb n m c l).bind fun c => step1 sw sa sb n m c s := by
  rw [walkS_append]
  refine congrArg _ (funext fun c' => ?_)
  rw [walkS_cons]
  cases step1 sw sa sb n m c' s <;> rfl
/-- one step, found among the steps from the cell -/
theorem step1_find (i k t : Nat) (s : Int × Int) : step1 sw sa sb n m (i, k, t) s = ((stepsOf sw sa sb n m i k).find? fun x => x.1 == s).map fun x => ((aft (i, k) s).1, (aft (i, k) s).2, t + x.2) := by
  have e1 : ((i : Int) = -1) = False := by simp
  have e2 : ((k : Int) = -1) = False := by simp
  obtain ⟨x, y⟩ := s
  unfold step1 stepsOf
  simp only []
  by_cases c1 : x = i ∧ y = k ∧ i < n ∧ k < m
  · obtain ⟨rfl, rfl, h1, h2⟩ := c1
    rw [if_pos ⟨rfl, rfl, h1, h2⟩]
    simp [h1, h2, aft, e1, e2]
  · rw [if_neg c1]
    by_cases c2 : x = i ∧ y = -1 ∧ i < n
    · obtain ⟨rfl, rfl, h1⟩ := c2
      rw [if_pos ⟨rfl, rfl, h1⟩]
      by_cases h2 : k < m
      · simp [h1, h2, aft, e1, e2]
      · simp [h1, h2, aft, e1]
    · rw [if_neg c2]
      by_cases c3 : x = -1 ∧ y = k ∧ k < m
      · obtain ⟨rfl, rfl, h1⟩ := c3
        rw [if_pos ⟨rfl, rfl, h1⟩]
        have e3 : ((i : Int) == -1) = false := by simp
        by_cases h2 : i < n
        · simp [h1, h2, aft, e1, e2]
        · simp [h1, h2, aft, e2]
      · rw [if_neg c3]
        symm
        rw [Option.map_eq_none_iff, List.find?_eq_none]
        intro z hz
        have hz' := stepsOf_cases (sw := sw) (sa := sa) (sb := sb) (n := n) (m := m) (i := i) (j := k) (s := z) hz
        simp only [beq_iff_eq]
        rcases hz' with ⟨rfl, h1, h2, _⟩ | ⟨rfl, h1, _⟩ | ⟨rfl, h1, _⟩
        · intro h; simp only [Prod.mk.injEq] at h; exact c1 ⟨h.1.symm, h.2.symm, h1, h2⟩
        · intro h; simp only [Prod.mk.injEq] at h; exact c2 ⟨h.1.symm, h.2.symm, h1⟩
        · intro h; simp only [Prod.mk.injEq] at h; exact c3 ⟨h.1.symm, h.2.symm, h1⟩
variable (sw sa sb n m) in
/-- what steps cost, if they are an alignment -/
def costsR (l : List (Int × Int)) : Int :=
  match walkS sw sa sb n m (0, 0, 0) l with
  | none => -1
  | some c => if c.1 < n ∨ c.2.1 < m then -1 else (c.2.2 : Int)
theorem step1_bound {c c' : Nat × Nat × Nat} {s : Int × Int} (h : step1 sw sa sb n m c s = some c') (h1 : c.1 ≤ n) (h2 : c.2.1 ≤ m) :
    c'.1 ≤ n ∧ c'.2.1 ≤ m ∧ c.2.2 + cs sw sa sb n m c.1 c.2.1 ≤ c'.2.2 + cs sw sa sb n m c'.1 c'.2.1 ∧ c.1 + c.2.1 < c'.1 + c'.2.1 := by
  obtain ⟨i, k, t⟩ := c
  unfold step1 at h
  simp only at h h1 h2 ⊢
  split at h
  · rename_i hh
    cases h
    have e := cs_both (sw := sw) (sa := sa) (sb := sb) hh.2.2.1 hh.2.2.2
    simp only; omega
  · split at h
    · rename_i hh
      cases h
      by_cases h3 : k < m
      · have e := cs_both (sw := sw) (sa := sa) (sb := sb) hh.2.2 h3
        simp only; omega
      · obtain rfl : k = m := by omega
        have e := cs_first (sw := sw) (sa := sa) (sb := sb) (m := k) hh.2.2
        simp only; omega
    · split at h
      · rename_i hh
        cases h
        by_cases h3 : i < n
        · have e := cs_both (sw := sw) (sa := sa) (sb := sb) h3 hh.2.2
          simp only; omega
        · obtain rfl : i = n := by omega
          have e := cs_second (sw := sw) (sa := sa) (sb := sb) (n := i) hh.2.2
          simp only; omega
      · cases h
theorem walkS_bound : ∀ (l : List (Int × Int)) (c c' : Nat × Nat × Nat), walkS sw sa sb n m c l = some c' → c.1 ≤ n → c.2.1 ≤ m →
    c'.1 ≤ n ∧ c'.2.1 ≤ m ∧ c.2.2 + cs sw sa sb n m c.1 c.2.1 ≤ c'.2.2 + cs sw sa sb n m c'.1 c'.2.1 ∧ l.length + c.1 + c.2.1 ≤ c'.1 + c'.2.1
  | [], c, c', h, h1, h2 => by simp only [walkS, Option.some.injEq] at h; subst h; simp; exact ⟨h1, h2⟩
  | s :: l, c, c', h, h1, h2 => by
    rw [walkS_cons] at h
    cases hs : step1 sw sa sb n m c s with
    | none => rw [hs] at h; cases h
    | some d =>
      rw [hs] at h
      obtain ⟨b1, b2, b3, b4⟩ := step1_bound hs h1 h2
      obtain ⟨r1, r2, r3, r4⟩ := walkS_bound l d c' h b1 b2
      refine ⟨r1, r2, by omega, ?_⟩
      simp only [List.length_cons]; omega
/-- no alignment is cheaper -/
theorem costsR_ge {l : List (Int × Int)} (h : 0 ≤ costsR sw sa sb n m l) : (cs sw sa sb n m 0 0 : Int) ≤ costsR sw sa sb n m l := by
  unfold costsR at *
  cases hw : walkS sw sa sb n m (0, 0, 0) l with
  | none => rw [hw] at h; simp at h
  | some c =>
    rw [hw] at h
    simp only at h ⊢
    split at h
    · omega
    · rename_i hn
      rw [if_neg hn]
      obtain ⟨b1, b2, b3, _⟩ := walkS_bound l _ _ hw (Nat.zero_le _) (Nat.zero_le _)
      simp only at b3
      obtain ⟨i, k, t⟩ := c
      simp only at *
      obtain rfl : i = n := by omega
      obtain rfl : k = m := by omega
      rw [cs_end] at b3
      omega
end
end Nm

namespace Nm
/-! ## in order of cost, those of equal cost in order of number -/
def lex (c : Nat → Nat) (x y : Nat) : Prop := c x < c y ∨ (c x = c y ∧ x < y)
theorem lex_irrefl (c : Nat → Nat) (x : Nat) : ¬ lex c x x := by unfold lex; omega
theorem lex_asymm {c : Nat → Nat} {x y : Nat} (h : lex c x y) : ¬ lex c y x := by unfold lex at *; omega
theorem lex_trans {c : Nat → Nat} {x y z : Nat} (h : lex c x y) (k : lex c y z) : lex c x z := by unfold lex at *; omega
/-- a list in a strict order is known by its members -/
theorem sorted_unique {α : Type} {R : α → α → Prop} (ha : ∀ x y, R x y → ¬ R y x) : ∀ (l l' : List α), l.Pairwise R → l'.Pairwise R → (∀ x, x ∈ l ↔ x ∈ l') → l = l'
  | [], [], _, _, _ => rfl
  | [], y :: l', _, _, h => by have := (h y).2 (by simp); cases this
  | x :: l, [], _, _, h => by have := (h x).1 (by simp); cases this
  | x :: l, y :: l', h1, h2, h => by
    rw [List.pairwise_cons] at h1 h2
    have hirr : ∀ x, ¬ R x x := fun x hx => ha x x hx hx
    have hxy : x = y := by
      rcases List.mem_cons.1 ((h x).1 (by simp)) with e | hx
      · exact e
      · rcases List.mem_cons.1 ((h y).2 (by simp)) with e | hy
        · exact e.symm
        · exact absurd (h1.1 y hy) (ha _ _ (h2.1 x hx))
    subst hxy
    congr 1
    refine sorted_unique ha l l' h1.2 h2.2 fun z => ?_
    constructor
    · intro hz
      rcases List.mem_cons.1 ((h z).1 (List.mem_cons_of_mem _ hz)) with e | hz'
      · subst e; exact absurd (h1.1 _ hz) (hirr _)
      · exact hz'
    · intro hz
      rcases List.mem_cons.1 ((h z).2 (List.mem_cons_of_mem _ hz)) with e | hz'
      · subst e; exact absurd (h2.1 _ hz) (hirr _)
      · exact hz'
/-- the law's own list: by cost, from 0 to L -/
def dueL (c : Nat → Nat) (k L : Nat) : List Nat := (List.range (L+1)).flatMap fun v => (List.range k).filter fun i => c i == v
theorem dueL_mem (c : Nat → Nat) (k L x : Nat) : x ∈ dueL c k L ↔ x < k ∧ c x ≤ L := by
  unfold dueL
  rw [List.mem_flatMap]
  constructor
  · rintro ⟨v, hv, hx⟩
    rw [List.mem_filter, List.mem_range] at hx
    rw [List.mem_range] at hv
    have : c x = v := by simpa using hx.2
    exact ⟨hx.1, by omega⟩
  · rintro ⟨h1, h2⟩
    exact ⟨c x, List.mem_range.2 (by omega), List.mem_filter.2 ⟨List.mem_range.2 h1, by simp⟩⟩
theorem range_pairwise (k : Nat) : (List.range k).Pairwise (· < ·) := List.pairwise_lt_range
theorem dueL_sorted (c : Nat → Nat) (k : Nat) : ∀ L, ((List.range L).flatMap fun v => (List.range k).filter fun i => c i == v).Pairwise (lex c)
  | 0 => by simp
  | L+1 => by
    rw [List.range_succ, List.flatMap_append, List.pairwise_append]
    refine ⟨dueL_sorted c k L, ?_, ?_⟩
    · simp only [List.flatMap_cons, List.flatMap_nil, List.append_nil]
      have h := List.Pairwise.sublist (List.filter_sublist (p := fun i => c i == L) (l := List.range k)) (range_pairwise k)
      refine List.Pairwise.imp_of_mem ?_ h
      intro a b ha hb hab
      rw [List.mem_filter] at ha hb
      have e1 : c a = L := by simpa using ha.2
      have e2 : c b = L := by simpa using hb.2
      exact .inr ⟨by omega, hab⟩
    · intro a ha b hb
      rw [List.mem_flatMap] at ha
      obtain ⟨v, hv, ha⟩ := ha
      rw [List.mem_range] at hv
      simp only [List.flatMap_cons, List.flatMap_nil, List.append_nil] at hb
      rw [List.mem_filter] at ha hb
      have e1 : c a = v := by simpa using ha.2
      have e2 : c b = L := by simpa using hb.2
      exact .inl (by omega)
/-! ## the center -/
/-- the first of the least -/
def best (t : Nat → Nat) : Nat → Nat
  | 0 => 0
  | k+1 => if t k < t (best t k) then k else best t k
theorem best_le (t : Nat → Nat) : ∀ k i, i < k → t (best t k) ≤ t i
  | 0, i, h => by omega
  | k+1, i, h => by
    rw [best]
    by_cases e : i = k
    · subst e; split <;> omega
    · have := best_le t k i (by omega)
      split <;> omega
theorem best_lt (t : Nat → Nat) : ∀ k, 0 < k → best t k < k
  | 0, h => by omega
  | k+1, _ => by
    rw [best]
    split
    · omega
    · rcases Nat.eq_zero_or_pos k with h | h
      · subst h; simp [best]
      · have := best_lt t k h; omega
end Nm

namespace Nm
section
variable {α : Type} [DecidableEq α] (snd : α → α) (soft : α → Bool)
/-- one letter more -/
def kst (key : List α) (b : α) : List α :=
  if key.length = 6 then key else if soft b = true ∨ key.getLast? = some (snd b) then key else key ++ [snd b]
def keyOf (a : α) (s : List α) : List α := s.foldl (kst snd soft) [snd a]
variable {snd soft}
theorem kst_soft (key : List α) {b : α} (h : soft b = true) : kst snd soft key b = key := by
  unfold kst; simp [h]
theorem kst_twice (key : List α) (b : α) : kst snd soft (kst snd soft key b) b = kst snd soft key b := by
  by_cases h6 : key.length = 6
  · have e : kst snd soft key b = key := by unfold kst; rw [if_pos h6]
    rw [e, e]
  · by_cases hc : soft b = true ∨ key.getLast? = some (snd b)
    · have e : kst snd soft key b = key := by unfold kst; rw [if_neg h6, if_pos hc]
      rw [e, e]
    · have e : kst snd soft key b = key ++ [snd b] := by unfold kst; rw [if_neg h6, if_neg hc]
      rw [e]
      unfold kst
      by_cases h : (key ++ [snd b]).length = 6
      · rw [if_pos h]
      · rw [if_neg h, if_pos (.inr (by simp))]
theorem kst_congr (key : List α) {b b' : α} (h1 : snd b = snd b') (h2 : soft b = soft b') : kst snd soft key b = kst snd soft key b' := by
  unfold kst; rw [h1, h2]
theorem kst_len (key : List α) (b : α) (h : key.length ≤ 6) : (kst snd soft key b).length ≤ 6 := by
  unfold kst; split
  · exact h
  · split
    · exact h
    · simp; omega
/-- a key as a key makes them: adjacent letters differ; representatives; those behind the first are not soft -/
structure Keyish (snd : α → α) (soft : α → Bool) (k : List α) : Prop where
  len : k.length ≤ 6
  rep : ∀ x, x ∈ k → snd x = x
  hard : ∀ i x, 0 < i → k[i]? = some x → soft x = false
  apart : ∀ i x y, k[i]? = some x → k[i+1]? = some y → x ≠ y
  some : k ≠ []
omit [DecidableEq α] in
theorem keyish_one (hr : ∀ x, snd (snd x) = snd x) (a : α) : Keyish snd soft [snd a] :=
  ⟨by simp, fun x hx => by simp at hx; subst hx; exact hr a, fun i x hi h => by
    rcases i with _ | i
    · omega
    · simp at h, fun i x y h1 h2 => by simp at h2, by simp⟩
theorem keyish_step (hr : ∀ x, snd (snd x) = snd x) (hs : ∀ x, soft (snd x) = soft x) {k : List α} (h : Keyish snd soft k) (b : α) : Keyish snd soft (kst snd soft k b) := by
  unfold kst
  split
  · exact h
  · rename_i h6
    split
    · exact h
    · rename_i hc
      rw [not_or] at hc
      have hl := h.len
      have hlast : ∀ i x, i + 1 = k.length → k[i]? = some x → k.getLast? = some x := by
        intro i x hi hx
        rw [List.getLast?_eq_getElem?, ← hx]; congr 1; omega
      refine ⟨by simp; omega, fun x hx => ?_, fun i x hi hx => ?_, fun i x y hx hy => ?_, by simp⟩
      · rcases List.mem_append.1 hx with hx | hx
        · exact h.rep x hx
        · simp at hx; subst hx; exact hr b
      · rw [List.getElem?_append] at hx
        split at hx
        · exact h.hard i x hi hx
        · have : x = snd b := by
            rcases hj : i - k.length with _ | j
            · rw [hj] at hx; simpa using hx.symm
            · rw [hj] at hx; simp at hx
          rw [this, hs]; simpa using hc.1
      · rw [List.getElem?_append] at hx hy
        split at hy
        · rename_i h2
          rw [if_pos (by omega)] at hx
          exact h.apart i x y hx hy
        · rename_i h2
          have hy' : y = snd b ∧ i + 1 = k.length := by
            rcases hj : i + 1 - k.length with _ | j
            · rw [hj] at hy; exact ⟨by simpa using hy.symm, by omega⟩
            · rw [hj] at hy; simp at hy
          rw [if_pos (by omega)] at hx
          have := hlast i x hy'.2 hx
          rw [hy'.1]
          intro e
          rw [this, e] at hc
          exact hc.2 rfl
theorem keyish_key (hr : ∀ x, snd (snd x) = snd x) (hs : ∀ x, soft (snd x) = soft x) (a : α) (s : List α) : Keyish snd soft (keyOf snd soft a s) := by
  unfold keyOf
  have : ∀ (s k : List α), Keyish snd soft k → Keyish snd soft (s.foldl (kst snd soft) k) := by
    intro s
    induction s with
    | nil => exact fun k h => h
    | cons b s ih => exact fun k h => ih _ (keyish_step hr hs h b)
  exact this s _ (keyish_one hr a)
theorem keyish_fold {k : List α} (h : Keyish snd soft k) : ∀ (t p : List α), k = p ++ t → p ≠ [] → t.foldl (kst snd soft) p = k
  | [], p, e, _ => by simp [e]
  | b :: t, p, e, hp => by
    have hb : k[p.length]? = some b := by rw [e]; simp
    have hlen := h.len
    have e1 : kst snd soft p b = p ++ [b] := by
      have hrb : snd b = b := h.rep b (by rw [e]; simp)
      have hsb : soft b = false := h.hard p.length b (List.length_pos_iff.2 hp) hb
      unfold kst
      rw [if_neg (by rw [e] at hlen; simp at hlen; omega), if_neg, hrb]
      rw [hsb, hrb]
      rintro (h1 | h1)
      · cases h1
      · rw [List.getLast?_eq_getElem?] at h1
        have hpl : 0 < p.length := List.length_pos_iff.2 hp
        refine h.apart (p.length - 1) b b ?_ (by rw [show p.length - 1 + 1 = p.length by omega]; exact hb) rfl
        rw [e, List.getElem?_append_left (by omega)]; exact h1
    show t.foldl _ (kst snd soft p b) = k
    rw [e1]
    exact keyish_fold h t (p ++ [b]) (by rw [e, List.append_assoc]; rfl) (by simp)
/-- the key of a key is the key -/
theorem key_key (hr : ∀ x, snd (snd x) = snd x) (hs : ∀ x, soft (snd x) = soft x) (a : α) (s : List α) (k0 : α) (kt : List α) (e : keyOf snd soft a s = k0 :: kt) : keyOf snd soft k0 kt = k0 :: kt := by
  have h := keyish_key hr hs a s
  rw [e] at h
  have : snd k0 = k0 := h.rep k0 (by simp)
  unfold keyOf
  rw [this]
  exact keyish_fold h kt [k0] rfl (by simp)
end
end Nm

namespace Nm
/-! ### groups: r on 0 .. n-1, reflexive and symmetric -/
/-- after j rounds of joining -/
def wj (r : Nat → Nat → Bool) : Nat → Nat → Nat → Bool
  | 0, i, k => r i k
  | j+1, i, k => wj r j i k || (wj r j i j && wj r j j k)
variable {r : Nat → Nat → Bool}
theorem wj_le (j i k : Nat) (h : wj r j i k = true) : wj r (j+1) i k = true := by rw [wj, h]; rfl
theorem wj_base (j i k : Nat) (h : r i k = true) : wj r j i k = true := by
  induction j with
  | zero => exact h
  | succ j ih => exact wj_le _ _ _ ih
theorem wj_row (j k : Nat) : wj r (j+1) j k = wj r j j k := by
  rw [wj]; cases wj r j j k <;> simp
theorem wj_col (j i : Nat) : wj r (j+1) i j = wj r j i j := by
  rw [wj]; cases wj r j i j <;> simp
theorem wj_trans : ∀ j m i k, m < j → wj r j i m = true → wj r j m k = true → wj r j i k = true
  | 0, m, i, k, h, _, _ => by omega
  | j+1, m, i, k, h, h1, h2 => by
    by_cases e : m = j
    · subst e
      rw [wj_col] at h1; rw [wj_row] at h2
      rw [wj, h1, h2]; simp
    · have T := wj_trans j m
      rw [wj, Bool.or_eq_true, Bool.and_eq_true] at h1 h2 ⊢
      rcases h1 with h1 | ⟨h1, h1'⟩ <;> rcases h2 with h2 | ⟨h2, h2'⟩
      · exact .inl (T i k (by omega) h1 h2)
      · exact .inr ⟨T i j (by omega) h1 h2, h2'⟩
      · exact .inr ⟨h1, T j k (by omega) h1' h2⟩
      · exact .inr ⟨h1, h2'⟩
theorem wj_symm (hs : ∀ i k, r i k = r k i) : ∀ j i k, wj r j i k = wj r j k i
  | 0, i, k => hs i k
  | j+1, i, k => by rw [wj, wj, wj_symm hs j i k, wj_symm hs j i j, wj_symm hs j j k, Bool.and_comm]
theorem wj_refl (hr : ∀ i, r i i = true) (j i : Nat) : wj r j i i = true := wj_base _ _ _ (hr i)
/-- a set that is closed under r is closed under all that r joins -/
theorem wj_closed {n : Nat} {S : Nat → Prop} (hS : ∀ g k, k < n → S g → r g k = true → S k) : ∀ j i k, j ≤ n → k < n → S i → wj r j i k = true → S k
  | 0, i, k, _, hk, hi, h => hS i k hk hi h
  | j+1, i, k, hj, hk, hi, h => by
    rw [wj, Bool.or_eq_true, Bool.and_eq_true] at h
    rcases h with h | ⟨h1, h2⟩
    · exact wj_closed hS j i k (by omega) hk hi h
    · exact wj_closed hS j j k (by omega) hk (wj_closed hS j i j (by omega) (by omega) hi h1) h2
/-- the classes, in the order of their first members -/
def classes (c : Nat → Nat → Bool) (n : Nat) : List (List Nat) :=
  ((List.range n).filter fun i => (List.range i).all fun k => !c i k).map fun i => (List.range n).filter (c i)
/-- higher limits join more -/
theorem wj_mono {r' : Nat → Nat → Bool} (h : ∀ i k, r i k = true → r' i k = true) : ∀ j i k, wj r j i k = true → wj r' j i k = true
  | 0, i, k, e => h i k e
  | j+1, i, k, e => by
    rw [wj, Bool.or_eq_true, Bool.and_eq_true] at e ⊢
    rcases e with e | ⟨e1, e2⟩
    · exact .inl (wj_mono h j i k e)
    · exact .inr ⟨wj_mono h j i j e1, wj_mono h j j k e2⟩

/-! ### the search, first by first; D says who is done -/
def rowStep (r : Nat → Nat → Bool) (g : Nat) (s : List Nat × List Bool) (k : Nat) : List Nat × List Bool :=
  if !(s.2.getD k true) && r g k then (s.1 ++ [k], s.2.set k true) else s
/-- a row's first m names looked at -/
def row (r : Nat → Nat → Bool) (g : Nat) (s : List Nat × List Bool) : Nat → List Nat × List Bool
  | 0 => s
  | m+1 => rowStep r g (row r g s m) m
/-- i members of the group looked at -/
def bs (r : Nat → Nat → Bool) (n : Nat) (s : List Nat × List Bool) : Nat → List Nat × List Bool
  | 0 => s
  | i+1 => if i < (bs r n s i).1.length then row r ((bs r n s i).1.getD i 0) (bs r n s i) n else bs r n s i

/-- what holds of a group that is being gathered -/
structure Gath (r : Nat → Nat → Bool) (n first : Nat) (D0 : List Bool) (s : List Nat × List Bool) : Prop where
  nodup : s.1.Nodup
  lt : ∀ x, x ∈ s.1 → x < n
  conn : ∀ x, x ∈ s.1 → wj r n first x = true
  len : s.2.length = n
  done : ∀ x, x < n → s.2.getD x true = (D0.getD x true || decide (x ∈ s.1))
  new : ∀ x, x ∈ s.1 → D0.getD x true = false
variable {n first : Nat} {D0 : List Bool}
theorem Gath.step {s : List Nat × List Bool} (h : Gath r n first D0 s) {g k : Nat} (hg : g ∈ s.1) (hk : k < n) : Gath r n first D0 (rowStep r g s k) ∧ (∀ x, x ∈ s.1 → x ∈ (rowStep r g s k).1) ∧ (∃ t, (rowStep r g s k).1 = s.1 ++ t) ∧ (r g k = true → (rowStep r g s k).2.getD k true = true) ∧ (∀ x, s.2.getD x true = true → (rowStep r g s k).2.getD x true = true) := by
  unfold rowStep
  split
  · rename_i hc
    rw [Bool.and_eq_true, Bool.not_eq_true'] at hc
    obtain ⟨h1, h2⟩ := hc
    have hd := h.done k hk
    rw [h1] at hd
    have hd' := hd.symm
    rw [Bool.or_eq_false_iff, decide_eq_false_iff_not] at hd'
    have hset : ∀ x, (s.2.set k true).getD x true = if x = k then true else s.2.getD x true := by
      intro x
      simp only [List.getD_eq_getElem?_getD, List.getElem?_set]
      by_cases e : k = x
      · subst e; simp [h.len, hk]
      · simp [e, Ne.symm e]
    refine ⟨⟨?_, ?_, ?_, ?_, ?_, ?_⟩, ?_, ⟨[k], rfl⟩, ?_, ?_⟩
    · refine List.nodup_append.2 ⟨h.nodup, by simp, fun a ha b hb e => ?_⟩
      simp at hb; subst hb; subst e; exact hd'.2 ha
    · intro x hx
      rcases List.mem_append.1 hx with hx | hx
      · exact h.lt x hx
      · simp at hx; omega
    · intro x hx
      rcases List.mem_append.1 hx with hx | hx
      · exact h.conn x hx
      · simp at hx; subst hx; exact wj_trans n g first x (h.lt g hg) (h.conn g hg) (wj_base n g x h2)
    · simp [h.len]
    · intro x hx
      simp only [hset, List.mem_append, List.mem_singleton]
      by_cases e : x = k
      · simp [e]
      · rw [if_neg e, h.done x hx]; simp [e]
    · intro x hx
      rcases List.mem_append.1 hx with hx | hx
      · exact h.new x hx
      · simp at hx; subst hx; exact hd'.1
    · intro x hx; exact List.mem_append_left _ hx
    · intro _; simp only [hset]; simp
    · intro x hx; simp only [hset, hx]; simp
  · rename_i hc
    refine ⟨h, fun x hx => hx, ⟨[], by simp⟩, fun hr => ?_, fun x hx => hx⟩
    rw [hr, Bool.and_true, Bool.not_eq_true', Bool.not_eq_false] at hc
    exact hc
theorem Gath.row {s : List Nat × List Bool} (h : Gath r n first D0 s) {g : Nat} (hg : g ∈ s.1) : ∀ m, m ≤ n → Gath r n first D0 (row r g s m) ∧ (∃ t, (Nm.row r g s m).1 = s.1 ++ t) ∧ (∀ k, k < m → r g k = true → (Nm.row r g s m).2.getD k true = true) ∧ (∀ x, s.2.getD x true = true → (Nm.row r g s m).2.getD x true = true)
  | 0, _ => ⟨h, ⟨[], by simp [Nm.row]⟩, fun k hk => by omega, fun x hx => hx⟩
  | m+1, hm => by
    obtain ⟨h1, ⟨t, h2⟩, h3, h4⟩ := Gath.row h hg m (by omega)
    have hg' : g ∈ (Nm.row r g s m).1 := by rw [h2]; exact List.mem_append_left _ hg
    obtain ⟨q1, _, ⟨t', q3⟩, q4, q5⟩ := h1.step hg' (k := m) (by omega)
    refine ⟨q1, ⟨t ++ t', by show (rowStep r g (Nm.row r g s m) m).1 = _; rw [q3, h2, List.append_assoc]⟩, fun k hk hr => ?_, fun x hx => q5 x (h4 x hx)⟩
    by_cases e : k = m
    · subst e; exact q4 hr
    · exact q5 k (h3 k (by omega) hr)
theorem Gath.le {s : List Nat × List Bool} (h : Gath r n first D0 s) : s.1.length ≤ n := by
  have hp : s.1.Perm ((List.range n).filter fun x => decide (x ∈ s.1)) := by
    refine (List.perm_ext_iff_of_nodup h.nodup (List.Nodup.sublist List.filter_sublist List.nodup_range)).2 fun x => ?_
    simp only [List.mem_filter, List.mem_range, decide_eq_true_eq]
    exact ⟨fun hx => ⟨h.lt x hx, hx⟩, fun hx => hx.2⟩
  have h1 := hp.length_eq
  have h2 := List.length_filter_le (fun x => decide (x ∈ s.1)) (List.range n)
  rw [List.length_range] at h2
  omega
/-- i members looked at: what they reach is done -/
theorem Gath.bs {s : List Nat × List Bool} (h : Gath r n first D0 s) : ∀ i, Gath r n first D0 (bs r n s i) ∧ (∃ t, (Nm.bs r n s i).1 = s.1 ++ t) ∧ (∀ j, j < i → j < (Nm.bs r n s i).1.length → ∀ k, k < n → r ((Nm.bs r n s i).1.getD j 0) k = true → (Nm.bs r n s i).2.getD k true = true)
  | 0 => ⟨h, ⟨[], by simp [Nm.bs]⟩, fun j hj => by omega⟩
  | i+1 => by
    obtain ⟨h1, ⟨t, h2⟩, h3⟩ := Gath.bs h i
    rw [Nm.bs]
    split
    · rename_i hlt
      have hg : (Nm.bs r n s i).1.getD i 0 ∈ (Nm.bs r n s i).1 := by
        rw [List.getD_eq_getElem?_getD, List.getElem?_eq_getElem hlt]; exact List.getElem_mem hlt
      obtain ⟨q1, ⟨t', q2⟩, q3, q4⟩ := h1.row hg n (Nat.le_refl _)
      refine ⟨q1, ⟨t ++ t', by rw [q2, h2, List.append_assoc]⟩, fun j hj hjl k hk hr => ?_⟩
      have hjl' : j < (Nm.bs r n s i).1.length := by omega
      have e : (Nm.row r ((Nm.bs r n s i).1.getD i 0) (Nm.bs r n s i) n).1.getD j 0 = (Nm.bs r n s i).1.getD j 0 := by
        rw [q2, List.getD_eq_getElem?_getD, List.getD_eq_getElem?_getD, List.getElem?_append_left hjl']
      rw [e] at hr
      by_cases ej : j = i
      · subst ej; exact q3 k hk hr
      · exact q4 k (h3 j (by omega) hjl' k hk hr)
    · rename_i hge
      exact ⟨h1, ⟨t, h2⟩, fun j hj hjl k hk hr => h3 j (by omega) hjl k hk hr⟩
theorem bs_stop {s : List Nat × List Bool} {i : Nat} (h : (bs r n s i).1.length ≤ i) : ∀ d, bs r n s (i+d) = bs r n s i
  | 0 => rfl
  | d+1 => by
    rw [← Nat.add_assoc, bs, bs_stop h d, if_neg (by omega)]
/-- the whole class is gathered -/
theorem gathered (hs : ∀ i k, r i k = r k i) {s : List Nat × List Bool} (h : Gath r n first D0 s) (hf : first ∈ s.1) (hD : ∀ x y, x < n → y < n → D0.getD x true = true → r x y = true → D0.getD y true = true) {i : Nat} (hi : (bs r n s i).1.length ≤ i) :
    (bs r n s i).1.Perm ((List.range n).filter (wj r n first)) ∧ (∀ x, x < n → (bs r n s i).2.getD x true = (D0.getD x true || wj r n first x)) ∧ (bs r n s i).2.length = n := by
  obtain ⟨h1, ⟨t, h2⟩, h3⟩ := h.bs i
  have hf' : first ∈ (bs r n s i).1 := by rw [h2]; exact List.mem_append_left _ hf
  have hcl : ∀ g k, k < n → g ∈ (bs r n s i).1 → r g k = true → k ∈ (bs r n s i).1 := by
    intro g k hk hg hr
    obtain ⟨j, hj, e⟩ := List.mem_iff_getElem.1 hg
    have hd := h3 j (by omega) hj k hk (by rw [List.getD_eq_getElem?_getD, List.getElem?_eq_getElem hj]; simpa [e] using hr)
    rw [h1.done k hk, Bool.or_eq_true, decide_eq_true_eq] at hd
    rcases hd with hd | hd
    · have := hD k g hk (h1.lt g hg) hd (by rw [hs]; exact hr)
      rw [h1.new g hg] at this; cases this
    · exact hd
  have hall : ∀ k, k < n → wj r n first k = true → k ∈ (bs r n s i).1 := fun k hk hc => wj_closed hcl n first k (Nat.le_refl _) hk hf' hc
  have hmem : ∀ x, x ∈ (bs r n s i).1 ↔ (x < n ∧ wj r n first x = true) := fun x => ⟨fun hx => ⟨h1.lt x hx, h1.conn x hx⟩, fun hx => hall x hx.1 hx.2⟩
  refine ⟨?_, fun x hx => ?_, h1.len⟩
  · refine (List.perm_ext_iff_of_nodup h1.nodup (List.Nodup.sublist List.filter_sublist List.nodup_range)).2 fun x => ?_
    rw [hmem x]; simp
  · rw [h1.done x hx]
    congr 1
    rw [Bool.eq_iff_iff, decide_eq_true_eq, hmem x]
    exact ⟨fun h => h.2, fun h => ⟨hx, h⟩⟩

/-- the names up to f have been firsts -/
def outer (r : Nat → Nat → Bool) (n : Nat) : Nat → List (List Nat) × List Bool
  | 0 => ([], List.replicate n false)
  | f+1 =>
    let o := outer r n f
    if o.2.getD f true then o else (o.1 ++ [(List.range n).filter (wj r n f)], (bs r n ([f], o.2.set f true) n).2)
theorem outer_start (hr : ∀ i, r i i = true) {D0 : List Bool} {f : Nat} (hf : f < n) (hlen : D0.length = n) (h0 : D0.getD f true = false) : Gath r n f D0 ([f], D0.set f true) := by
  refine ⟨by simp, fun x hx => by simp at hx; omega, fun x hx => by simp at hx; subst hx; exact wj_refl hr _ _, by simp [hlen], fun x hx => ?_, fun x hx => by simp at hx; subst hx; exact h0⟩
  simp only [List.getD_eq_getElem?_getD, List.getElem?_set, List.mem_singleton]
  by_cases e : f = x
  · subst e; simp [hlen, hf]
  · simp [e, Ne.symm e]
theorem outer_inv (hr : ∀ i, r i i = true) (hs : ∀ i k, r i k = r k i) : ∀ f, f ≤ n → (outer r n f).2.length = n ∧ (∀ x, x < n → (outer r n f).2.getD x true = (List.range f).any fun i => wj r n i x) ∧
    (outer r n f).1 = ((List.range f).filter fun i => (List.range i).all fun k => !wj r n i k).map fun i => (List.range n).filter (wj r n i)
  | 0, _ => by
    refine ⟨by simp [outer], fun x hx => ?_, by simp [outer]⟩
    simp [outer, List.getD_eq_getElem?_getD, hx]
  | f+1, hf => by
    obtain ⟨h1, h2, h3⟩ := outer_inv hr hs f (by omega)
    have hsy := wj_symm hs n
    have hany : ((List.range f).any fun i => wj r n i f) = !((List.range f).all fun k => !wj r n f k) := by
      rw [List.not_all_eq_any_not]
      simp only [Bool.not_not]
      congr 1; funext i; exact hsy i f
    rw [outer]
    split
    · rename_i hd
      refine ⟨h1, fun x hx => ?_, ?_⟩
      · rw [h2 x hx, List.range_succ, List.any_append]
        simp only [List.any_cons, List.any_nil, Bool.or_false]
        rw [h2 f (by omega)] at hd
        cases hw : wj r n f x with
        | false => simp
        | true =>
          rw [Bool.or_true]
          obtain ⟨i, hi, hif⟩ := List.any_eq_true.1 hd
          exact List.any_eq_true.2 ⟨i, hi, wj_trans n f i x (by omega) hif hw⟩
      · rw [h3, List.range_succ, List.filter_append, List.map_append]
        rw [h2 f (by omega), hany] at hd
        have hd' : ((List.range f).all fun k => !wj r n f k) = false := by simpa using hd
        simp [hd']
    · rename_i hd
      have hd0 : (outer r n f).2.getD f true = false := by simpa using hd
      have hG := outer_start (r := r) hr (by omega : f < n) h1 hd0
      have hD : ∀ x y, x < n → y < n → (outer r n f).2.getD x true = true → r x y = true → (outer r n f).2.getD y true = true := by
        intro x y hx hy hdx hxy
        rw [h2 x hx] at hdx; rw [h2 y hy]
        obtain ⟨i, hi, hix⟩ := List.any_eq_true.1 hdx
        exact List.any_eq_true.2 ⟨i, hi, wj_trans n x i y hx hix (wj_base n x y hxy)⟩
      have hle : (bs r n ([f], (outer r n f).2.set f true) n).1.length ≤ n := (hG.bs n).1.le
      obtain ⟨_, g2, g3⟩ := gathered hs hG (by simp) hD hle
      refine ⟨g3, fun x hx => ?_, ?_⟩
      · rw [g2 x hx, h2 x hx, List.range_succ, List.any_append]; simp
      · rw [h3, List.range_succ, List.filter_append, List.map_append]
        rw [h2 f (by omega), hany] at hd0
        have hd' : ((List.range f).all fun k => !wj r n f k) = true := by simpa using hd0
        simp [hd']
end Nm

namespace Nm
open Go.Sort
variable {k : Nat} [Inhabited (Fin k)]
/-- less by cost; by cost and number -/
def ltC (c : Nat → Nat) (x y : Fin k) : Bool := decide (c x.1 < c y.1)
def ltL (c : Nat → Nat) (x y : Fin k) : Bool := decide (c x.1 < c y.1 ∨ (c x.1 = c y.1 ∧ x.1 < y.1))
omit [Inhabited (Fin k)] in
theorem swo_ltL (c : Nat → Nat) : SWO (ltL (k := k) c) := ⟨fun x => by simp [ltL], fun x y z => by simp only [ltL, decide_eq_true_eq]; omega, fun x y z => by simp only [ltL, decide_eq_false_iff_not]; omega⟩
theorem insInner_eq (c : Nat → Nat) : ∀ (j : Nat) (d : Array (Fin k)), j < d.size → (∀ p, p < j → d[p]!.1 < d[j]!.1) → insInner (ltC c) 0 j d = insInner (ltL c) 0 j d
  | 0, d, _, _ => by rw [insInner, insInner]
  | j+1, d, hs, h => by
    have hj := h j (by omega)
    have e : ltC c d[j+1]! d[j]! = ltL c d[j+1]! d[j]! := by
      unfold ltC ltL
      rw [decide_eq_decide]; omega
    rw [insInner, insInner, e]
    split
    · refine insInner_eq c j _ (by rw [swp_size]; omega) fun p hp => ?_
      rw [swp_get d (i := j+1) (j := j) (by omega) (by omega), swp_get d (i := j+1) (j := j) (by omega) (by omega), if_neg (by omega), if_neg (by omega), if_pos rfl]
      exact h p (by omega)
    · rfl
theorem insOuter_eq (c : Nat → Nat) : ∀ (n i : Nat) (d : Array (Fin k)), d.size - i = n → 0 < i → (∀ p q, p < q → i ≤ q → q < d.size → d[p]!.1 < d[q]!.1) → insOuter (ltC c) 0 d.size i d = insOuter (ltL c) 0 d.size i d
  | 0, i, d, hn, _, h => by
    unfold insOuter; rw [if_neg (by omega)]; try rw [if_neg (by omega)]
  | n+1, i, d, hn, h0, h => by
    have hi : i < d.size := by omega
    have e := insInner_eq c i d hi (fun p hp => h p i hp (Nat.le_refl _) hi)
    have hsp : PermIn 0 (i+1) d (insInner (ltL c) 0 i d) := by
      -- the part before is not known to be in order: the permutation alone is wanted
      have gen : ∀ (j : Nat) (d : Array (Fin k)), j ≤ i → i + 1 ≤ d.size → PermIn 0 (i+1) d (insInner (ltL c) 0 j d) := by
        intro j
        induction j with
        | zero => intro d _ _; rw [insInner]; exact permIn_refl _ _ _
        | succ j ih =>
          intro d hj hd
          rw [insInner]
          split
          · exact permIn_trans _ _ _ _ _ (swp_permIn d 0 (i+1) (j+1) j (by omega) (by omega) (by omega) (by omega) hd) (ih _ (by omega) (by rw [swp_size]; exact hd))
          · exact permIn_refl _ _ _
      exact gen i d (Nat.le_refl _) (by omega)
    rw [insOuter, if_pos hi, e]
    conv => rhs; rw [insOuter, if_pos hi]
    have hsz := hsp.1
    have ih := insOuter_eq c n (i+1) (insInner (ltL c) 0 i d) (by omega) (by omega) (fun p q hpq hiq hq => by
      rw [hsp.2.1 q (.inr (by omega))]
      by_cases hp : p < i + 1
      · exact permIn_all d _ 0 (i+1) (fun x => x.1 < d[q]!.1) (by omega) hsp (fun r _ hr => h r q (by omega) (by omega) (by omega)) p (by omega) hp
      · rw [hsp.2.1 p (.inr (by omega))]
        exact h p q hpq (by omega) (by omega))
    rw [hsz] at ih
    exact ih
theorem getElem!_lt {α : Type} [Inhabited α] (d : Array α) (i : Nat) (h : i < d.size) : d[i]! = d.toList[i]'(by simpa using h) := by
  rw [getElem!_pos d i h]; simp
/-- THE STABLE SORT: in order of cost, those of equal cost in order of number -/
theorem ins_stable (c : Nat → Nat) (d : Array (Fin k)) (hd : d.toList.Pairwise (fun x y => x.1 < y.1)) :
    (insertionSort (ltC c) d 0 d.size).toList.Pairwise (fun x y => lex c x.1 y.1) ∧ (∀ x, x ∈ (insertionSort (ltC c) d 0 d.size).toList ↔ x ∈ d.toList) ∧ (insertionSort (ltC c) d 0 d.size).size = d.size := by
  have hasc : ∀ p q, p < q → q < d.size → d[p]!.1 < d[q]!.1 := fun p q hpq hq => by
    rw [getElem!_lt d p (by omega), getElem!_lt d q hq]
    exact List.pairwise_iff_getElem.1 hd p q _ _ hpq
  have e : insertionSort (ltC c) d 0 d.size = insertionSort (ltL c) d 0 d.size := by
    unfold insertionSort
    exact insOuter_eq c _ 1 d rfl (by omega) (fun p q hpq _ hq => hasc p q hpq hq)
  have hs := insertionSort_holds (lt := ltL c) (swo_ltL c) d 0 d.size (Nat.zero_le _) (Nat.le_refl _)
  rw [e]
  generalize insertionSort (ltL c) d 0 d.size = r at *
  obtain ⟨⟨h1, _, h2⟩, h3⟩ := hs
  have h2' : r.toList.Perm d.toList := by
    have a : (r.extract 0 d.size).toList = r.toList := by rw [← h1]; simp
    have b : (d.extract 0 d.size).toList = d.toList := by simp
    rw [a, b] at h2; exact h2
  have hnd : r.toList.Nodup := by
    refine h2'.nodup_iff.2 (List.Pairwise.imp (fun {a b} h e => ?_) hd)
    rw [e] at h; omega
  refine ⟨?_, fun x => h2'.mem_iff, h1⟩
  rw [List.pairwise_iff_getElem]
  intro p q hp hq hpq
  have hp' : p < r.size := by simpa using hp
  have hq' : q < r.size := by simpa using hq
  have h := h3 p q (Nat.zero_le _) hpq (by omega)
  rw [getElem!_lt r p hp', getElem!_lt r q hq'] at h
  have hne : r.toList[p] ≠ r.toList[q] := fun e => by
    have := (List.nodup_iff_pairwise_ne.1 hnd)
    exact List.pairwise_iff_getElem.1 this p q hp hq hpq e
  have hne' : r.toList[p].1 ≠ r.toList[q].1 := fun e => hne (Fin.ext e)
  simp only [ltL, decide_eq_false_iff_not] at h
  unfold lex
  omega
end Nm
