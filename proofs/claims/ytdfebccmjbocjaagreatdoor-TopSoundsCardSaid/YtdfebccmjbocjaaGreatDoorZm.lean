/- sheet: sets as numbers, blocks, the least number of persons: plain mathematics. -/
import Derived.Lib.TrailingZeros
import Derived.KernelRfl
set_option linter.unusedVariables false
set_option linter.unusedSimpArgs false
namespace Sh

/-  parts of a set, in falling order -/
theorem next_sub : ∀ (n s r t : Nat), s ≤ n → s &&& r = s → t &&& r = t → t < s → t ≤ (s - 1) &&& r
  | 0, s, r, t, hn, hs, ht, hl => by omega
  | n + 1, s, r, t, hn, hs, ht, hl => by
    have hs2 : s / 2 &&& r / 2 = s / 2 := by rw [← Nat.and_div_two, hs]
    have ht2 : t / 2 &&& r / 2 = t / 2 := by rw [← Nat.and_div_two, ht]
    have hd : ((s - 1) &&& r) / 2 = (s - 1) / 2 &&& r / 2 := Nat.and_div_two
    have hm : ((s - 1) &&& r) % 2 = 1 ↔ (s - 1) % 2 = 1 ∧ r % 2 = 1 := Nat.and_mod_two_eq_one
    have hmt : (t &&& r) % 2 = 1 ↔ t % 2 = 1 ∧ r % 2 = 1 := Nat.and_mod_two_eq_one
    rw [ht] at hmt
    by_cases hp : s % 2 = 1
    · have e : (s - 1) / 2 = s / 2 := by omega
      rw [e, hs2] at hd
      omega
    · have e : (s - 1) / 2 = s / 2 - 1 := by omega
      rw [e] at hd
      have h1 := next_sub n (s / 2) (r / 2) (t / 2) (by omega) hs2 ht2 (by omega)
      omega

/-- the first member of a set -/
def low (s : Nat) : Nat := s &&& (18446744073709551616 - s)
/-- the members -/
def bits (s : Nat) : List Nat := (List.range 10).filter fun k => s.testBit k

theorem mem_bits {s k : Nat} (hs : s < 1024) : k ∈ bits s ↔ s.testBit k = true := by
  simp only [bits, List.mem_filter, List.mem_range]
  constructor
  · exact fun h => h.2
  · intro h
    refine ⟨?_, h⟩
    have h1 := Nat.ge_two_pow_of_testBit h
    by_cases hk : k < 10
    · exact hk
    · have : 2 ^ 10 ≤ 2 ^ k := Nat.pow_le_pow_right (by omega) (by omega)
      omega
/-- how many classes a set of blocks has -/
def classes (cls : Nat → Nat) (s : Nat) : Nat := (List.range 10).countP fun p => (bits s).any fun k => cls k == p

theorem countP_lt {α : Type} {P Q : α → Bool} : ∀ {l : List α}, (∀ x ∈ l, P x = true → Q x = true) → (∃ x ∈ l, Q x = true ∧ P x = false) → l.countP P + 1 ≤ l.countP Q
  | [], _, h => by obtain ⟨x, hx, _⟩ := h; simp at hx
  | a :: l, hi, h => by
    have hrest : l.countP P ≤ l.countP Q := List.countP_mono_left fun x hx => hi x (List.mem_cons_of_mem _ hx)
    by_cases ha : Q a = true ∧ P a = false
    · rw [List.countP_cons_of_pos ha.1, List.countP_cons_of_neg (by rw [ha.2]; simp)]
      omega
    · have hl : l.countP P + 1 ≤ l.countP Q := by
        refine countP_lt (fun x hx => hi x (List.mem_cons_of_mem _ hx)) ?_
        obtain ⟨x, hx, hq⟩ := h
        rcases List.mem_cons.1 hx with rfl | hx
        · exact absurd hq ha
        · exact ⟨x, hx, hq⟩
      have hpa := hi a (List.mem_cons_self ..)
      cases hq : Q a with
      | true =>
        have hp : P a = true := by cases hp : P a with
          | true => rfl
          | false => exact absurd ⟨hq, hp⟩ ha
        rw [List.countP_cons_of_pos hp, List.countP_cons_of_pos hq]; omega
      | false =>
        have hp : P a = false := by cases hp : P a with
          | false => rfl
          | true => rw [hpa hp] at hq; cases hq
        rw [List.countP_cons_of_neg (by rw [hp]; simp), List.countP_cons_of_neg (by rw [hq]; simp)]; exact hl

/-- what the code's table of least numbers has: for each set of blocks -/
structure Least (one : Nat → Bool) (L : Nat → Nat) (N : Nat) : Prop where
  zero : L 0 = 0
  le : ∀ s, 0 < s → s < N → ∀ t, t &&& (s ^^^ low s) = t → one (t ||| low s) = true → L s ≤ 1 + L (s ^^^ (t ||| low s))
  ge : ∀ s, 0 < s → s < N → L s = 1024 ∨ ∃ t, t &&& (s ^^^ low s) = t ∧ one (t ||| low s) = true ∧ L s = 1 + L (s ^^^ (t ||| low s))
  top : ∀ s, L s ≤ 1024

theorem exists_mask (P : Nat → Bool) : ∀ n, ∃ g, g < 2 ^ n ∧ ∀ k, g.testBit k = (decide (k < n) && P k)
  | 0 => ⟨0, by simp, fun k => by simp⟩
  | n + 1 => by
    obtain ⟨g, hg, hk⟩ := exists_mask P n
    have h2 : 2 ^ n < 2 ^ (n + 1) := Nat.pow_lt_pow_right (by omega) (by omega)
    cases hP : P n with
    | false =>
      refine ⟨g, by omega, fun k => ?_⟩
      rw [hk]
      by_cases hkn : k = n
      · subst hkn; simp [hP]
      · congr 1
        exact decide_eq_decide.2 (by omega)
    | true =>
      refine ⟨g ||| 2 ^ n, Nat.or_lt_two_pow (by omega) h2, fun k => ?_⟩
      rw [Nat.testBit_or, hk]
      by_cases hkn : k = n
      · subst hkn; simp [hP, Nat.testBit_two_pow_self]
      · rw [Nat.testBit_two_pow_of_ne (by omega), Bool.or_false]
        congr 1
        exact decide_eq_decide.2 (by omega)

def lowOk : Bool := (List.range 1024).all fun s => s == 0 || (List.range 10).any fun k => low s == 2 ^ k && s.testBit k
theorem lowOk_true : lowOk = true := by kernel_rfl
theorem low_of {s : Nat} (h0 : 0 < s) (h : s < 1024) : ∃ k, k < 10 ∧ low s = 2 ^ k ∧ s.testBit k = true := by
  have h1 := lowOk_true
  simp only [lowOk, List.all_eq_true, List.mem_range, Bool.or_eq_true, beq_iff_eq, List.any_eq_true, Bool.and_eq_true] at h1
  rcases h1 s h with h2 | ⟨k, hk, h3, h4⟩
  · omega
  · exact ⟨k, hk, h3, h4⟩

theorem sub_le {t s : Nat} (h : ∀ k, t.testBit k = true → s.testBit k = true) : t &&& s = t := by
  apply Nat.eq_of_testBit_eq
  intro k
  rw [Nat.testBit_and]
  cases ht : t.testBit k with
  | false => simp
  | true => simp [h k ht]

theorem xor_lt {s g k : Nat} (h : ∀ k, g.testBit k = true → s.testBit k = true) (hk : g.testBit k = true) : s ^^^ g < s := by
  have hle : s ^^^ g ≤ s := Nat.le_of_testBit fun i hi => by
    rw [Nat.testBit_xor] at hi
    cases hs : s.testBit i with
    | true => rfl
    | false => 
      cases hg : g.testBit i with
      | true => rw [h i hg] at hs; cases hs
      | false => rw [hs, hg] at hi; cases hi
  have hne : s ^^^ g ≠ s := by
    intro e
    have h1 := congrArg (fun x => x.testBit k) e
    simp only [Nat.testBit_xor, hk, h k hk] at h1
    cases h1
  omega

section
variable {one : Nat → Bool} {L : Nat → Nat} {N : Nat}
/-- groups that belong together are enough -/
theorem Least.le_classes (h : Least one L N) (hN : N ≤ 1024) (cls : Nat → Nat) (hcls : ∀ k, k < 10 → cls k < 10)
    (hone : ∀ g p, g < N → (∀ k ∈ bits g, cls k = p) → one g = true) : ∀ s, s < N → L s ≤ classes cls s := by
  intro s
  induction s using Nat.strongRecOn with
  | _ s ih =>
  intro hs
  by_cases h0 : s = 0
  · subst h0; rw [h.zero]; exact Nat.zero_le _
  obtain ⟨k0, hk0, hlow, hb⟩ := low_of (by omega) (show s < 1024 by omega)
  obtain ⟨g, hg, hgk⟩ := exists_mask (fun k => s.testBit k && cls k == cls k0) 10
  have hgs : ∀ k, g.testBit k = true → s.testBit k = true := fun k hk => by
    rw [hgk] at hk; simp at hk; exact hk.2.1
  have hg0 : g.testBit k0 = true := by rw [hgk]; simp [hk0, hb]
  have hgl : g ≤ s := Nat.le_of_testBit hgs
  have ht : (g ^^^ low s) &&& (s ^^^ low s) = g ^^^ low s := by
    apply sub_le
    intro k hk
    rw [Nat.testBit_xor] at hk ⊢
    by_cases hkk : k = k0
    · subst hkk; rw [hlow, Nat.testBit_two_pow_self, hg0] at hk; cases hk
    · rw [hlow, Nat.testBit_two_pow_of_ne (by omega)] at hk ⊢
      rw [Bool.xor_false] at hk ⊢
      exact hgs k hk
  have hor : (g ^^^ low s) ||| low s = g := by
    apply Nat.eq_of_testBit_eq
    intro k
    rw [Nat.testBit_or, Nat.testBit_xor]
    by_cases hkk : k = k0
    · subst hkk; rw [hlow, Nat.testBit_two_pow_self, hg0]; rfl
    · rw [hlow, Nat.testBit_two_pow_of_ne (by omega)]; simp
  have h1 := h.le s (by omega) hs _ ht (by
    rw [hor]
    refine hone g (cls k0) (by omega) fun k hk => ?_
    rw [mem_bits (by omega), hgk] at hk
    simp at hk
    exact hk.2.2)
  rw [hor] at h1
  have hlt := xor_lt hgs hg0
  have h2 := ih _ hlt (by omega)
  have h3 : classes cls (s ^^^ g) + 1 ≤ classes cls s := by
    refine countP_lt (fun p _ hp => ?_) ⟨cls k0, List.mem_range.2 (hcls k0 hk0), ?_, ?_⟩
    · simp only [List.any_eq_true] at hp ⊢
      obtain ⟨k, hk, hc⟩ := hp
      refine ⟨k, ?_, hc⟩
      rw [mem_bits (by omega)] at hk ⊢
      rw [Nat.testBit_xor] at hk
      cases hsk : s.testBit k with
      | true => rfl
      | false =>
        cases hgk' : g.testBit k with
        | true => rw [hgs k hgk'] at hsk; cases hsk
        | false => rw [hsk, hgk'] at hk; cases hk
    · simp only [List.any_eq_true]
      exact ⟨k0, (mem_bits (by omega)).2 hb, by simp⟩
    · rw [Bool.eq_false_iff]
      intro hp
      simp only [List.any_eq_true] at hp
      obtain ⟨k, hk, hc⟩ := hp
      have hk10 : k < 10 := by simp only [bits, List.mem_filter, List.mem_range] at hk; exact hk.1
      rw [mem_bits (by omega), Nat.testBit_xor, hgk] at hk
      have hc' : cls k = cls k0 := by simpa using hc
      cases hsk : s.testBit k with
      | true => rw [hsk] at hk; simp [hk10, hc'] at hk
      | false => rw [hsk] at hk; simp at hk
  omega
/-- a block that does not fit itself leaves nothing -/
theorem Least.bad (h : Least one L N) (hN : N ≤ 1024) (k : Nat) (hbad : ∀ g, g.testBit k = true → one g = false) : ∀ s, s < N → s.testBit k = true → L s = 1024 := by
  intro s
  induction s using Nat.strongRecOn with
  | _ s ih =>
  intro hs hk
  have h0 : 0 < s := by
    rcases Nat.eq_zero_or_pos s with h0 | h0
    · subst h0; simp at hk
    · exact h0
  rcases h.ge s h0 hs with h1 | ⟨t, ht, ho, h1⟩
  · exact h1
  exfalso
  obtain ⟨k0, hk0, hlow, hb⟩ := low_of h0 (show s < 1024 by omega)
  have hgk : (t ||| low s).testBit k = false := by
    cases hc : (t ||| low s).testBit k with
    | false => rfl
    | true => rw [hbad _ hc] at ho; cases ho
  have hgs : ∀ i, (t ||| low s).testBit i = true → s.testBit i = true := by
    intro i hi
    rw [Nat.testBit_or] at hi
    by_cases hik : i = k0
    · rw [hik]; exact hb
    · rw [hlow, Nat.testBit_two_pow_of_ne (by omega), Bool.or_false] at hi
      have h2 := congrArg (fun x => x.testBit i) ht
      simp only [Nat.testBit_and, Nat.testBit_xor, hi, Bool.true_and] at h2
      rw [hlow, Nat.testBit_two_pow_of_ne (by omega), Bool.xor_false] at h2
      exact h2
  have hlt := xor_lt (k := k0) hgs (by rw [Nat.testBit_or, hlow, Nat.testBit_two_pow_self]; simp)
  have h3 := ih _ hlt (by omega) (by rw [Nat.testBit_xor, hgk, hk]; rfl)
  have h4 := h.top s
  omega
end

/-  blocks -/
def blockAt (bs : List Nat) (i : Nat) : Nat := bs.findIdx fun b => b.testBit i
def joinB (bs : List Nat) (p : Nat × Nat) : List Nat :=
  if blockAt bs p.1 = blockAt bs p.2 then bs
  else (bs.set (blockAt bs p.1) (bs.getD (blockAt bs p.1) 0 ||| bs.getD (blockAt bs p.2) 0)).eraseIdx (blockAt bs p.2)
def blocks (n : Nat) (sm : List (Nat × Nat)) : List Nat := sm.foldl joinB ((List.range n).map fun i => 2 ^ i)
/-- all entries are there, and only they -/
structure Cov (n : Nat) (bs : List Nat) : Prop where
  all : ∀ i, i < n → ∃ b ∈ bs, b.testBit i = true
  pos : ∀ b ∈ bs, b ≠ 0
  lt : ∀ b ∈ bs, b < 2 ^ n
  len : bs.length ≤ n
theorem blockAt_lt {n : Nat} {bs : List Nat} (h : Cov n bs) {i : Nat} (hi : i < n) : blockAt bs i < bs.length := by
  obtain ⟨b, hb, ht⟩ := h.all i hi
  exact List.findIdx_lt_length_of_exists ⟨b, hb, ht⟩
theorem blockAt_bit {n : Nat} {bs : List Nat} (h : Cov n bs) {i : Nat} (hi : i < n) : (bs.getD (blockAt bs i) 0).testBit i = true := by
  have h1 := blockAt_lt h hi
  rw [List.getD_eq_getElem?_getD, List.getElem?_eq_getElem h1]
  exact List.findIdx_getElem (w := h1)
theorem getD_mem {bs : List Nat} {k : Nat} (h : k < bs.length) : bs.getD k 0 ∈ bs := by
  rw [List.getD_eq_getElem?_getD, List.getElem?_eq_getElem h]; exact List.getElem_mem h
theorem mem_join {bs : List Nat} {p : Nat × Nat} (h : blockAt bs p.1 ≠ blockAt bs p.2) (ha : blockAt bs p.1 < bs.length) {x : Nat} :
    x ∈ joinB bs p ↔ x = bs.getD (blockAt bs p.1) 0 ||| bs.getD (blockAt bs p.2) 0 ∨ ∃ j, j ≠ blockAt bs p.1 ∧ j ≠ blockAt bs p.2 ∧ bs[j]? = some x := by
  unfold joinB
  rw [if_neg h, List.mem_eraseIdx_iff_getElem?]
  constructor
  · rintro ⟨j, hj, hx⟩
    rw [List.getElem?_set] at hx
    by_cases hja : blockAt bs p.1 = j
    · rw [if_pos hja, if_pos ha] at hx
      exact .inl (by simpa using hx.symm)
    · rw [if_neg hja] at hx
      exact .inr ⟨j, fun e => hja e.symm, hj, hx⟩
  · rintro (rfl | ⟨j, hja, hjb, hx⟩)
    · exact ⟨blockAt bs p.1, h, by rw [List.getElem?_set, if_pos rfl, if_pos ha]⟩
    · exact ⟨j, hjb, by rw [List.getElem?_set, if_neg (fun e => hja e.symm)]; exact hx⟩
theorem Cov.start (n : Nat) : Cov n ((List.range n).map fun i => 2 ^ i) where
  all := fun i hi => ⟨2 ^ i, List.mem_map.2 ⟨i, List.mem_range.2 hi, rfl⟩, Nat.testBit_two_pow_self⟩
  pos := fun b hb => by
    obtain ⟨i, _, rfl⟩ := List.mem_map.1 hb
    exact Nat.ne_of_gt (Nat.two_pow_pos i)
  lt := fun b hb => by
    obtain ⟨i, hi, rfl⟩ := List.mem_map.1 hb
    exact Nat.pow_lt_pow_right (by omega) (List.mem_range.1 hi)
  len := by simp
theorem Cov.join {n : Nat} {bs : List Nat} (h : Cov n bs) {p : Nat × Nat} (h1 : p.1 < n) (h2 : p.2 < n) : Cov n (joinB bs p) := by
  by_cases he : blockAt bs p.1 = blockAt bs p.2
  · unfold joinB; rw [if_pos he]; exact h
  have ha := blockAt_lt h h1
  have hb := blockAt_lt h h2
  have hma := getD_mem ha
  have hmb := getD_mem hb
  refine ⟨fun i hi => ?_, fun b hb => ?_, fun b hb => ?_, ?_⟩
  · obtain ⟨b, hbm, hbt⟩ := h.all i hi
    obtain ⟨j, hj⟩ := List.getElem?_of_mem hbm
    by_cases hja : j = blockAt bs p.1
    · refine ⟨_, (mem_join he ha).2 (.inl rfl), ?_⟩
      rw [Nat.testBit_or, ← hja, List.getD_eq_getElem?_getD, hj]; simp [hbt]
    · by_cases hjb : j = blockAt bs p.2
      · refine ⟨_, (mem_join he ha).2 (.inl rfl), ?_⟩
        rw [Nat.testBit_or, ← hjb, List.getD_eq_getElem?_getD (i := j), hj]; simp [hbt]
      · exact ⟨b, (mem_join he ha).2 (.inr ⟨j, hja, hjb, hj⟩), hbt⟩
  · rcases (mem_join he ha).1 hb with rfl | ⟨j, _, _, hj⟩
    · intro e; exact h.pos _ hma (Nat.or_eq_zero_iff.1 e).1
    · exact h.pos b (List.mem_of_getElem? hj)
  · rcases (mem_join he ha).1 hb with rfl | ⟨j, _, _, hj⟩
    · exact Nat.or_lt_two_pow (h.lt _ hma) (h.lt _ hmb)
    · exact h.lt b (List.mem_of_getElem? hj)
  · have hl := h.len
    unfold joinB; rw [if_neg he, List.length_eraseIdx_of_lt (by rw [List.length_set]; exact hb), List.length_set]; omega
theorem Cov.fold {n : Nat} : ∀ (sm : List (Nat × Nat)) {bs : List Nat}, Cov n bs → (∀ p ∈ sm, p.1 < n ∧ p.2 < n) → Cov n (sm.foldl joinB bs)
  | [], _, h, _ => h
  | p :: sm, _, h, hp => Cov.fold sm (h.join (hp p (List.mem_cons_self ..)).1 (hp p (List.mem_cons_self ..)).2) fun q hq => hp q (List.mem_cons_of_mem _ hq)
/-- each block within one person -/
def Within (of : Nat → Nat) (bs : List Nat) : Prop := ∀ b ∈ bs, ∀ i j, b.testBit i = true → b.testBit j = true → of i = of j
theorem Within.start (of : Nat → Nat) (n : Nat) : Within of ((List.range n).map fun i => 2 ^ i) := by
  intro b hb i j hi hj
  obtain ⟨k, _, rfl⟩ := List.mem_map.1 hb
  rw [Nat.testBit_two_pow] at hi hj
  rw [← of_decide_eq_true hi, ← of_decide_eq_true hj]
theorem Within.join {of : Nat → Nat} {n : Nat} {bs : List Nat} (hc : Cov n bs) (h : Within of bs) {p : Nat × Nat} (h1 : p.1 < n) (h2 : p.2 < n) (he : of p.1 = of p.2) : Within of (joinB bs p) := by
  by_cases hab : blockAt bs p.1 = blockAt bs p.2
  · unfold joinB; rw [if_pos hab]; exact h
  have ha := blockAt_lt hc h1
  have hma := getD_mem ha
  have hmb := getD_mem (blockAt_lt hc h2)
  have ta := blockAt_bit hc h1
  have tb := blockAt_bit hc h2
  intro b hb i j hi hj
  rcases (mem_join hab ha).1 hb with rfl | ⟨k, _, _, hk⟩
  · have key : ∀ i, (bs.getD (blockAt bs p.1) 0 ||| bs.getD (blockAt bs p.2) 0).testBit i = true → of i = of p.1 := by
      intro i hi
      rw [Nat.testBit_or, Bool.or_eq_true] at hi
      rcases hi with hi | hi
      · exact h _ hma i p.1 hi ta
      · rw [he]; exact h _ hmb i p.2 hi tb
    rw [key i hi, key j hj]
  · exact h b (List.mem_of_getElem? hk) i j hi hj
theorem Within.fold {of : Nat → Nat} {n : Nat} : ∀ (sm : List (Nat × Nat)) {bs : List Nat}, Cov n bs → Within of bs → (∀ p ∈ sm, p.1 < n ∧ p.2 < n) → (∀ p ∈ sm, of p.1 = of p.2) → Within of (sm.foldl joinB bs)
  | [], _, _, h, _, _ => h
  | p :: sm, _, hc, h, hp, he =>
    have h1 := hp p (List.mem_cons_self ..)
    Within.fold sm (hc.join h1.1 h1.2) (h.join hc h1.1 h1.2 (he p (List.mem_cons_self ..))) (fun q hq => hp q (List.mem_cons_of_mem _ hq)) fun q hq => he q (List.mem_cons_of_mem _ hq)
theorem join_both {n : Nat} {bs : List Nat} (hc : Cov n bs) {p : Nat × Nat} (h1 : p.1 < n) (h2 : p.2 < n) : ∃ b ∈ joinB bs p, b.testBit p.1 = true ∧ b.testBit p.2 = true := by
  have ta := blockAt_bit hc h1
  have tb := blockAt_bit hc h2
  by_cases hab : blockAt bs p.1 = blockAt bs p.2
  · unfold joinB; rw [if_pos hab]
    exact ⟨_, getD_mem (blockAt_lt hc h1), ta, by rw [hab]; exact tb⟩
  · refine ⟨_, (mem_join hab (blockAt_lt hc h1)).2 (.inl rfl), ?_, ?_⟩
    · rw [Nat.testBit_or, ta]; rfl
    · rw [Nat.testBit_or, tb, Bool.or_true]
/-- the entries of a set of blocks -/
def entriesOf (bs : List Nat) (g : Nat) : Nat := (bits g).foldl (fun a k => a ||| bs.getD k 0) 0
theorem foldl_or_bit (bs : List Nat) (i : Nat) : ∀ (l : List Nat) (a : Nat), (l.foldl (fun a k => a ||| bs.getD k 0) a).testBit i = (a.testBit i || l.any fun k => (bs.getD k 0).testBit i)
  | [], a => by simp
  | k :: l, a => by rw [List.foldl_cons, foldl_or_bit bs i l, Nat.testBit_or, List.any_cons, Bool.or_assoc]
theorem entriesOf_bit (bs : List Nat) (g i : Nat) : (entriesOf bs g).testBit i = (bits g).any fun k => (bs.getD k 0).testBit i := by
  unfold entriesOf; rw [foldl_or_bit]; simp
/-- whether entries fit -/
def fitsB (fit : Nat → Nat → Bool) (ap : List (Nat × Nat)) (S : Nat) : Bool :=
  ((bits S).all fun a => (bits S).all fun b => !decide (b < a) || fit a b) && ap.all fun p => !S.testBit p.1 || !S.testBit p.2
/-- how many persons n entries have -/
def many (n : Nat) (of : Nat → Nat) : Nat := (List.range 10).countP fun p => (List.range n).any fun i => of i == p
theorem mem_bits_lt {s k : Nat} (h : k ∈ bits s) : k < 10 ∧ s.testBit k = true := by
  simp only [bits, List.mem_filter, List.mem_range] at h; exact h
theorem countP_or_one (P : Nat → Bool) (c : Nat) : ∀ (l : List Nat), l.Nodup → l.countP (fun p => P p || c == p) ≤ l.countP P + 1
  | [], _ => by simp
  | a :: l, h => by
    have hn := List.nodup_cons.1 h
    by_cases hc : c = a
    · subst hc
      have e : l.countP (fun p => P p || c == p) = l.countP P := by
        apply List.countP_congr
        intro x hx
        have : ¬ c = x := fun e => hn.1 (e ▸ hx)
        simp [this]
      rw [List.countP_cons, List.countP_cons, e]
      split <;> split <;> omega
    · have h1 := countP_or_one P c l hn.2
      rw [List.countP_cons, List.countP_cons]
      have e : (P a || c == a) = P a := by simp [hc]
      rw [e]; omega
theorem classes_le (cls : Nat → Nat) : ∀ m, (List.range 10).countP (fun p => (List.range m).any fun k => cls k == p) ≤ m
  | 0 => by simp
  | m + 1 => by
    have h1 := classes_le cls m
    have h2 := countP_or_one (fun p => (List.range m).any fun k => cls k == p) (cls m) (List.range 10) (List.nodup_range)
    have e : (fun p => (List.range (m + 1)).any fun k => cls k == p) = fun p => ((List.range m).any fun k => cls k == p) || cls m == p := by
      funext p; rw [List.range_succ, List.any_append]; simp
    rw [e]; omega

section
variable {n : Nat} {of : Nat → Nat} {fit : Nat → Nat → Bool} {sm ap : List (Nat × Nat)} {L : Nat → Nat}
/-- A TRUE ASSIGNMENT leaves enough persons, and not too many -/
theorem read_true (hn : n ≤ 10) (hof : ∀ i, i < n → of i < 10) (hfit : ∀ a b, a < n → b < a → of a = of b → fit a b = true)
    (hsm : ∀ p ∈ sm, (p.1 < n ∧ p.2 < n)) (hse : ∀ p ∈ sm, of p.1 = of p.2) (hap : ∀ p ∈ ap, (p.1 < n ∧ p.2 < n) ∧ of p.1 ≠ of p.2)
    (hL : Least (fun g => fitsB fit ap (entriesOf (blocks n sm) g)) L (2 ^ (blocks n sm).length)) :
    L (2 ^ (blocks n sm).length - 1) ≤ many n of ∧ many n of ≤ (blocks n sm).length ∧ (blocks n sm).length ≤ n := by
  have hc : Cov n (blocks n sm) := Cov.fold sm (Cov.start n) hsm
  have hw : Within of (blocks n sm) := Within.fold sm (Cov.start n) (Within.start of n) hsm hse
  generalize blocks n sm = bs at *
  have hN : 2 ^ bs.length ≤ 1024 := by
    have := Nat.pow_le_pow_right (show 0 < 2 by omega) (show bs.length ≤ 10 by have := hc.len; omega)
    omega
  have hpos := Nat.two_pow_pos bs.length
  -- the first entry of a block, its person
  have hfirst : ∀ k, ∃ i, k < bs.length → (bs.getD k 0).testBit i = true ∧ i < n := by
    intro k
    by_cases hk : k < bs.length
    · have hm := getD_mem hk
      obtain ⟨i, hi⟩ := Nat.exists_testBit_of_ne_zero (hc.pos _ hm)
      refine ⟨i, fun _ => ⟨hi, ?_⟩⟩
      have h1 := Nat.ge_two_pow_of_testBit hi
      have h2 := hc.lt _ hm
      rcases Nat.lt_or_ge i n with h | h
      · exact h
      · have := Nat.pow_le_pow_right (show 0 < 2 by omega) h; omega
    · exact ⟨0, fun h => absurd h hk⟩
  obtain ⟨fst, hfst⟩ := Classical.axiomOfChoice hfirst
  let cls := fun k => if k < bs.length then of (fst k) else 0
  have hcls : ∀ k, k < 10 → cls k < 10 := by
    intro k _
    simp only [cls]
    split
    · rename_i hk; exact hof _ (hfst k hk).2
    · omega
  have hsame : ∀ k i, k < bs.length → (bs.getD k 0).testBit i = true → of i = cls k := by
    intro k i hk hi
    simp only [cls, if_pos hk]
    exact hw _ (getD_mem hk) _ _ hi (hfst k hk).1
  have hbl : ∀ g k, g < 2 ^ bs.length → k ∈ bits g → k < bs.length := by
    intro g k hg hk
    have h1 := Nat.ge_two_pow_of_testBit (mem_bits_lt hk).2
    rcases Nat.lt_or_ge k bs.length with h | h
    · exact h
    · have := Nat.pow_le_pow_right (show 0 < 2 by omega) h; omega
  have hent : ∀ g p, g < 2 ^ bs.length → (∀ k ∈ bits g, cls k = p) → ∀ i, (entriesOf bs g).testBit i = true → of i = p ∧ i < n := by
    intro g p hg hp i hi
    rw [entriesOf_bit] at hi
    obtain ⟨k, hk, hki⟩ := List.any_eq_true.1 hi
    have hkl := hbl g k hg hk
    refine ⟨by rw [hsame k i hkl hki, hp k hk], ?_⟩
    have h1 := Nat.ge_two_pow_of_testBit hki
    have h2 := hc.lt _ (getD_mem hkl)
    rcases Nat.lt_or_ge i n with h | h
    · exact h
    · have := Nat.pow_le_pow_right (show 0 < 2 by omega) h; omega
  have h1 := hL.le_classes hN cls hcls (fun g p hg hp => by
    have he := hent g p hg hp
    simp only [fitsB, Bool.and_eq_true, List.all_eq_true]
    refine ⟨fun a ha b hb => ?_, fun q hq => ?_⟩
    · have ea := he a (mem_bits_lt ha).2
      have eb := he b (mem_bits_lt hb).2
      by_cases hba : b < a
      · simp [hfit a b ea.2 hba (by rw [ea.1, eb.1])]
      · simp [hba]
    · cases t1 : (entriesOf bs g).testBit q.1 with
      | false => simp
      | true =>
        cases t2 : (entriesOf bs g).testBit q.2 with
        | false => simp
        | true => exact absurd (by rw [(he _ t1).1, (he _ t2).1]) (hap q hq).2) (2 ^ bs.length - 1) (by omega)
  have hbits : ∀ k, k < bs.length → k ∈ bits (2 ^ bs.length - 1) := by
    intro k hk
    rw [mem_bits (by omega), Nat.testBit_two_pow_sub_one]; simp [hk]
  have h2 : classes cls (2 ^ bs.length - 1) = many n of := by
    apply List.countP_congr
    intro p _
    simp only [List.any_eq_true, List.mem_range, beq_iff_eq]
    constructor
    · rintro ⟨k, hk, rfl⟩
      have hkl := hbl _ k (by omega) hk
      exact ⟨fst k, (hfst k hkl).2, by simp [cls, hkl]⟩
    · rintro ⟨i, hi, rfl⟩
      obtain ⟨b, hb, ht⟩ := hc.all i hi
      obtain ⟨k, hk⟩ := List.getElem?_of_mem hb
      have hkl : k < bs.length := (List.getElem?_eq_some_iff.1 hk).1
      refine ⟨k, hbits k hkl, ?_⟩
      rw [hsame k i hkl (by rw [List.getD_eq_getElem?_getD, hk]; exact ht)]
  have h3 := classes_le cls bs.length
  have h4 : (List.range 10).countP (fun p => (List.range bs.length).any fun k => cls k == p) = many n of := by
    rw [← h2]
    apply List.countP_congr
    intro p _
    simp only [List.any_eq_true, List.mem_range, beq_iff_eq]
    constructor
    · rintro ⟨k, hk, h⟩; exact ⟨k, hbits k hk, h⟩
    · rintro ⟨k, hk, h⟩; exact ⟨k, hbl _ k (by omega) hk, h⟩
  exact ⟨by omega, by omega, hc.len⟩
/-- a pair that does not fit, and has to be one person -/
theorem read_bad (hn : n ≤ 10) (p : Nat × Nat) (h1 : p.1 < n) (h2 : p.2 < n) (hlt : p.2 < p.1) (hbad : fit p.1 p.2 = false)
    (hsm : ∀ p ∈ sm, (p.1 < n ∧ p.2 < n))
    (hL : Least (fun g => fitsB fit ap (entriesOf (blocks n (sm ++ [p])) g)) L (2 ^ (blocks n (sm ++ [p])).length)) :
    L (2 ^ (blocks n (sm ++ [p])).length - 1) = 1024 := by
  have hc0 : Cov n (blocks n sm) := Cov.fold sm (Cov.start n) hsm
  have e : blocks n (sm ++ [p]) = joinB (blocks n sm) p := by unfold blocks; rw [List.foldl_append]; rfl
  obtain ⟨b, hb, t1, t2⟩ := join_both hc0 h1 h2
  have hc := hc0.join h1 h2
  rw [e] at hL ⊢
  generalize joinB (blocks n sm) p = bs at *
  have hN : 2 ^ bs.length ≤ 1024 := by
    have := Nat.pow_le_pow_right (show 0 < 2 by omega) (show bs.length ≤ 10 by have := hc.len; omega)
    omega
  have hpos := Nat.two_pow_pos bs.length
  obtain ⟨k, hk⟩ := List.getElem?_of_mem hb
  have hkl : k < bs.length := (List.getElem?_eq_some_iff.1 hk).1
  have hk10 : k < 10 := by have := hc.len; omega
  refine hL.bad hN k (fun g hg => ?_) _ (by omega) (by rw [Nat.testBit_two_pow_sub_one]; simp [hkl])
  have hin : k ∈ bits g := by simp [bits, hk10, hg]
  have e1 : ∀ i, b.testBit i = true → i < n → i ∈ bits (entriesOf bs g) := by
    intro i hi hin'
    simp only [bits, List.mem_filter, List.mem_range]
    refine ⟨by omega, ?_⟩
    rw [entriesOf_bit]
    exact List.any_eq_true.2 ⟨k, hin, by rw [List.getD_eq_getElem?_getD, hk]; exact hi⟩
  rw [Bool.eq_false_iff]
  intro hf
  simp only [fitsB, Bool.and_eq_true, List.all_eq_true] at hf
  have h3 := hf.1 p.1 (e1 _ t1 h1) p.2 (e1 _ t2 h2)
  simp [hlt, hbad] at h3
end

def stepOk : Bool := (List.range 1024).all fun s => s == 0 || bits s == Go.Lib.ctz 64 s :: bits (s &&& (s - 1))
theorem stepOk_true : stepOk = true := by kernel_rfl
theorem bits_step {s : Nat} (h0 : 0 < s) (h : s < 1024) : bits s = Go.Lib.ctz 64 s :: bits (s &&& (s - 1)) := by
  have h1 := stepOk_true
  simp only [stepOk, List.all_eq_true, List.mem_range, Bool.or_eq_true, beq_iff_eq] at h1
  rcases h1 s h with h2 | h2
  · omega
  · exact h2
theorem bits_zero : bits 0 = [] := by decide
theorem bits_len (s : Nat) : (bits s).length ≤ 10 := by
  have := List.length_filter_le (fun k => s.testBit k) (List.range 10)
  rw [List.length_range] at this
  exact this
end Sh
