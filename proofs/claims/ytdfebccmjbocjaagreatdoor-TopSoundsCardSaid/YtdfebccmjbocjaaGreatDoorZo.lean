/- sheet: the parts of a set in the iterator's order; one row of the table more: plain mathematics. -/
import Derived.Test.YtdfebccmjbocjaaGreatDoorZn
set_option linter.unusedVariables false
set_option linter.unusedSimpArgs false
namespace Go.Proofs.YtdfebccmjbocjaaGreatDoor
open Go.RowKit Go.Shelf

def subsF (r : Nat) : Nat → Nat → List Nat
  | 0, _ => []
  | k + 1, s => s :: if s = 0 then [] else subsF r k ((s - 1) &&& r)
theorem subsF_mem (r : Nat) : ∀ (k s t : Nat), s < k → s &&& r = s → t &&& r = t → t ≤ s → t ∈ subsF r k s
  | 0, s, t, h, _, _, _ => by omega
  | k + 1, s, t, h, hs, ht, hl => by
    unfold subsF
    by_cases he : t = s
    · subst he; exact List.mem_cons_self ..
    · rw [if_neg (by omega)]
      have h1 := Sh.next_sub s s r t (Nat.le_refl _) hs ht (by omega)
      have h2 : (s - 1) &&& r ≤ s - 1 := Nat.and_le_left
      exact List.mem_cons_of_mem _ (subsF_mem r k _ t (by omega) (by rw [Nat.and_assoc, Nat.and_self]) ht h1)
theorem subsF_sub (r : Nat) : ∀ (k s t : Nat), s &&& r = s → t ∈ subsF r k s → t &&& r = t
  | 0, s, t, _, h => by simp [subsF] at h
  | k + 1, s, t, hs, h => by
    unfold subsF at h
    rcases List.mem_cons.1 h with rfl | h
    · exact hs
    · split at h
      · simp at h
      · exact subsF_sub r k _ t (by rw [Nat.and_assoc, Nat.and_self]) h
/-- the groups that are yielded -/
def gFilt (one : Nat → Bool) (f : Nat) (l : List Nat) : List Nat := (l.filter fun t => one (t ||| f)).map fun t => t ||| f
def restOf (s : Nat) : Nat := s ^^^ Sh.low s
def gSeq (one : Nat → Bool) (s : Nat) : List Nat := gFilt one (Sh.low s) (subsF (restOf s) 1025 (restOf s))
theorem gSeq_mem {one : Nat → Bool} {s t : Nat} (hs : restOf s < 1025) (ht : t &&& restOf s = t) (ho : one (t ||| Sh.low s) = true) : (t ||| Sh.low s) ∈ gSeq one s := by
  unfold gSeq gFilt
  refine List.mem_map.2 ⟨t, List.mem_filter.2 ⟨subsF_mem _ _ _ _ hs (Nat.and_self _) ht ?_, ho⟩, rfl⟩
  rw [← ht]; exact Nat.and_le_right
theorem gSeq_of {one : Nat → Bool} {s g : Nat} (h : g ∈ gSeq one s) : ∃ t, t &&& restOf s = t ∧ one (t ||| Sh.low s) = true ∧ g = t ||| Sh.low s := by
  unfold gSeq gFilt at h
  obtain ⟨t, ht, rfl⟩ := List.mem_map.1 h
  obtain ⟨h1, h2⟩ := List.mem_filter.1 ht
  exact ⟨t, subsF_sub _ _ _ _ (Nat.and_self _) h1, h2, rfl⟩
/-- the least number so far -/
def accF (L0 : Nat → Nat) (s init : Nat) (pre : List Nat) : Nat := pre.foldl (fun v g => min v (1 + if s ^^^ g = s then v else L0 (s ^^^ g))) init
theorem accF_snoc (L0 : Nat → Nat) (s init : Nat) (pre : List Nat) (g : Nat) : accF L0 s init (pre ++ [g]) = min (accF L0 s init pre) (1 + if s ^^^ g = s then accF L0 s init pre else L0 (s ^^^ g)) := by
  unfold accF; rw [List.foldl_append]; rfl
theorem accF_le (L0 : Nat → Nat) (s : Nat) : ∀ (pre : List Nat) (init : Nat), accF L0 s init pre ≤ init
  | [], _ => Nat.le_refl _
  | g :: pre, init => Nat.le_trans (accF_le L0 s pre _) (Nat.min_le_left _ _)
theorem accF_mem (L0 : Nat → Nat) (s : Nat) : ∀ (pre : List Nat) (init : Nat) (g : Nat), s ^^^ g ≠ s → g ∈ pre → accF L0 s init pre ≤ 1 + L0 (s ^^^ g)
  | [], _, g, _, h => by simp at h
  | a :: pre, init, g, hne, h => by
    rcases List.mem_cons.1 h with rfl | h
    · refine Nat.le_trans (accF_le L0 s pre _) ?_
      show min init (1 + if s ^^^ g = s then init else L0 (s ^^^ g)) ≤ _
      rw [if_neg hne]; exact Nat.min_le_right _ _
    · exact accF_mem L0 s pre _ g hne h
theorem accF_cases (L0 : Nat → Nat) (s : Nat) : ∀ (pre : List Nat) (init : Nat), (∀ g ∈ pre, s ^^^ g ≠ s) → accF L0 s init pre = init ∨ ∃ g ∈ pre, accF L0 s init pre = 1 + L0 (s ^^^ g)
  | [], _, _ => .inl rfl
  | a :: pre, init, h => by
    have h1 := accF_cases L0 s pre (min init (1 + if s ^^^ a = s then init else L0 (s ^^^ a))) (fun g hg => h g (List.mem_cons_of_mem _ hg))
    have e : accF L0 s init (a :: pre) = accF L0 s (min init (1 + if s ^^^ a = s then init else L0 (s ^^^ a))) pre := rfl
    rw [e]
    rcases h1 with h1 | ⟨g, hg, h1⟩
    · rw [h1, if_neg (h a (List.mem_cons_self ..))]
      by_cases hm : init ≤ 1 + L0 (s ^^^ a)
      · exact .inl (Nat.min_eq_left hm)
      · exact .inr ⟨a, List.mem_cons_self .., Nat.min_eq_right (by omega)⟩
    · exact .inr ⟨g, List.mem_cons_of_mem _ hg, h1⟩
theorem accF_zero (L0 : Nat → Nat) (s : Nat) (pre : List Nat) : accF L0 s 0 pre = 0 := Nat.le_zero.1 (accF_le L0 s pre 0)
theorem xor_ne {s g : Nat} (hg : g ≠ 0) : s ^^^ g ≠ s := by
  intro e
  have h : s ^^^ (s ^^^ g) = s ^^^ s := by rw [e]
  rw [← Nat.xor_assoc, Nat.xor_self, Nat.zero_xor] at h
  exact hg h
/-- the table, one set more -/
theorem least_step {one : Nat → Bool} {L0 : Nat → Nat} {s : Nat} (hs : s < 1024) (h : Sh.Least one L0 s) (one' : Nat → Bool) (ho : ∀ g, g ≤ s → one' g = one g) :
    Sh.Least one (fun j => if j = s then accF L0 s (if s = 0 then 0 else 1024) (gSeq one' s) else L0 j) (s + 1) := by
  by_cases h0 : s = 0
  · subst h0
    refine ⟨?_, fun s' h1 h2 => by omega, fun s' h1 h2 => by omega, fun j => ?_⟩
    · simp [accF_zero]
    · simp only [if_true]
      split
      · rw [accF_zero]; omega
      · exact h.top j
  rw [if_neg h0]
  obtain ⟨k0, hk0, hlow, hb⟩ := Sh.low_of (by omega) hs
  have hsub : ∀ t, t &&& restOf s = t → ∀ k, (t ||| Sh.low s).testBit k = true → s.testBit k = true := by
    intro t ht k hk
    rw [Nat.testBit_or] at hk
    by_cases hkk : k = k0
    · rw [hkk]; exact hb
    · rw [hlow, Nat.testBit_two_pow_of_ne (by omega), Bool.or_false] at hk
      have h2 := congrArg (fun x => x.testBit k) ht
      simp only [restOf, Nat.testBit_and, Nat.testBit_xor, hk, Bool.true_and] at h2
      rw [hlow, Nat.testBit_two_pow_of_ne (by omega), Bool.xor_false] at h2
      exact h2
  have hle : ∀ t, t &&& restOf s = t → t ||| Sh.low s ≤ s := fun t ht => Nat.le_of_testBit (hsub t ht)
  have hne : ∀ t, t ||| Sh.low s ≠ 0 := by
    intro t e
    have := (Nat.or_eq_zero_iff.1 e).2
    rw [hlow] at this
    have := Nat.two_pow_pos k0
    omega
  have hlt : ∀ t, t &&& restOf s = t → s ^^^ (t ||| Sh.low s) < s := fun t ht => Sh.xor_lt (k := k0) (hsub t ht) (by rw [Nat.testBit_or, hlow, Nat.testBit_two_pow_self]; simp)
  have hr : restOf s < 1025 := by
    have h1 : restOf s ≤ s := Nat.le_of_testBit fun k hk => by
      unfold restOf at hk
      rw [Nat.testBit_xor, hlow] at hk
      by_cases hkk : k = k0
      · rw [hkk]; exact hb
      · rw [Nat.testBit_two_pow_of_ne (by omega), Bool.xor_false] at hk; exact hk
    omega
  refine ⟨?_, fun s' h1 h2 t ht hot => ?_, fun s' h1 h2 => ?_, fun j => ?_⟩
  · rw [if_neg (by omega)]; exact h.zero
  · by_cases he : s' = s
    · subst he
      rw [if_pos rfl, if_neg (by have := hlt t ht; omega)]
      exact accF_mem L0 s' _ _ _ (xor_ne (hne t)) (gSeq_mem hr ht (by rw [ho _ (hle t ht)]; exact hot))
    · rw [if_neg he]
      have h3 := h.le s' h1 (by omega) t ht hot
      obtain ⟨k1, hk1, hlow1, hb1⟩ := Sh.low_of h1 (show s' < 1024 by omega)
      have h4 : s' ^^^ (t ||| Sh.low s') ≤ s' := by
        refine Nat.le_of_lt (Sh.xor_lt (k := k1) (fun k hk => ?_) (by rw [Nat.testBit_or, hlow1, Nat.testBit_two_pow_self]; simp))
        rw [Nat.testBit_or] at hk
        by_cases hkk : k = k1
        · rw [hkk]; exact hb1
        · rw [hlow1, Nat.testBit_two_pow_of_ne (by omega), Bool.or_false] at hk
          have h2 := congrArg (fun x => x.testBit k) ht
          simp only [Nat.testBit_and, Nat.testBit_xor, hk, Bool.true_and] at h2
          rw [hlow1, Nat.testBit_two_pow_of_ne (by omega), Bool.xor_false] at h2
          exact h2
      rw [if_neg (by omega)]
      exact h3
  · by_cases he : s' = s
    · subst he
      simp only [if_true]
      rcases accF_cases L0 s' (gSeq one' s') 1024 (fun g hg => by
        obtain ⟨t, _, _, rfl⟩ := gSeq_of hg
        exact xor_ne (hne t)) with h3 | ⟨g, hg, h3⟩
      · exact .inl h3
      · obtain ⟨t, ht, hot, rfl⟩ := gSeq_of hg
        refine .inr ⟨t, ht, by rw [← ho _ (hle t ht)]; exact hot, ?_⟩
        rw [if_neg (by have := hlt t ht; omega)]
        exact h3
    · rw [if_neg he]
      rcases h.ge s' h1 (by omega) with h3 | ⟨t, ht, hot, h3⟩
      · exact .inl h3
      · refine .inr ⟨t, ht, hot, ?_⟩
        rw [if_neg ?_]
        · exact h3
        · intro e
          obtain ⟨k1, hk1, hlow1, hb1⟩ := Sh.low_of h1 (show s' < 1024 by omega)
          have h4 : s' ^^^ (t ||| Sh.low s') < s' := by
            refine (Sh.xor_lt (k := k1) (fun k hk => ?_) (by rw [Nat.testBit_or, hlow1, Nat.testBit_two_pow_self]; simp))
            rw [Nat.testBit_or] at hk
            by_cases hkk : k = k1
            · rw [hkk]; exact hb1
            · rw [hlow1, Nat.testBit_two_pow_of_ne (by omega), Bool.or_false] at hk
              have h2 := congrArg (fun x => x.testBit k) ht
              simp only [Nat.testBit_and, Nat.testBit_xor, hk, Bool.true_and] at h2
              rw [hlow1, Nat.testBit_two_pow_of_ne (by omega), Bool.xor_false] at h2
              exact h2
          omega
  · show (if j = s then _ else _) ≤ 1024
    split
    · exact accF_le L0 s _ 1024
    · exact h.top j
end Go.Proofs.YtdfebccmjbocjaaGreatDoor
