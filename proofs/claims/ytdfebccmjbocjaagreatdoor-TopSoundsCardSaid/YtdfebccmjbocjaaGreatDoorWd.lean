/- The entries of each person: plain mathematics. -/
import Derived.Test.YtdfebccmjbocjaaGreatDoorZn
set_option linter.unusedVariables false
set_option linter.unusedSimpArgs false
namespace Go.Proofs.YtdfebccmjbocjaaGreatDoor
def perL (of : List Nat) : List Nat := (List.range 10).filter fun p => !(ownOf of p).isEmpty
theorem groups_eq (of : List Nat) : groupsL of = (perL of).map (ownOf of) := by
  unfold groupsL groupsTo perL
  rw [List.filter_map]; rfl
theorem mem_own {of : List Nat} {p m : Nat} : m ∈ ownOf of p ↔ m < of.length ∧ ofF of m = p := by
  unfold ownOf; simp [List.mem_filter]
structure GrpOk (of : List Nat) (tab : List (List Nat)) : Prop where
  ne : ∀ r, r ∈ tab → r ≠ []
  sorted : ∀ r, r ∈ tab → r.Pairwise (fun a b : Nat => a < b)
  lt : ∀ r, r ∈ tab → ∀ m, m ∈ r → m < of.length
  uniq : ∀ (j k : Nat) (r r' : List Nat) (m : Nat), tab[j]? = some r → tab[k]? = some r' → m ∈ r → m ∈ r' → j = k
  all : ∀ m, m < of.length → ∃ r, r ∈ tab ∧ m ∈ r
  same : ∀ r, r ∈ tab → ∀ m n, m ∈ r → n < of.length → (ofF of m = ofF of n ↔ n ∈ r)
theorem grp_ok (of : List Nat) (h : ∀ i, i < of.length → ofF of i < 10) : GrpOk of (groupsL of) := by
  have hget : ∀ (j : Nat) (r : List Nat), (groupsL of)[j]? = some r → ∃ p, (perL of)[j]? = some p ∧ r = ownOf of p := by
    intro j r hj
    rw [groups_eq, List.getElem?_map] at hj
    cases hp : (perL of)[j]? with
    | none => rw [hp] at hj; cases hj
    | some p => rw [hp] at hj; cases hj; exact ⟨p, rfl, rfl⟩
  have hmem : ∀ r, r ∈ groupsL of → ∃ p, p ∈ perL of ∧ r = ownOf of p := by
    intro r hr
    rw [groups_eq] at hr
    obtain ⟨p, hp, rfl⟩ := List.mem_map.1 hr
    exact ⟨p, hp, rfl⟩
  refine ⟨fun r hr => ?_, fun r hr => ?_, fun r hr m hm => ?_, fun j k r r' m hj hk hm hm' => ?_, fun m hm => ?_, fun r hr m n hm hn => ?_⟩
  · obtain ⟨p, hp, rfl⟩ := hmem r hr
    intro e
    have := (List.mem_filter.1 hp).2
    rw [e] at this; simp at this
  · obtain ⟨p, hp, rfl⟩ := hmem r hr
    exact List.Pairwise.filter _ List.pairwise_lt_range
  · obtain ⟨p, hp, rfl⟩ := hmem r hr
    exact (mem_own.1 hm).1
  · obtain ⟨p, hp, rfl⟩ := hget j r hj
    obtain ⟨p', hp', rfl⟩ := hget k r' hk
    have e : p = p' := (mem_own.1 hm).2.symm.trans (mem_own.1 hm').2
    subst e
    have hnd : (perL of).Nodup := List.Pairwise.filter _ List.nodup_range
    have hj' := (List.getElem?_eq_some_iff.1 hp)
    have hk' := (List.getElem?_eq_some_iff.1 hp')
    rcases Nat.lt_trichotomy j k with h1 | h1 | h1
    · exact absurd (hj'.2.trans hk'.2.symm) (List.pairwise_iff_getElem.1 hnd j k hj'.1 hk'.1 h1)
    · exact h1
    · exact absurd (hk'.2.trans hj'.2.symm) (List.pairwise_iff_getElem.1 hnd k j hk'.1 hj'.1 h1)
  · refine ⟨ownOf of (ofF of m), ?_, mem_own.2 ⟨hm, rfl⟩⟩
    rw [groups_eq]
    refine List.mem_map.2 ⟨ofF of m, List.mem_filter.2 ⟨List.mem_range.2 (h m hm), ?_⟩, rfl⟩
    cases hx : ownOf of (ofF of m) with
    | nil => have := (mem_own (of := of) (p := ofF of m) (m := m)).2 ⟨hm, rfl⟩; rw [hx] at this; cases this
    | cons a b => rfl
  · obtain ⟨p, hp, rfl⟩ := hmem r hr
    obtain ⟨h1, h2⟩ := mem_own.1 hm
    rw [mem_own, h2]
    exact ⟨fun e => ⟨hn, e.symm⟩, fun e => e.2.symm⟩
def idxG (tab : List (List Nat)) (n : Nat) : Nat := tab.findIdx fun r => decide (n ∈ r)
def stF (tab : List (List Nat)) (k i n : Nat) : Int :=
  if (tab.take k).any (fun r => decide (n ∈ r)) then (idxG tab n : Int) else if n ∈ (tab.getD k []).take i then (k : Int) else -1
section
variable {of : List Nat} {tab : List (List Nat)}
theorem idx_of (h : GrpOk of tab) {k : Nat} {r : List Nat} {m : Nat} (hk : tab[k]? = some r) (hm : m ∈ r) : idxG tab m = k := by
  have hr := List.mem_of_getElem? hk
  have hlt : idxG tab m < tab.length := List.findIdx_lt_length_of_exists ⟨r, hr, decide_eq_true hm⟩
  have hat : decide (m ∈ tab[idxG tab m]) = true := List.findIdx_getElem (w := hlt)
  exact h.uniq _ _ _ _ m (List.getElem?_eq_getElem hlt) hk (of_decide_eq_true hat) hm
theorem early (h : GrpOk of tab) {k : Nat} {r : List Nat} {m : Nat} (hk : tab[k]? = some r) (hm : m ∈ r) : (tab.take k).any (fun r => decide (m ∈ r)) = false := by
  rw [Bool.eq_false_iff]
  intro ht
  obtain ⟨r', hr', hm'⟩ := List.any_eq_true.1 ht
  obtain ⟨j, hj⟩ := List.getElem?_of_mem hr'
  have hjk : j < k := by have := (List.getElem?_eq_some_iff.1 hj).1; rw [List.length_take] at this; omega
  rw [List.getElem?_take, if_pos hjk] at hj
  have := h.uniq j k r' r m hj hk (of_decide_eq_true hm') hm
  omega
theorem st_zero (n : Nat) : stF tab 0 0 n = -1 := by simp [stF]
theorem st_new (h : GrpOk of tab) {k i n : Nat} {r : List Nat} (hk : tab[k]? = some r) (hi : r[i]? = some n) : stF tab k i n = -1 ∧ ∀ m, stF tab k (i + 1) m = if m = n then (k : Int) else stF tab k i m := by
  have hr := List.mem_of_getElem? hk
  have hn := List.mem_of_getElem? hi
  have he := early h hk hn
  have hg : tab.getD k [] = r := by rw [List.getD_eq_getElem?_getD, hk]; rfl
  have hni : n ∉ r.take i := by
    intro hx
    obtain ⟨j, hj⟩ := List.getElem?_of_mem hx
    have hji : j < i := by have := (List.getElem?_eq_some_iff.1 hj).1; rw [List.length_take] at this; omega
    rw [List.getElem?_take, if_pos hji] at hj
    have hj' := List.getElem?_eq_some_iff.1 hj
    have hi' := List.getElem?_eq_some_iff.1 hi
    have := List.pairwise_iff_getElem.1 (h.sorted r hr) j i hj'.1 hi'.1 hji
    rw [hj'.2, hi'.2] at this
    omega
  refine ⟨by unfold stF; rw [he, hg, if_neg hni]; rfl, fun m => ?_⟩
  have hmem : m ∈ r.take (i + 1) ↔ m ∈ r.take i ∨ m = n := by
    rw [List.take_add_one, hi]; simp
  unfold stF
  rw [hg]
  by_cases hm : m = n
  · subst hm
    rw [he, if_pos rfl, if_neg (by simp), if_pos (hmem.2 (.inr rfl))]
  · rw [if_neg hm]
    by_cases hx : m ∈ r.take i
    · rw [if_pos hx, if_pos (hmem.2 (.inl hx))]
    · rw [if_neg hx, if_neg (fun e => (hmem.1 e).elim hx hm)]
theorem st_row (h : GrpOk of tab) {k : Nat} {r : List Nat} (hk : tab[k]? = some r) (m : Nat) : stF tab (k + 1) 0 m = stF tab k r.length m := by
  have hg : tab.getD k [] = r := by rw [List.getD_eq_getElem?_getD, hk]; rfl
  unfold stF
  rw [hg, List.take_add_one, hk, List.take_length]
  simp only [Option.toList_some, List.any_append, List.any_cons, List.any_nil, Bool.or_false, List.take_zero, List.not_mem_nil, if_false]
  by_cases hm : m ∈ r
  · rw [early h hk hm, idx_of h hk hm]; simp [hm]
  · simp [hm]
theorem st_all (h : GrpOk of tab) {m : Nat} (hm : m < of.length) : stF tab tab.length 0 m = (idxG tab m : Int) := by
  obtain ⟨r, hr, hmr⟩ := h.all m hm
  unfold stF
  rw [List.take_length, if_pos (List.any_eq_true.2 ⟨r, hr, decide_eq_true hmr⟩)]
theorem idx_same (h : GrpOk of tab) {a b : Nat} (ha : a < of.length) (hb : b < of.length) : idxG tab a = idxG tab b ↔ ofF of a = ofF of b := by
  obtain ⟨r, hr, har⟩ := h.all a ha
  obtain ⟨k, hk⟩ := List.getElem?_of_mem hr
  rw [idx_of h hk har]
  constructor
  · intro e
    obtain ⟨r', hr', hbr⟩ := h.all b hb
    obtain ⟨k', hk'⟩ := List.getElem?_of_mem hr'
    rw [idx_of h hk' hbr] at e
    subst e
    rw [hk] at hk'; cases hk'
    exact (h.same r hr a b har hb).2 hbr
  · intro e
    exact (idx_of h hk ((h.same r hr a b har hb).1 e)).symm
end
end Go.Proofs.YtdfebccmjbocjaaGreatDoor
