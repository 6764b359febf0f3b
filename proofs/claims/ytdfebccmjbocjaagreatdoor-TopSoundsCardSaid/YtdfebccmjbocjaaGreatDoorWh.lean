/- Sets of entries as numbers: plain mathematics. -/
import Derived.Test.YtdfebccmjbocjaaGreatDoorWd
set_option linter.unusedVariables false
set_option linter.unusedSimpArgs false
namespace Go.Proofs.YtdfebccmjbocjaaGreatDoor
def mk (l : List Nat) : Nat := l.foldl (fun a n => a ||| 2 ^ n) 0
theorem mk_fold (n : Nat) : ∀ (l : List Nat) (a : Nat), (l.foldl (fun a n => a ||| 2 ^ n) a).testBit n = (a.testBit n || decide (n ∈ l))
  | [], a => by simp
  | m :: l, a => by
    rw [List.foldl_cons, mk_fold n l, Nat.testBit_or, Nat.testBit_two_pow, Bool.or_assoc]
    congr 1
    rw [Bool.eq_iff_iff]
    simp only [Bool.or_eq_true, decide_eq_true_eq, List.mem_cons]
    exact ⟨fun h => h.imp Eq.symm id, fun h => h.imp Eq.symm id⟩
theorem mk_bit (l : List Nat) (n : Nat) : (mk l).testBit n = decide (n ∈ l) := by
  unfold mk; rw [mk_fold]; simp
theorem mk_snoc (l : List Nat) (n : Nat) : mk (l ++ [n]) = mk l ||| 2 ^ n := by
  unfold mk; rw [List.foldl_append]; rfl
theorem mk_lt {l : List Nat} (h : ∀ n, n ∈ l → n < 10) : mk l < 1024 := by
  have e : (1024 : Nat) = 2 ^ 10 := rfl
  rw [e]
  apply Nat.lt_pow_two_of_testBit
  intro i hi
  rw [mk_bit]
  exact decide_eq_false (fun hm => by have := h i hm; omega)
theorem mem_bits_mk {l : List Nat} (h : ∀ n, n ∈ l → n < 10) {k : Nat} : k ∈ Sh.bits (mk l) ↔ k ∈ l := by
  rw [Sh.mem_bits (mk_lt h), mk_bit, decide_eq_true_eq]
theorem mk_pos {l : List Nat} (h : l ≠ []) : mk l ≠ 0 := by
  obtain ⟨n, hn⟩ := List.exists_mem_of_ne_nil l h
  intro e
  have := mk_bit l n
  rw [e, decide_eq_true hn] at this
  simp at this
/-- who was seen -/
def snL (tab : List (List Nat)) (k i : Nat) : List Nat := (tab.take k).flatten ++ (tab.getD k []).take i
def sn (tab : List (List Nat)) (k i : Nat) : Nat := mk (snL tab k i)
section
variable {of : List Nat} {tab : List (List Nat)}
theorem sn_snoc {k i n : Nat} {r : List Nat} (hk : tab[k]? = some r) (hi : r[i]? = some n) : sn tab k (i + 1) = sn tab k i ||| 2 ^ n := by
  have hg : tab.getD k [] = r := by rw [List.getD_eq_getElem?_getD, hk]; rfl
  have e : snL tab k (i + 1) = snL tab k i ++ [n] := by
    unfold snL
    rw [hg, List.take_add_one, hi, List.append_assoc]; rfl
  unfold sn
  rw [e, mk_snoc]
theorem sn_row {k : Nat} {r : List Nat} (hk : tab[k]? = some r) : sn tab (k + 1) 0 = sn tab k r.length := by
  have hg : tab.getD k [] = r := by rw [List.getD_eq_getElem?_getD, hk]; rfl
  unfold sn snL
  rw [hg, List.take_length, List.take_add_one, hk]
  simp
theorem sn_mem {k i n : Nat} (h : n ∈ snL tab k i) : ∃ r, r ∈ tab ∧ n ∈ r := by
  unfold snL at h
  rcases List.mem_append.1 h with h | h
  · obtain ⟨r, hr, hn⟩ := List.mem_flatten.1 h
    exact ⟨r, List.mem_of_mem_take hr, hn⟩
  · have h2 := List.mem_of_mem_take h
    rw [List.getD_eq_getElem?_getD] at h2
    cases hk : tab[k]? with
    | none => rw [hk] at h2; simp at h2
    | some r => rw [hk] at h2; exact ⟨r, List.mem_of_getElem? hk, h2⟩
theorem sn_lt (h : GrpOk of tab) (h10 : of.length ≤ 10) (k i : Nat) : sn tab k i < 1024 := mk_lt fun n hn => by
  obtain ⟨r, hr, hm⟩ := sn_mem hn
  have := h.lt r hr n hm
  omega
theorem sn_bit (h : GrpOk of tab) {k i n : Nat} {r : List Nat} (hk : tab[k]? = some r) (hi : r[i]? = some n) : (sn tab k i).testBit n = false := by
  unfold sn
  rw [mk_bit]
  apply decide_eq_false
  intro hm
  have hs := (st_new h hk hi).1
  unfold stF at hs
  unfold snL at hm
  split at hs
  · omega
  · rename_i h1
    split at hs
    · omega
    · rename_i h2
      rcases List.mem_append.1 hm with hm | hm
      · obtain ⟨r', hr', hn'⟩ := List.mem_flatten.1 hm
        exact h1 (List.any_eq_true.2 ⟨r', hr', decide_eq_true hn'⟩)
      · exact h2 hm
theorem len_lt : ∀ N, N ≤ 10 → ((List.range 10).filter fun k => decide (k < N)).length = N := by decide
theorem sn_all (h : GrpOk of tab) (h10 : of.length ≤ 10) : (Sh.bits (sn tab tab.length 0)).length = of.length := by
  have e : Sh.bits (sn tab tab.length 0) = (List.range 10).filter fun k => decide (k < of.length) := by
    unfold Sh.bits
    apply List.filter_congr
    intro k hk
    unfold sn
    rw [mk_bit, decide_eq_decide]
    constructor
    · intro hm
      obtain ⟨r, hr, hn⟩ := sn_mem hm
      exact h.lt r hr k hn
    · intro hl
      obtain ⟨r, hr, hn⟩ := h.all k hl
      unfold snL
      rw [List.take_length]
      exact List.mem_append_left _ (List.mem_flatten.2 ⟨r, hr, hn⟩)
  rw [e, len_lt _ h10]
/-- a row fits -/
theorem row_fits {es : List Ent} {sm ap : List (Nat × Nat)} (hT : Tru es sm ap of) (h : GrpOk of tab) {r : List Nat} (hr : r ∈ tab) : Sh.fitsB (fitA es) ap (mk r) = true := by
  have hl10 : ∀ n, n ∈ r → n < 10 := fun n hn => by have := h.lt r hr n hn; have := hT.n9; omega
  unfold Sh.fitsB
  rw [Bool.and_eq_true]
  refine ⟨List.all_eq_true.2 fun a ha => List.all_eq_true.2 fun b hb => ?_, List.all_eq_true.2 fun p hp => ?_⟩
  · have ha' := (mem_bits_mk hl10).1 ha
    have hb' := (mem_bits_mk hl10).1 hb
    by_cases hlt : b < a
    · have he : ofF of a = ofF of b := (h.same r hr a b ha' (h.lt r hr b hb')).2 hb'
      rw [hT.fit a b (h.lt r hr a ha') (h.lt r hr b hb') (by omega) he]; simp
    · simp [hlt]
  · rw [mk_bit, mk_bit]
    obtain ⟨⟨h1, h2⟩, hne⟩ := hT.ap p hp
    by_cases a1 : p.1 ∈ r
    · by_cases a2 : p.2 ∈ r
      · exact absurd ((h.same r hr p.1 p.2 a1 h2).2 a2) hne
      · simp [a2]
    · simp [a1]
theorem row_same {es : List Ent} {sm ap : List (Nat × Nat)} (hT : Tru es sm ap of) (h : GrpOk of tab) {r : List Nat} (hr : r ∈ tab) : sm.all (fun p => (mk r).testBit p.1 == (mk r).testBit p.2) = true := by
  rw [List.all_eq_true]
  intro p hp
  obtain ⟨⟨h1, h2⟩, he⟩ := hT.sm p hp
  rw [mk_bit, mk_bit, beq_iff_eq, decide_eq_decide]
  exact ⟨fun a => (h.same r hr p.1 p.2 a h2).1 he, fun a => (h.same r hr p.2 p.1 a h1).1 he.symm⟩
end
end Go.Proofs.YtdfebccmjbocjaaGreatDoor
