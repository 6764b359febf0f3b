/- sheet: a census around a true assignment: plain mathematics. -/
import Derived.Test.YtdfebccmjbocjaaGreatDoorZf
set_option linter.unusedVariables false
set_option linter.unusedSimpArgs false
namespace Go.Proofs.YtdfebccmjbocjaaGreatDoor
open Go.RowKit Go.Shelf

def ofF (of : List Nat) (i : Nat) : Nat := of.getD i 0
def fitA (es : List Ent) (i j : Nat) : Bool := fitE (es.getD i ⟨0, 0, 0, 0, 0⟩) (es.getD j ⟨0, 0, 0, 0, 0⟩)
/-- the number of persons -/
def manyL (of : List Nat) : Nat := Sh.many of.length (ofF of)
/-- the data of a valid census -/
structure CenOk (es : List Ent) (sm ap : List (Nat × Nat)) (om nu : Nat × Nat) : Prop where
  n10 : es.length ≤ 10
  s6 : sm.length ≤ 6
  a6 : ap.length ≤ 6
  ent : ∀ e ∈ es, e.s ≤ 9 ∧ e.x ≤ 1 ∧ e.k ≤ 99 ∧ e.lo ≤ e.hi ∧ e.hi ≤ 120
  sm : ∀ p ∈ sm, (p.1 < es.length ∧ p.2 < es.length) ∧ p.1 ≠ p.2
  ap : ∀ p ∈ ap, (p.1 < es.length ∧ p.2 < es.length) ∧ p.1 ≠ p.2
  om : om.1 ≤ om.2 ∧ om.2 ≤ 100
  nu : nu.1 ≤ nu.2 ∧ nu.2 ≤ 200
/-- of is true of a census -/
structure Tru (es : List Ent) (sm ap : List (Nat × Nat)) (of : List Nat) : Prop where
  len : es.length = of.length
  n9 : of.length ≤ 9
  lt5 : ∀ i, i < of.length → ofF of i < 5
  fit : ∀ i j, i < of.length → j < of.length → i ≠ j → ofF of i = ofF of j → fitA es i j = true
  sm : ∀ p ∈ sm, (p.1 < of.length ∧ p.2 < of.length) ∧ ofF of p.1 = ofF of p.2
  ap : ∀ p ∈ ap, (p.1 < of.length ∧ p.2 < of.length) ∧ ofF of p.1 ≠ ofF of p.2
/-- what read() leaves: m blocks, L persons at the least -/
def ReadOf (es : List Ent) (sm ap : List (Nat × Nat)) (m Lw : Nat) : Prop :=
  ∃ L : Nat → Nat, m = (Sh.blocks es.length sm).length ∧ Sh.Least (fun g => Sh.fitsB (fitA es) ap (Sh.entriesOf (Sh.blocks es.length sm) g)) L (2 ^ m) ∧ Lw = L (2 ^ m - 1)
theorem Tru.read {es : List Ent} {sm ap : List (Nat × Nat)} {of : List Nat} {m Lw : Nat} (h : Tru es sm ap of) (hr : ReadOf es sm ap m Lw) : Lw ≤ manyL of ∧ manyL of ≤ m ∧ m ≤ es.length := by
  obtain ⟨L, rfl, hL, rfl⟩ := hr
  have hn := h.n9
  have hl := h.len
  have := Sh.read_true (n := es.length) (of := ofF of) (fit := fitA es) (sm := sm) (ap := ap) (L := L) (by omega) (fun i hi => by have := h.lt5 i (by omega); omega) (fun a b ha hb he => h.fit a b (by omega) (by omega) (by omega) he)
    (fun p hp => by have := (h.sm p hp).1; rw [hl]; exact this) (fun p hp => (h.sm p hp).2) (fun p hp => by have := h.ap p hp; rw [hl]; exact this) hL
  unfold manyL
  rw [← hl]
  exact this
/-- a pair of one person more -/
theorem Tru.same {es : List Ent} {sm ap : List (Nat × Nat)} {of : List Nat} (h : Tru es sm ap of) {p : Nat × Nat} (h1 : p.1 < of.length) (h2 : p.2 < of.length) (he : ofF of p.1 = ofF of p.2) : Tru es (sm ++ [p]) ap of :=
  ⟨h.len, h.n9, h.lt5, h.fit, fun q hq => by
    rcases List.mem_append.1 hq with hq | hq
    · exact h.sm q hq
    · simp at hq; subst hq; exact ⟨⟨h1, h2⟩, he⟩, h.ap⟩
theorem Tru.apart {es : List Ent} {sm ap : List (Nat × Nat)} {of : List Nat} (h : Tru es sm ap of) {p : Nat × Nat} (h1 : p.1 < of.length) (h2 : p.2 < of.length) (he : ofF of p.1 ≠ ofF of p.2) : Tru es sm (ap ++ [p]) of :=
  ⟨h.len, h.n9, h.lt5, h.fit, h.sm, fun q hq => by
    rcases List.mem_append.1 hq with hq | hq
    · exact h.ap q hq
    · simp at hq; subst hq; exact ⟨⟨h1, h2⟩, he⟩⟩
/-- a pair of other keys -/
theorem read_keys {es : List Ent} {sm ap : List (Nat × Nat)} {m Lw : Nat} {p : Nat × Nat} (hn : es.length ≤ 10) (h1 : p.1 < es.length) (h2 : p.2 < p.1) (hk : (es.getD p.1 ⟨0, 0, 0, 0, 0⟩).k ≠ (es.getD p.2 ⟨0, 0, 0, 0, 0⟩).k) (hsm : ∀ p ∈ sm, p.1 < es.length ∧ p.2 < es.length) (hr : ReadOf es (sm ++ [p]) ap m Lw) : Lw = 1024 := by
  obtain ⟨L, rfl, hL, rfl⟩ := hr
  exact Sh.read_bad hn p h1 (by omega) h2 (by unfold fitA fitE; rw [decide_eq_false hk]; simp) hsm hL

/-! how many persons -/
theorem countP_add (P : Nat → Bool) (c : Nat) : ∀ (l : List Nat), l.Nodup → c ∈ l → P c = false → l.countP (fun p => P p || c == p) = l.countP P + 1
  | [], _, h, _ => by simp at h
  | a :: l, hn, hc, hP => by
    have hnd := List.nodup_cons.1 hn
    rw [List.countP_cons, List.countP_cons]
    by_cases e : c = a
    · subst e
      have e2 : l.countP (fun p => P p || c == p) = l.countP P := by
        apply List.countP_congr
        intro x hx
        have : ¬ c = x := fun e => hnd.1 (e ▸ hx)
        simp [this]
      rw [e2, hP]; simp
    · have hcl : c ∈ l := by
        rcases List.mem_cons.1 hc with h | h
        · exact absurd h e
        · exact h
      rw [countP_add P c l hnd.2 hcl hP]
      have e3 : (P a || c == a) = P a := by simp [e]
      rw [e3]; omega
theorem many_succ (n : Nat) (of : Nat → Nat) (h : of n < 10) : Sh.many (n + 1) of = Sh.many n of + if (List.range n).any (fun k => of k == of n) then 0 else 1 := by
  unfold Sh.many
  have e : (fun p => (List.range (n + 1)).any fun i => of i == p) = fun p => ((List.range n).any fun i => of i == p) || of n == p := by
    funext p; rw [List.range_succ, List.any_append]; simp
  rw [e]
  cases hc : (List.range n).any (fun k => of k == of n) with
  | true =>
    simp only [if_true, Nat.add_zero]
    apply List.countP_congr
    intro p _
    constructor
    · intro hp
      rw [Bool.or_eq_true] at hp
      rcases hp with hp | hp
      · exact hp
      · have : of n = p := by simpa using hp
        rw [← this]; exact hc
    · intro hp; rw [hp]; rfl
  | false =>
    simp only [Bool.false_eq_true, if_false]
    exact countP_add (fun p => (List.range n).any fun i => of i == p) (of n) _ List.nodup_range (List.mem_range.2 h) hc
theorem many_zero (of : Nat → Nat) : Sh.many 0 of = 0 := by simp [Sh.many]
theorem many_le (n : Nat) (of : Nat → Nat) : Sh.many n of ≤ n := Sh.classes_le of n
theorem many_lt5 (n : Nat) (of : Nat → Nat) (h : ∀ i, i < n → of i < 5) : Sh.many n of ≤ 5 := by
  unfold Sh.many
  have e : List.range 10 = List.range 5 ++ [5, 6, 7, 8, 9] := by decide
  rw [e, List.countP_append]
  have h2 : List.countP (fun p => (List.range n).any fun i => of i == p) [5, 6, 7, 8, 9] = 0 := by
    rw [List.countP_eq_zero]
    intro p hp hx
    obtain ⟨i, hi, hxi⟩ := List.any_eq_true.1 hx
    have h3 := h i (List.mem_range.1 hi)
    have h4 : of i = p := by simpa using hxi
    simp at hp; omega
  rw [h2]
  have := List.countP_le_length (p := fun p => (List.range n).any fun i => of i == p) (l := List.range 5)
  rw [List.length_range] at this
  omega
/-- the entries of each person -/
def ownOf (of : List Nat) (p : Nat) : List Nat := (List.range of.length).filter fun i => ofF of i == p
def groupsTo (of : List Nat) (q : Nat) : List (List Nat) := ((List.range q).map (ownOf of)).filter fun l => !l.isEmpty
def groupsL (of : List Nat) : List (List Nat) := groupsTo of 10
theorem groupsTo_succ (of : List Nat) (q : Nat) : groupsTo of (q + 1) = groupsTo of q ++ (if ownOf of q = [] then [] else [ownOf of q]) := by
  unfold groupsTo
  rw [List.range_succ, List.map_append, List.filter_append]
  congr 1
  by_cases h : ownOf of q = []
  · simp [h]
  · simp [h]
theorem groupsL_len (of : List Nat) : (groupsL of).length = manyL of := by
  unfold groupsL groupsTo manyL Sh.many
  rw [← List.countP_eq_length_filter, List.countP_map]
  apply List.countP_congr
  intro p _
  simp only [Function.comp, ownOf, List.any_eq_true, List.mem_range, beq_iff_eq]
  constructor
  · intro h
    have hne : ((List.range of.length).filter fun i => ofF of i == p) ≠ [] := by
      intro e; rw [e] at h; simp at h
    obtain ⟨i, hi⟩ := List.exists_mem_of_ne_nil _ hne
    rw [List.mem_filter] at hi
    exact ⟨i, List.mem_range.1 hi.1, by simpa using hi.2⟩
  · rintro ⟨i, hi, he⟩
    have hm : i ∈ ((List.range of.length).filter fun i => ofF of i == p) := List.mem_filter.2 ⟨List.mem_range.2 hi, by simp [he]⟩
    cases hl : ((List.range of.length).filter fun i => ofF of i == p) with
    | nil => rw [hl] at hm; simp at hm
    | cons a b => rfl
/-- persons(), as sheet reckons them -/
def pLo (om nu : Nat × Nat) (Lw : Nat) : Int := max ((nu.1 : Int) - om.2) Lw
def pHi (om nu : Nat × Nat) (m : Nat) : Int := min ((nu.2 : Int) - om.1) m
def consB (om nu : Nat × Nat) (m Lw : Nat) : Bool := decide (Lw < 1024) && decide (pLo om nu Lw ≤ pHi om nu m)
theorem Tru.cons {es : List Ent} {sm ap : List (Nat × Nat)} {of : List Nat} {m Lw : Nat} {om nu : Nat × Nat} (h : Tru es sm ap of) (hr : ReadOf es sm ap m Lw) (h1 : nu.1 ≤ manyL of + om.2) (h2 : manyL of + om.1 ≤ nu.2) :
    consB om nu m Lw = true ∧ pLo om nu Lw ≤ manyL of ∧ (manyL of : Int) ≤ pHi om nu m := by
  obtain ⟨a, b, c⟩ := h.read hr
  have hn := h.n9
  have hl := h.len
  unfold consB pLo pHi
  rw [Bool.and_eq_true, decide_eq_true_eq, decide_eq_true_eq]
  omega
end Go.Proofs.YtdfebccmjbocjaaGreatDoor
