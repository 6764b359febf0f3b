/- Texts of package name, for this seat. -/
import Derived.Test.YtkdflgaahhnigaaC10
import Derived.Test.YtkdflgaahhnigaaC14
set_option linter.unusedVariables false
set_option linter.unusedSimpArgs false
namespace Go.Proofs.Ytkdflgaahhnigaa
open Go.RowKit Go.Shelf

/-- what groupOf has found: the last group, how often -/
def rowS (g n : Nat) (r : List Nat) (s : Int × Nat) : Int × Nat := r.foldl (fun s x => if x = n then ((g : Int), s.2 + 1) else s) s
def tabS (tab : List (List Nat)) (n : Nat) : Nat → Int × Nat
  | 0 => (-1, 0)
  | k+1 => rowS k n (tab.getD k []) (tabS tab n k)
def gOf (tab : List (List Nat)) (n : Nat) : Int := if (tabS tab n tab.length).2 = 1 then (tabS tab n tab.length).1 else -1
theorem rowS_snoc (g n : Nat) (r : List Nat) (x : Nat) (s : Int × Nat) : rowS g n (r ++ [x]) s = if x = n then ((g : Int), (rowS g n r s).2 + 1) else rowS g n r s := by
  unfold rowS; rw [List.foldl_append]; rfl
theorem rowS_le (g n : Nat) : ∀ (r : List Nat) (s : Int × Nat), (rowS g n r s).2 ≤ s.2 + r.length
  | [], s => Nat.le_refl _
  | x :: r, s => by
    have h := rowS_le g n r (if x = n then ((g : Int), s.2 + 1) else s)
    have e : rowS g n (x :: r) s = rowS g n r (if x = n then ((g : Int), s.2 + 1) else s) := rfl
    rw [e]
    by_cases hx : x = n
    · rw [if_pos hx] at h ⊢; simp only [List.length_cons]; simp only at h; omega
    · rw [if_neg hx] at h ⊢; simp only [List.length_cons]; omega
theorem tabS_le (tab : List (List Nat)) (n : Nat) (hr : ∀ r, r ∈ tab → r.length ≤ 100) : ∀ k, (tabS tab n k).2 ≤ 100 * k
  | 0 => by simp [tabS]
  | k+1 => by
    have h := tabS_le tab n hr k
    have h2 := rowS_le k n (tab.getD k []) (tabS tab n k)
    have h3 : (tab.getD k []).length ≤ 100 := by
      rw [List.getD_eq_getElem?_getD]
      cases e : tab[k]? with
      | none => simp
      | some r => exact hr r (List.mem_of_getElem? e)
    rw [tabS]; omega
theorem rowS_none {g n : Nat} {r : List Nat} (h : n ∉ r) (s : Int × Nat) : rowS g n r s = s := by
  induction r generalizing s with
  | nil => rfl
  | cons x r ih =>
    have hx : ¬ x = n := fun e => h (by rw [e]; simp)
    have e : rowS g n (x :: r) s = rowS g n r (if x = n then ((g : Int), s.2 + 1) else s) := rfl
    rw [e, if_neg hx]
    exact ih (fun h2 => h (List.mem_cons_of_mem _ h2)) s
theorem rowS_one {g n : Nat} {r : List Nat} (hd : r.Nodup) (h : n ∈ r) (s : Int × Nat) : rowS g n r s = ((g : Int), s.2 + 1) := by
  induction r generalizing s with
  | nil => cases h
  | cons x r ih =>
    have e : rowS g n (x :: r) s = rowS g n r (if x = n then ((g : Int), s.2 + 1) else s) := rfl
    rw [e]
    rw [List.nodup_cons] at hd
    by_cases hx : x = n
    · subst hx
      rw [if_pos rfl, rowS_none hd.1]
    · rw [if_neg hx]
      exact ih hd.2 (by rcases List.mem_cons.1 h with h | h; exact absurd h.symm hx; exact h) s
section
variable {c : Nat → Nat → Bool} {n : Nat}
/-- the first members -/
def firsts (c : Nat → Nat → Bool) (n : Nat) : List Nat := (List.range n).filter fun i => (List.range i).all fun k => !c i k
theorem classes_eq : Nm.classes c n = (firsts c n).map fun i => (List.range n).filter (c i) := rfl
theorem firsts_mem {f : Nat} : f ∈ firsts c n ↔ f < n ∧ ∀ k, k < f → c f k = false := by
  unfold firsts
  rw [List.mem_filter, List.mem_range, List.all_eq_true]
  simp only [List.mem_range, Bool.not_eq_true']
theorem firsts_nodup : (firsts c n).Nodup := List.Pairwise.sublist List.filter_sublist List.nodup_range
/-- an equivalence on the names -/
structure Eqv (c : Nat → Nat → Bool) (n : Nat) : Prop where
  refl : ∀ i, c i i = true
  symm : ∀ i k, c i k = c k i
  trans : ∀ i m k, m < n → c i m = true → c m k = true → c i k = true
theorem first_ex (h : Eqv c n) : ∀ (m i : Nat), i ≤ m → i < n → ∃ f, f ∈ firsts c n ∧ c f i = true
  | m, i, him, hi => by
    by_cases hf : ∀ k, k < i → c i k = false
    · exact ⟨i, firsts_mem.2 ⟨hi, hf⟩, h.refl i⟩
    · obtain ⟨k, hk⟩ : ∃ k, ¬ (k < i → c i k = false) := Classical.byContradiction fun hn => hf fun k hk => Classical.byContradiction fun hc => hn ⟨k, fun h2 => hc (h2 hk)⟩
      have hki : k < i := Classical.byContradiction fun h2 => hk fun h3 => absurd h3 h2
      have hck : c i k = true := by cases e : c i k with
        | true => rfl
        | false => exact absurd (fun _ => e) hk
      match m with
      | 0 => omega
      | m+1 =>
        obtain ⟨f, hf1, hf2⟩ := first_ex h m k (by omega) (by omega)
        exact ⟨f, hf1, h.trans f k i (by omega) hf2 (by rw [h.symm]; exact hck)⟩
theorem first_uniq (h : Eqv c n) {f f' i : Nat} (hf : f ∈ firsts c n) (hf' : f' ∈ firsts c n) (hi : i < n) (h1 : c f i = true) (h2 : c f' i = true) : f = f' := by
  obtain ⟨a1, a2⟩ := firsts_mem.1 hf
  obtain ⟨b1, b2⟩ := firsts_mem.1 hf'
  have h3 : c f f' = true := h.trans f i f' hi h1 (by rw [h.symm]; exact h2)
  rcases Nat.lt_trichotomy f f' with hlt | rfl | hlt
  · have := b2 f hlt; rw [h.symm, h3] at this; cases this
  · rfl
  · have := a2 f' hlt; rw [h3] at this; cases this
/-- the state behind k groups -/
theorem tabS_classes (h : Eqv c n) {i : Nat} (hi : i < n) : ∀ k, k ≤ (firsts c n).length →
    (∀ j f, j < k → (firsts c n)[j]? = some f → c f i = true → tabS (Nm.classes c n) i k = ((j : Int), 1)) ∧ ((∀ j f, j < k → (firsts c n)[j]? = some f → c f i = false) → tabS (Nm.classes c n) i k = (-1, 0))
  | 0, _ => ⟨fun j f hj => by omega, fun _ => rfl⟩
  | k+1, hk => by
    obtain ⟨ih1, ih2⟩ := tabS_classes h hi k (by omega)
    obtain ⟨f0, hf0⟩ : ∃ f, (firsts c n)[k]? = some f := ⟨_, List.getElem?_eq_getElem (by omega)⟩
    have hrow : (Nm.classes c n).getD k [] = (List.range n).filter (c f0) := by
      rw [classes_eq, List.getD_eq_getElem?_getD, List.getElem?_map, hf0]; rfl
    have hnd : ((List.range n).filter (c f0)).Nodup := List.Pairwise.sublist List.filter_sublist List.nodup_range
    have hmem : i ∈ (List.range n).filter (c f0) ↔ c f0 i = true := by rw [List.mem_filter, List.mem_range]; exact ⟨fun h => h.2, fun h => ⟨hi, h⟩⟩
    rw [tabS, hrow]
    constructor
    · intro j f hj hjf hcf
      rcases Nat.lt_or_ge j k with hlt | hge
      · have hno : ¬ c f0 i = true := fun h0 => by
          have e := first_uniq h (List.mem_of_getElem? hjf) (List.mem_of_getElem? hf0) hi hcf h0
          subst e
          have := (List.getElem?_inj (List.getElem?_eq_some_iff.1 hjf).1 firsts_nodup).1 (hjf.trans hf0.symm)
          omega
        rw [rowS_none (fun h2 => hno (hmem.1 h2))]
        exact ih1 j f hlt hjf hcf
      · obtain rfl : j = k := by omega
        rw [hf0] at hjf; cases hjf
        rw [rowS_one hnd (hmem.2 hcf), ih2 (fun j2 f2 hj2 hf2 => by
          cases e : c f2 i with
          | false => rfl
          | true =>
            have e2 := first_uniq h (List.mem_of_getElem? hf2) (List.mem_of_getElem? hf0) hi e hcf
            subst e2
            have := (List.getElem?_inj (List.getElem?_eq_some_iff.1 hf2).1 firsts_nodup).1 (hf2.trans hf0.symm)
            omega)]
    · intro hall
      have h0 := hall k f0 (by omega) hf0
      rw [rowS_none (fun h2 => by rw [hmem.1 h2] at h0; cases h0)]
      exact ih2 fun j f hj hjf => hall j f (by omega) hjf
theorem gOf_spec (h : Eqv c n) {i : Nat} (hi : i < n) : ∃ (j f : Nat), (firsts c n)[j]? = some f ∧ c f i = true ∧ gOf (Nm.classes c n) i = (j : Int) := by
  obtain ⟨f, hf, hc⟩ := first_ex h i i (Nat.le_refl _) hi
  obtain ⟨j, hj, e⟩ := List.mem_iff_getElem.1 hf
  have hj2 : (firsts c n)[j]? = some f := by rw [List.getElem?_eq_getElem hj, e]
  refine ⟨j, f, hj2, hc, ?_⟩
  have hlen : (Nm.classes c n).length = (firsts c n).length := by rw [classes_eq, List.length_map]
  unfold gOf
  rw [hlen, (tabS_classes h hi _ (Nat.le_refl _)).1 j f hj hj2 hc, if_pos rfl]
theorem gOf_nonneg (h : Eqv c n) {i : Nat} (hi : i < n) : 0 ≤ gOf (Nm.classes c n) i := by
  obtain ⟨j, _, _, _, e⟩ := gOf_spec h hi
  rw [e]; omega
theorem gOf_iff (h : Eqv c n) {i k : Nat} (hi : i < n) (hk : k < n) : gOf (Nm.classes c n) i = gOf (Nm.classes c n) k ↔ c i k = true := by
  obtain ⟨j, f, hj, hc, e⟩ := gOf_spec h hi
  obtain ⟨j', f', hj', hc', e'⟩ := gOf_spec h hk
  have hfn := (firsts_mem.1 (List.mem_of_getElem? hj)).1
  rw [e, e']
  constructor
  · intro hjj
    have : j = j' := by omega
    subst this
    rw [hj] at hj'; cases hj'
    exact h.trans i f k hfn (by rw [h.symm]; exact hc) hc'
  · intro hik
    have h1 : c f k = true := h.trans f i k hi hc hik
    have e2 := first_uniq h (List.mem_of_getElem? hj) (List.mem_of_getElem? hj') hk h1 hc'
    subst e2
    have := (List.getElem?_inj (List.getElem?_eq_some_iff.1 hj).1 firsts_nodup).1 (hj.trans hj'.symm)
    omega
theorem classes_len_le {c' : Nat → Nat → Bool} (hm : ∀ i k, c i k = true → c' i k = true) : (Nm.classes c' n).length ≤ (Nm.classes c n).length := by
  rw [classes_eq, classes_eq, List.length_map, List.length_map]
  unfold firsts
  rw [← List.countP_eq_length_filter, ← List.countP_eq_length_filter]
  refine List.countP_mono_left fun f _ hf => ?_
  rw [List.all_eq_true] at hf ⊢
  intro k hk
  have := hf k hk
  simp only [Bool.not_eq_true'] at this ⊢
  cases e : c f k with
  | false => rfl
  | true => rw [hm f k e] at this; cases this
end
theorem wjR_eqv (R : RB) (ys : List ByteArray) (L : Nat) : Eqv (wjR R ys L) ys.length := ⟨wjR_refl R ys L, wjR_symm R ys L, fun _ _ _ hm => wjR_trans R ys L hm⟩
/-- rows of groups: not empty, no longer than the list -/
theorem grpL_rows (R : RB) (ys : List ByteArray) (L : Nat) : (grpL R ys L).length ≤ ys.length ∧ ∀ r, r ∈ grpL R ys L → r ≠ [] ∧ r.length ≤ ys.length := by
  rw [grpL_classes, classes_eq]
  refine ⟨?_, fun r hr => ?_⟩
  · rw [List.length_map]
    unfold firsts
    have := List.length_filter_le (fun i => (List.range i).all fun k => !wjR R ys L i k) (List.range ys.length)
    simpa using this
  · obtain ⟨f, hf, rfl⟩ := List.mem_map.1 hr
    refine ⟨fun e => ?_, ?_⟩
    · have hm : f ∈ (List.range ys.length).filter (wjR R ys L f) := List.mem_filter.2 ⟨List.mem_range.2 (firsts_mem.1 hf).1, wjR_refl R ys L f⟩
      rw [e] at hm; cases hm
    · have := List.length_filter_le (wjR R ys L f) (List.range ys.length)
      simpa using this
end Go.Proofs.Ytkdflgaahhnigaa

namespace Go.Proofs.Ytkdflgaahhnigaa
open Go.RowKit Go.Shelf

theorem TabK.at {w : World} {B : Nat} {tv : Value} {tab : List (List Nat)} (h : TabK w B tv tab) (hrow : ∀ r, r ∈ tab → r ≠ []) (h0 : 0 < tab.length) :
    ∃ tg tc, tv = .slice (some ⟨tg, 0, none⟩) tab.length tc ∧ ∀ i r, tab[i]? = some r → ∃ ug uc, w.cell? ⟨tg, i, none⟩ = some (.slice (some ⟨ug, 0, none⟩) r.length uc) ∧ ∀ k x, r[k]? = some x → w.cell? ⟨ug, k, none⟩ = some (.int .i64 ((x : Nat) : Int)) := by
  obtain ⟨vs, h1, h2⟩ := h
  obtain ⟨tg, tc, rfl⟩ := Joins.ownsRow_form h1 h0
  refine ⟨tg, tc, rfl, fun i r hr => ?_⟩
  obtain ⟨u, k1, k2, _⟩ := h2 i _ hr
  have hrl := hrow _ (List.mem_of_getElem? hr)
  unfold natsOwn at k2
  obtain ⟨ug, uc, rfl⟩ := Joins.ownsRow_form k2 (List.length_pos_iff.2 hrl)
  have hi := (List.getElem?_eq_some_iff.1 hr).1
  refine ⟨ug, uc, by rw [h1.cellAt i (by omega), k1], fun k x hx => ?_⟩
  have hk := (List.getElem?_eq_some_iff.1 hx).1
  rw [k2.cellAt k (by omega), natsV, List.getElem?_map, hx]; rfl
end Go.Proofs.Ytkdflgaahhnigaa
