/- TopSounds: the entries with the keys that were heard: plain mathematics. -/
import Derived.Test.YtdfebccmjbocjaaGreatDoorYk
import Derived.Test.YtdfebccmjbocjaaGreatDoorWd
set_option linter.unusedVariables false
set_option linter.unusedSimpArgs false
namespace Go.Proofs.YtdfebccmjbocjaaGreatDoor
open Go.RowKit Go.Shelf
def setK (e : Ent) (k : Nat) : Ent := ⟨e.s, e.x, k, e.lo, e.hi⟩
/-- the entries of which the first i have a new key -/
def esK (es : List Ent) (f : Nat → Nat) (i : Nat) : List Ent := (List.range es.length).map fun j => if j < i then setK (entG es j) (f j) else entG es j
theorem esK_len (es : List Ent) (f : Nat → Nat) (i : Nat) : (esK es f i).length = es.length := by simp [esK]
theorem esK_get {es : List Ent} {f : Nat → Nat} {i j : Nat} (hj : j < es.length) : (esK es f i)[j]? = some (if j < i then setK (entG es j) (f j) else entG es j) := by
  unfold esK; rw [List.getElem?_map, List.getElem?_range hj]; rfl
theorem esK_zero (es : List Ent) (f : Nat → Nat) : esK es f 0 = es := by
  apply List.ext_getElem?
  intro j
  by_cases hj : j < es.length
  · rw [esK_get hj, if_neg (by omega)]
    exact (entG_get hj).symm
  · rw [List.getElem?_eq_none (by rw [esK_len]; omega), List.getElem?_eq_none (by omega)]
def entF (e : Ent) (q : Nat) : Value := match q with
  | 0 => .int .i64 (e.s : Int)
  | 1 => .int .i64 (e.x : Int)
  | 2 => .int .i64 (e.k : Int)
  | 3 => .int .i64 (e.lo : Int)
  | _ => .int .i64 (e.hi : Int)
theorem entsV_at : ∀ (es : List Ent) (t : Nat), (entsV es)[t]? = (es[t / 5]?).map fun e => entF e (t % 5)
  | [], t => by simp [entsV]
  | e :: es, t => by
    have e1 : entsV (e :: es) = [.int .i64 (e.s : Int), .int .i64 (e.x : Int), .int .i64 (e.k : Int), .int .i64 (e.lo : Int), .int .i64 (e.hi : Int)] ++ entsV es := by simp [entsV]
    rw [e1, List.getElem?_append]
    simp only [List.length_cons, List.length_nil, Nat.zero_add, Nat.reduceAdd]
    by_cases h : t < 5
    · rw [if_pos h]
      match t, h with
      | 0, _ => rfl
      | 1, _ => rfl
      | 2, _ => rfl
      | 3, _ => rfl
      | 4, _ => rfl
    · rw [if_neg h]
      have h2 : t / 5 = (t - 5) / 5 + 1 := by omega
      have h3 : t % 5 = (t - 5) % 5 := by omega
      rw [h2, h3, List.getElem?_cons_succ]
      exact entsV_at es (t - 5)
theorem entsV_len (es : List Ent) : (entsV es).length = es.length * 5 := by
  unfold entsV
  induction es with
  | nil => rfl
  | cons a l ih => rw [List.flatMap_cons, List.length_append, ih]; simp; omega
theorem esK_set {es : List Ent} {f : Nat → Nat} {i : Nat} (hi : i < es.length) : (entsV (esK es f i)).set (i * 5 + 2) (.int .i64 (f i : Int)) = entsV (esK es f (i + 1)) := by
  apply List.ext_getElem?
  intro t
  rw [List.getElem?_set, entsV_at, entsV_at, entsV_len, esK_len]
  by_cases ht : t / 5 < es.length
  · rw [esK_get ht, esK_get ht]
    by_cases he : i * 5 + 2 = t
    · subst he
      have h1 : (i * 5 + 2) / 5 = i := by omega
      have h2 : (i * 5 + 2) % 5 = 2 := by omega
      rw [if_pos rfl, if_pos (by omega), h1, h2, if_pos (by omega)]; rfl
    · rw [if_neg he]
      simp only [Option.map_some, Option.some.injEq]
      by_cases h1 : t / 5 < i
      · rw [if_pos h1, if_pos (by omega)]
      · by_cases h2 : t / 5 = i
        · rw [if_neg h1, if_pos (by omega)]
          have h3 : t % 5 ≠ 2 := by omega
          have h4 : t % 5 < 5 := Nat.mod_lt _ (by omega)
          generalize t % 5 = q at h3 h4
          match q, h3, h4 with
          | 0, _, _ => rfl
          | 1, _, _ => rfl
          | 2, h, _ => exact absurd rfl h
          | 3, _, _ => rfl
          | 4, _, _ => rfl
        · rw [if_neg h1, if_neg (by omega)]
  · have h1 : i * 5 + 2 ≠ t := by omega
    rw [if_neg h1, List.getElem?_eq_none (by rw [esK_len]; omega), List.getElem?_eq_none (by rw [esK_len]; omega)]
theorem own_setk {W : World} {B : Nat} {e : TypeId} {k n g c i : Nat} {xs : List Value} (h : W.ownsRow B e k (.slice (some ⟨g, 0, none⟩) n c) n xs) (u : Value) : (W.setCell ⟨g, i, none⟩ u).ownsRow B e k (.slice (some ⟨g, 0, none⟩) n c) n (xs.set i u) := by
  rcases h with ⟨hl, ⟨hv, _⟩ | ⟨g', cap, cur, hv, hB, hg, hcap, hm, hsz, htk⟩⟩
  · cases hv
  · cases hv
    refine ⟨by rw [List.length_set]; exact hl, .inr ⟨g, c, cur.setIfInBounds i u, rfl, hB, Blk.set (show Blk W g cur e from hg) i u, hcap, hm, by rw [Array.size_setIfInBounds]; exact hsz, ?_⟩⟩
    rw [Array.toList_setIfInBounds, List.take_set, htk]
theorem own_frozen {W : World} {B : Nat} {e : TypeId} {k n g c : Nat} {xs : List Value} (h : W.ownsRow B e k (.slice (some ⟨g, 0, none⟩) n c) n xs) (i : Nat) : W.frozen? ⟨g, i, none⟩ = false := by
  rcases h with ⟨_, ⟨hv, _⟩ | ⟨g', cap, cur, hv, _, hg, _⟩⟩
  · cases hv
  · cases hv; exact Blk.frozen (show Blk W g cur e from hg) i
/-- the entries with new keys: the key by the person -/
def esN (es : List Ent) (of : List Nat) (F : Nat → Nat) : List Ent := esK es (fun j => F (ofF of j)) es.length
section
variable {es : List Ent} {of : List Nat} {sm ap : List (Nat × Nat)} {om nu : Nat × Nat} {F : Nat → Nat}
theorem esN_len : (esN es of F).length = es.length := esK_len _ _ _
theorem esN_get {j : Nat} (hj : j < es.length) : (esN es of F).getD j ⟨0, 0, 0, 0, 0⟩ = setK (entG es j) (F (ofF of j)) := by
  unfold esN
  rw [List.getD_eq_getElem?_getD, esK_get hj, if_pos hj]; rfl
theorem esN_tru (h : TP es of) (h9 : of.length ≤ 9) (hs : PrT of true sm) (ha : PrT of false ap) : Tru (esN es of F) sm ap of := by
  have ht := h.tru h9 hs ha
  refine ⟨by rw [esN_len]; exact h.len, h9, ht.lt5, fun i j hi hj hne he => ?_, ht.sm, ht.ap⟩
  have hl := h.len
  unfold fitA
  rw [esN_get (by omega), esN_get (by omega), he]
  obtain ⟨a1, a2⟩ := h.same i j hi hj hne he
  obtain ⟨i1, i2, i3, i4, i5, i6⟩ := h.ent i hi
  obtain ⟨j1, j2, j3, j4, j5, j6⟩ := h.ent j hj
  unfold fitE setK
  simp only
  simp only [Bool.and_eq_true, Bool.not_eq_true', decide_eq_false_iff_not, decide_eq_true_eq]
  exact ⟨a1, by rw [i2, j2, he], trivial, by omega⟩
theorem esN_cen (h : TP es of) (h9 : of.length ≤ 9) (hs : PrT of true sm) (ha : PrT of false ap) (h5 : sm.length ≤ 5) (h5a : ap.length ≤ 5) (hom : om.1 ≤ om.2 ∧ om.2 ≤ 100) (hnu : nu.1 ≤ nu.2 ∧ nu.2 ≤ 200) (hF : ∀ q, F q ≤ 99) : CenOk (esN es of F) sm ap om nu := by
  have hc := h.cen h9 hs ha h5 h5a hom hnu
  refine ⟨by rw [esN_len]; exact hc.n10, hc.s6, hc.a6, fun e he => ?_, fun p hp => by rw [esN_len]; exact hc.sm p hp, fun p hp => by rw [esN_len]; exact hc.ap p hp, hom, hnu⟩
  obtain ⟨i, hi, rfl⟩ := entG_at he
  rw [esN_len] at hi
  have e1 : entG (esN es of F) i = setK (entG es i) (F (ofF of i)) := by unfold entG; exact esN_get hi
  rw [e1]
  have hl := h.len
  obtain ⟨i1, i2, i3, i4, i5, i6⟩ := h.ent i (by omega)
  have := h.lt5 i (by omega)
  have := hF (ofF of i)
  unfold setK
  exact ⟨i1, by simp only; omega, by simp only; omega, i5, by simp only; omega⟩
end
end Go.Proofs.YtdfebccmjbocjaaGreatDoor
