/- sheet: read's table: what a round turns. -/
import Derived.Test.YtdfebccmjbocjaaGreatDoorZw
import Derived.Test.YtdfebccmjbocjaaGreatDoorZr
import Derived.Test.YtdfebccmjbocjaaGreatDoorZx
set_option linter.unusedVariables false
set_option linter.unusedSimpArgs false
namespace Go.Proofs.YtdfebccmjbocjaaGreatDoor
open Go.RowKit Go.Shelf

section
variable {w W W' : World} {B : Nat} {e s a : Value} {ol oh nl nh : Int} {v : Value} {l : List Nat} {one : Nat → Bool} {L : Nat → Nat}
theorem Rd.setCells (h : Rd w B e s a ol oh nl nh v l one L W) {i : Nat} {u : Value} {one' : Nat → Bool} {L' : Nat → Nat} (hc : ∀ cs, WkC cs e s a ol oh nl nh v one L → WkC (cs.setIfInBounds i u) e s a ol oh nl nh v one' L') : Rd w B e s a ol oh nl nh v l one' L' (W.setCell ⟨B + 1, i, none⟩ u) := by
  obtain ⟨cs, h1, h2⟩ := h.wk
  exact ⟨h.cen.other (by show B ≠ B + 1; omega) u, h.bp.other (by show B + 2 ≠ B + 1; omega) u, ⟨_, h1.set i u, hc cs h2⟩, (Kx.set (E := fun k => k = B + 1) (a := ⟨B + 1, i, none⟩) rfl u).own h.row (fun r e => by have := (h.row.lt r e).1; omega), h.bel.setCell (p := ⟨B + 1, i, none⟩) (by show B ≤ B + 1; omega) u⟩
theorem Rd.setO (h : Rd w B e s a ol oh nl nh v l one L W) {i : Nat} (hi : i < 1024) (b : Bool) : Rd w B e s a ol oh nl nh v l (fun j => if j = i then b else one j) L (W.setCell ⟨B + 1, 8 + i, none⟩ (.bool b)) := h.setCells fun cs hc => hc.setO hi b
theorem Rd.setL (h : Rd w B e s a ol oh nl nh v l one L W) {i : Nat} (hi : i < 1024) (x : Nat) : Rd w B e s a ol oh nl nh v l one (fun j => if j = i then x else L j) (W.setCell ⟨B + 1, 1032 + i, none⟩ (.int .i64 (x : Int))) := h.setCells fun cs hc => hc.setL hi x
theorem Rd.funs (h : Rd w B e s a ol oh nl nh v l one L W) {one' : Nat → Bool} {L' : Nat → Nat} (h1 : one = one') (h2 : L = L') : Rd w B e s a ol oh nl nh v l one' L' W := by subst h1; subst h2; exact h
theorem Rd.cO (h : Rd w B e s a ol oh nl nh v l one L W) {i : Nat} (hi : i < 1024) : W.cell? ⟨B + 1, 8 + i, none⟩ = some (.bool (one i)) ∧ W.frozen? ⟨B + 1, 8 + i, none⟩ = false := by
  obtain ⟨cs, h1, h2⟩ := h.wk
  exact ⟨(h1.cell _).trans (h2.one i hi), h1.frozen _⟩
theorem Rd.cL (h : Rd w B e s a ol oh nl nh v l one L W) {i : Nat} (hi : i < 1024) : W.cell? ⟨B + 1, 1032 + i, none⟩ = some (.int .i64 (L i : Int)) ∧ W.frozen? ⟨B + 1, 1032 + i, none⟩ = false := by
  obtain ⟨cs, h1, h2⟩ := h.wk
  exact ⟨(h1.cell _).trans (h2.least i hi), h1.frozen _⟩
/-- the world behind a range's own blocks -/
theorem Rd.own (h : Rd w B e s a ol oh nl nh v l one L W) {row : Option Nat} (hg : W.grownBy W' row) (hr : ∀ r, row = some r → B ≤ r ∧ ∃ o, W.heap[r]? = some o ∧ o.isCells = false) : Rd w B e s a ol oh nl nh v l one L W' := by
  have ne : ∀ {b : Nat} {cs : Array Value} {t : TypeId}, Blk W b cs t → some b ≠ row := fun {b cs t} hb e => by
    obtain ⟨_, o, ho, hc⟩ := hr _ e.symm
    have hb' : W.heap[b]? = _ := hb
    rw [hb'] at ho; cases ho; cases hc
  obtain ⟨cs, h1, h2⟩ := h.wk
  refine ⟨h.cen.kept hg (ne h.cen), h.bp.kept hg (ne h.bp), ⟨cs, h1.kept hg (ne h1), h2⟩, World.ownsRow.kept h.row hg ?_, h.bel.grown hg (by have := h.size; omega) (fun r e => (hr r e).1)⟩
  rcases h.row.2 with ⟨rfl, _⟩ | ⟨g, cap, cur, rfl, _, hgb, _⟩
  · exact .inl rfl
  · refine .inr fun e' => ?_
    obtain ⟨_, o, ho, hc⟩ := hr g (by simpa [Value.ownBlock] using e'.symm)
    rw [hgb] at ho; cases ho; cases hc
theorem Rd.gr (h : Rd w B e s a ol oh nl nh v l one L W) {Bs Bq q : Nat} (h1 : Blk W Bs #[.int .u64 (q : Int)] 109) (h2 : Blk W Bq #[.pointer (some ⟨B + 1, 0, none⟩)] 95) : GR W (B + 1) Bs Bq q one := by
  obtain ⟨cs, h3, h4⟩ := h.wk
  exact ⟨h1, h2, cs, h3, h4.one⟩
end
theorem Rd.fw {w W : World} {e a : Loc} {es : List Ent} {ap : List (Nat × Nat)} {s : Value} {ol oh nl nh : Int} {v : Value} {l : List Nat} {one : Nat → Bool} {L : Nat → Nat} (h : Rd w w.heap.size (.slice e.a es.length e.c) s (.slice a.a ap.length a.c) ol oh nl nh v l one L W) (hE : SlE w e es) (hA : SlP w a ap) (hT : GT w) (h1 : 1 < w.heap.size) : FW W (w.heap.size + 1) e a es ap := by
  obtain ⟨cs, h2, h3⟩ := h.wk
  exact ⟨h.g, (h2.cell 0).trans h3.c0, (h2.cell 2).trans h3.c2, hE.below h.bel, hA.below h.bel, hT.below h.bel h1, Nat.lt_of_lt_of_le h1 h.bel.size⟩
/-- marks and a store into cells -/
theorem MarksB.setCell {B top : Nat} {W : World} {ds : List Deferred} (h : MarksB B W top ds) {b i : Nat} {cs : Array Value} {t : TypeId} (hb : Blk W b cs t) (u : Value) : MarksB B (W.setCell ⟨b, i, none⟩ u) top ds :=
  h.kept (fun D _ hD => (Below.heap_setCell W ⟨b, i, none⟩ u D (fun e => by
    have hb' : W.heap[b]? = _ := hb
    have e' : D = b := e
    rw [e', hb'] at hD; cases hD)).trans hD) (Nat.le_refl _)
/-- read's third loop -/
def RdI (w : World) (B : Nat) (e s a : Value) (ol oh nl nh : Int) (v : Value) (l : List Nat) (oneF : Nat → Bool) (M1 : Nat) (ac : Act) (W : World) : Prop :=
  ∃ (q : Nat) (one : Nat → Bool) (L : Nat → Nat) (top : Nat) (ds : List Deferred), ac.tmps.size = 115 ∧ ac.tmps[3]? = some (.pointer (some ⟨B + 1 + 1, 0, none⟩)) ∧ ac.tmps[46]? = some (.int .u64 ((M1 : Int) + 1)) ∧ ac.tmps[47]? = some (.int .u64 (q : Int)) ∧ ac.defers = ds ∧
    Hid (q ≤ M1 + 1 ∧ Rd w B e s a ol oh nl nh v l one L W ∧ Sh.Least oneF L q ∧ (∀ j, j < q → one j = oneF j) ∧ MarksB (B + 3) W top ds ∧ top ≤ W.heap.size)
def muR (M1 : Nat) (ac : Act) (_ : World) : Nat := match (ac.tmps[47]? : Option Value) with
  | some u => M1 + 1 - (intOf u).toNat
  | none => 0
theorem muR_eq {M1 : Nat} {ac : Act} {W : World} {q : Nat} (h : ac.tmps[47]? = some (.int .u64 (q : Int))) : muR M1 ac W = M1 + 1 - q := by
  unfold muR; rw [h]; simp [intOf]
/-- the entries of the first i blocks of a set -/
def entTo (BL : List Nat) (s i : Nat) : Nat := ((Sh.bits s).take i).foldl (fun a k => a ||| BL.getD k 0) 0
theorem entTo_succ {BL : List Nat} {s i k : Nat} (h : (Sh.bits s)[i]? = some k) : entTo BL s (i + 1) = entTo BL s i ||| BL.getD k 0 := by
  unfold entTo
  rw [List.take_add_one, h, Option.toList_some, List.foldl_append]; rfl
theorem entTo_all (BL : List Nat) (s : Nat) : entTo BL s (Sh.bits s).length = Sh.entriesOf BL s := by
  unfold entTo Sh.entriesOf; rw [List.take_of_length_le (Nat.le_refl _)]
theorem entTo_lt {n : Nat} {BL : List Nat} (h : Sh.Cov n BL) (hn : n ≤ 10) (s : Nat) : ∀ i, entTo BL s i < 1024 := by
  have hb : ∀ k, BL.getD k 0 < 2 ^ 10 := fun k => by
    by_cases hk : k < BL.length
    · have h1 := h.lt _ (Sh.getD_mem hk)
      have h2 : 2 ^ n ≤ 2 ^ 10 := Nat.pow_le_pow_right (by omega) hn
      omega
    · rw [List.getD_eq_getElem?_getD, List.getElem?_eq_none (by omega)]; simp
  have key : ∀ (l : List Nat) (a : Nat), a < 2 ^ 10 → l.foldl (fun a k => a ||| BL.getD k 0) a < 2 ^ 10 := by
    intro l
    induction l with
    | nil => intro a ha; exact ha
    | cons k l ih => intro a ha; exact ih _ (Nat.or_lt_two_pow ha (hb k))
  intro i
  exact key _ 0 (by omega)
theorem entOf_mem {n : Nat} {BL : List Nat} (h : Sh.Cov n BL) {s m i : Nat} (hm : m = BL.length) (hs : s < 2 ^ m) (hi : i ∈ Sh.bits (Sh.entriesOf BL s)) : i < n := by
  have h1 := (Sh.mem_bits_lt hi).2
  rw [Sh.entriesOf_bit] at h1
  obtain ⟨k, hk, hb⟩ := List.any_eq_true.1 h1
  by_cases hkl : k < BL.length
  · have h2 := h.lt _ (Sh.getD_mem hkl)
    have h3 := Nat.ge_two_pow_of_testBit hb
    rcases Nat.lt_or_ge i n with h | h
    · exact h
    · have := Nat.pow_le_pow_right (show 0 < 2 by omega) h; omega
  · rw [List.getD_eq_getElem?_getD, List.getElem?_eq_none (by omega)] at hb; simp at hb
theorem bits_small {s m k : Nat} (hs : s < 2 ^ m) (hk : k ∈ Sh.bits s) : k < m := by
  have h1 := Nat.ge_two_pow_of_testBit (Sh.mem_bits_lt hk).2
  rcases Nat.lt_or_ge k m with h | h
  · exact h
  · have := Nat.pow_le_pow_right (show 0 < 2 by omega) h; omega
theorem gSeq_sub {one : Nat → Bool} {s g : Nat} (hs : s < 1024) (h : g ∈ gSeq one s) : ∀ k, g.testBit k = true → s.testBit k = true := by
  obtain ⟨t, ht, _, rfl⟩ := gSeq_of h
  obtain ⟨_, h2, _⟩ := low_le s hs
  intro k hk
  rw [Nat.testBit_or, Bool.or_eq_true] at hk
  rcases hk with hk | hk
  · have h3 := congrArg (fun x => x.testBit k) ht
    simp only [restOf, Nat.testBit_and, Nat.testBit_xor, hk, Bool.true_and] at h3
    cases hsk : s.testBit k with
    | true => rfl
    | false =>
      have h4 : (Sh.low s).testBit k = false := by
        cases hl : (Sh.low s).testBit k with
        | false => rfl
        | true => rw [h2 k hl] at hsk; cases hsk
      rw [hsk, h4] at h3; cases h3
  · exact h2 k hk
theorem minimum_b (b c : Nat) (p q : Nat) (w : World) (h0 : w.cell? ⟨b, 0, none⟩ = some (.int .i64 (p : Int))) (h1 : w.cell? ⟨b, 1, none⟩ = some (.int .i64 ((1 : Int) + (q : Int)))) :
    Calls Tryz.prog 105 #[.slice (some ⟨b, 0, none⟩) 2 c] w fun e w' => e = .returned (.int .i64 ((min p (1 + q) : Nat) : Int)) ∧ Below w.heap.size w w' := by
  have e : min (p : Int) ((1 : Int) + (q : Int)) = ((min p (1 + q) : Nat) : Int) := by omega
  rw [← e]
  exact (minimum_s b c _ _ w h0 h1).mono fun e w' ⟨h, hw⟩ => ⟨h, by subst hw; exact Below.refl _ _⟩
/-- the least number, one group more -/
def LF (L : Nat → Nat) (q init : Nat) (pre : List Nat) : Nat → Nat := fun j => if j = q then accF L q init pre else L j
theorem LF_snoc (L : Nat → Nat) (q init : Nat) (pre : List Nat) (g : Nat) : (fun j => if j = q then min (LF L q init pre q) (1 + LF L q init pre (q ^^^ g)) else LF L q init pre j) = LF L q init (pre ++ [g]) := by
  funext j
  unfold LF
  by_cases hj : j = q
  · simp only [hj, if_true]
    rw [accF_snoc]
  · simp only [hj, if_false]
theorem LF_nil (L : Nat → Nat) (q init : Nat) : (fun j => if j = q then init else L j) = LF L q init [] := rfl
theorem LF_le (L : Nat → Nat) (q init : Nat) (hi : init ≤ 1024) (hL : ∀ j, L j ≤ 1024) (pre : List Nat) (j : Nat) : LF L q init pre j ≤ 1024 := by
  unfold LF
  split
  · exact Nat.le_trans (accF_le L q pre init) hi
  · exact hL j
theorem OwnN.val {W : World} {base : Nat} {v : Value} {l : List Nat} (h : OwnN W base v l) : ∃ (ad : Option Addr) (c : Nat), v = .slice ad l.length c ∧ (0 < l.length → ∃ g, ad = some ⟨g, 0, none⟩ ∧ g < W.heap.size ∧ ∀ (i x : Nat), l[i]? = some x → W.cell? ⟨g, i, none⟩ = some (.int .i64 (x : Int))) := by
  rcases Joins.ownsRow_forms h with ⟨hv, h0⟩ | ⟨g, c, hv⟩
  · exact ⟨none, 0, by rw [hv, h0], fun hl => by omega⟩
  · subst hv
    refine ⟨_, c, rfl, fun _ => ⟨g, rfl, (World.ownsRow.lt h g rfl).2, fun i x hi => ?_⟩⟩
    have hl := (List.getElem?_eq_some_iff.1 hi).1
    have h' : W.ownsRow base 3 1 (.slice (some ⟨g, 0, none⟩) l.length c) l.length (natV l) := h
    rw [h'.cellAt i (by rw [Nat.mul_one]; exact hl)]
    simp [natV, hi]
end Go.Proofs.YtdfebccmjbocjaaGreatDoor
