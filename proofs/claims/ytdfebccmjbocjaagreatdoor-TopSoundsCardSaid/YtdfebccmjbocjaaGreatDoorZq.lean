/- sheet: the iterator over the groups of a set: its contract. -/
import Derived.Test.YtdfebccmjbocjaaGreatDoorZl
import Derived.Test.YtdfebccmjbocjaaGreatDoorZo
import Derived.RangeFuncNested
import Derived.RangeFuncKeeps
import Derived.RangeFuncCalls
import Derived.RangeFuncLeaves
import Derived.RangeFuncBox
set_option linter.unusedVariables false
set_option linter.unusedSimpArgs false
namespace Go.Proofs.YtdfebccmjbocjaaGreatDoor
open Go.RowKit Go.Shelf
attribute [local go_sem] Oper.semAt_some

/-- what a round keeps: whatever is cells, but for the table of block g -/
def KpG (g : Nat) (W W' : World) : Prop := (∀ (k : Nat) (ob : Obj), k ≠ g → W.heap[k]? = some ob → ob.isCells = true → W'.heap[k]? = some ob) ∧ (∀ cs, Blk W g cs 107 → ∃ cs', Blk W' g cs' 107 ∧ ∀ j, j < 1024 → cs'[8 + j]? = cs[8 + j]?)
section
variable {g : Nat} {W W' W'' : World}
theorem KpG.trans (h : KpG g W W') (k : KpG g W' W'') : KpG g W W'' := ⟨fun b ob hb h1 h2 => k.1 b ob hb (h.1 b ob hb h1 h2) h2, fun cs h1 => by
  obtain ⟨cs1, h2, h3⟩ := h.2 cs h1
  obtain ⟨cs2, h4, h5⟩ := k.2 cs1 h2
  exact ⟨cs2, h4, fun j hj => (h5 j hj).trans (h3 j hj)⟩⟩
theorem KpG.below (h : Below W.heap.size W W') : KpG g W W' := ⟨fun b ob _ hb _ => (h.block b (Array.getElem?_eq_some_iff.1 hb).1).trans hb, fun cs hb => ⟨cs, hb.b h, fun _ _ => rfl⟩⟩
theorem KpG.putObj (l : Nat) (ob ob' : Obj) (h : W.heap[l]? = some ob) (hc : ob.isCells = false) : KpG g W (W.putObj l ob') := by
  have key : ∀ (b : Nat) (o2 : Obj), W.heap[b]? = some o2 → o2.isCells = true → (W.putObj l ob').heap[b]? = some o2 := fun b o2 hb h2 => by
    have hne : b ≠ l := by rintro rfl; rw [h] at hb; cases hb; rw [hc] at h2; cases h2
    exact (World.putObj_heap_other hne).trans hb
  exact ⟨fun b o2 _ hb h2 => key b o2 hb h2, fun cs hb => ⟨cs, key g _ hb rfl, fun _ _ => rfl⟩⟩
theorem KpG.setL {i : Nat} (v : Value) : KpG g W (W.setCell ⟨g, 1032 + i, none⟩ v) := ⟨fun b ob hb h1 _ => (Below.heap_setCell W ⟨g, 1032 + i, none⟩ v b hb).trans h1, fun cs hb => ⟨_, hb.set (1032 + i) v, fun j hj => by
  rw [Array.getElem?_setIfInBounds, if_neg (by omega)]⟩⟩
theorem KpG.blk (h : KpG g W W') {b : Nat} {cs : Array Value} {t : TypeId} (hb : Blk W b cs t) (hne : b ≠ g) : Blk W' b cs t := h.1 b _ hne hb rfl
end
/-- what the iterator reads -/
structure GR (W : World) (g Bs Bp s : Nat) (one : Nat → Bool) : Prop where
  bs : Blk W Bs #[.int .u64 (s : Int)] 109
  bp : Blk W Bp #[.pointer (some ⟨g, 0, none⟩)] 95
  wk : ∃ cs, Blk W g cs 107 ∧ ∀ j, j < 1024 → cs[8 + j]? = some (.bool (one j))
section
variable {g Bs Bp s : Nat} {one : Nat → Bool} {W W' : World}
theorem GR.below (h : GR W g Bs Bp s one) (hb : Below W.heap.size W W') : GR W' g Bs Bp s one := ⟨h.bs.b hb, h.bp.b hb, by
  obtain ⟨cs, h1, h2⟩ := h.wk
  exact ⟨cs, h1.b hb, h2⟩⟩
theorem GR.kept (h : GR W g Bs Bp s one) (hk : KpG g W W') (h1 : Bs ≠ g) (h2 : Bp ≠ g) : GR W' g Bs Bp s one := ⟨hk.blk h.bs h1, hk.blk h.bp h2, by
  obtain ⟨cs, h3, h4⟩ := h.wk
  obtain ⟨cs', h5, h6⟩ := hk.2 cs h3
  exact ⟨cs', h5, fun j hj => (h6 j hj).trans (h4 j hj)⟩⟩
theorem GR.cell (h : GR W g Bs Bp s one) {j : Nat} (hj : j < 1024) : W.cell? ⟨g, 8 + j, none⟩ = some (.bool (one j)) := by
  obtain ⟨cs, h1, h2⟩ := h.wk
  exact (h1.cell _).trans (h2 j hj)
theorem GR.lt (h : GR W g Bs Bp s one) : g < W.heap.size := by
  obtain ⟨cs, h1, _⟩ := h.wk
  exact h1.lt
end
theorem groups_any (g : Nat) (s : Nat) (w : World) : Calls Tryz.prog 104 #[.pointer (some ⟨g, 0, none⟩), .int .u64 (s : Int)] w fun e w' => e = .returned (.func (.func 143) #[] #[.pointer (some ⟨w.heap.size + 1, 0, none⟩), .pointer (some ⟨w.heap.size, 0, none⟩)]) ∧ (w.alloc (.cells #[.pointer (some ⟨g, 0, none⟩)] 95)).alloc (.cells #[.int .u64 (s : Int)] 109) = w' := by
  go_enter Tryz.func104, Tryz.ntmps104
  go_wp2
  go_ret
  exact ⟨rfl, rfl⟩
theorem andNot_nat (a b : Nat) (ha : a < 1024) (hb : b < 1024) (hs : ∀ k, b.testBit k = true → a.testBit k = true) : bits BinOp.andNot IntKind.u64 (a : Int) (b : Int) = ((a ^^^ b : Nat) : Int) := by
  have hx : a ^^^ b < 2 ^ 10 := Nat.xor_lt_two_pow (by omega) (by omega)
  have key : (BitVec.ofInt 64 (a : Int) &&& ~~~(BitVec.ofInt 64 (b : Int))).toNat = a ^^^ b := by
    apply Nat.eq_of_testBit_eq
    intro i
    rw [BitVec.testBit_toNat, BitVec.ofInt_natCast, BitVec.ofInt_natCast, BitVec.getLsbD_and, BitVec.getLsbD_not, BitVec.getLsbD_ofNat, BitVec.getLsbD_ofNat, Nat.testBit_xor]
    by_cases hi : i < 64
    · simp only [hi, decide_true, Bool.true_and]
      cases hbi : b.testBit i with
      | true => rw [hs i hbi]; rfl
      | false => cases a.testBit i <;> rfl
    · have h1 : a.testBit i = false := Nat.testBit_lt_two_pow (Nat.lt_of_lt_of_le ha (Nat.pow_le_pow_right (n := 2) (by omega) (show 10 ≤ i by omega)))
      have h2 : b.testBit i = false := Nat.testBit_lt_two_pow (Nat.lt_of_lt_of_le hb (Nat.pow_le_pow_right (n := 2) (by omega) (show 10 ≤ i by omega)))
      simp [hi, h1, h2]
  show IntKind.u64.wrap ((BitVec.ofInt 64 (a : Int) &&& ~~~(BitVec.ofInt 64 (b : Int))).toNat : Int) = _
  rw [key]
  exact IntWalk.u64_in _ (by omega)
theorem low_key (s : Nat) (hs : s < 1024) : bits BinOp.and IntKind.u64 (s : Int) (IntKind.u64.wrap (-(s : Int))) = ((Sh.low s : Nat) : Int) := by
  by_cases h0 : s = 0
  · subst h0; decide
  have e1 : IntKind.u64.wrap (-(s : Int)) = ((18446744073709551616 - s : Nat) : Int) := by rw [IntKind.wrap_u64]; omega
  rw [e1, bits_and_u64_nat s _ (by omega) (by omega)]
  rfl
theorem low_le (s : Nat) (hs : s < 1024) : Sh.low s ≤ s ∧ (∀ k, (Sh.low s).testBit k = true → s.testBit k = true) ∧ restOf s ≤ s := by
  by_cases h0 : s = 0
  · subst h0; refine ⟨by decide, fun k hk => ?_, by decide⟩
    have : Sh.low 0 = 0 := by decide
    rw [this] at hk; simp at hk
  obtain ⟨k0, hk0, hlow, hb⟩ := Sh.low_of (by omega) hs
  have h1 : ∀ k, (Sh.low s).testBit k = true → s.testBit k = true := fun k hk => by
    rw [hlow, Nat.testBit_two_pow] at hk
    rw [← of_decide_eq_true hk]; exact hb
  refine ⟨Nat.le_of_testBit h1, h1, Nat.le_of_testBit fun k hk => ?_⟩
  unfold restOf at hk
  rw [Nat.testBit_xor, hlow] at hk
  by_cases hkk : k = k0
  · rw [hkk]; exact hb
  · rw [Nat.testBit_two_pow_of_ne (by omega), Bool.xor_false] at hk; exact hk
abbrev GEl (one : Nat → Bool) (s : Nat) := { t : Nat // t ∈ gSeq one s }
theorem gFilt_cons (one : Nat → Bool) (f t : Nat) (l : List Nat) : gFilt one f (t :: l) = (if one (t ||| f) then [t ||| f] else []) ++ gFilt one f l := by
  unfold gFilt
  rw [List.filter_cons]
  split <;> simp
theorem subsF_step (r k s : Nat) (hk : s < k) : subsF r k s = s :: if s = 0 then [] else subsF r (k - 1) ((s - 1) &&& r) := by
  obtain ⟨k', rfl⟩ : ∃ k', k = k' + 1 := ⟨k - 1, by omega⟩
  rfl
theorem gSeq_len (one : Nat → Bool) (s : Nat) : (gSeq one s).length ≤ 1025 := by
  have h1 : ∀ (k s' : Nat), (subsF (restOf s) k s').length ≤ k := by
    intro k
    induction k with
    | zero => intro s'; simp [subsF]
    | succ k ih =>
      intro s'
      unfold subsF
      split
      · simp
      · simp only [List.length_cons]; have := ih ((s' - 1) &&& restOf s); omega
  unfold gSeq gFilt
  rw [List.length_map]
  exact Nat.le_trans (List.length_filter_le _ _) (h1 _ _)
theorem gSeq_lt {one : Nat → Bool} {s g : Nat} (hs : s < 1024) (h : g ∈ gSeq one s) : g ≤ s := by
  obtain ⟨t, ht, _, rfl⟩ := gSeq_of h
  obtain ⟨_, h2, _⟩ := low_le s hs
  refine Nat.le_of_testBit fun k hk => ?_
  rw [Nat.testBit_or, Bool.or_eq_true] at hk
  rcases hk with hk | hk
  · have h3 := congrArg (fun x => x.testBit k) ht
    simp only [restOf, Nat.testBit_and, Nat.testBit_xor, hk, Bool.true_and] at h3
    cases hsk : s.testBit k with
    | true => rfl
    | false =>
      have h4 : (Sh.low s).testBit k = false := by
        cases hl : (Sh.low s).testBit k with
        | false => rfl
        | true => rw [h2 k hl] at hsk; cases hsk
      rw [hsk, h4] at h3; cases h3
  · exact h2 k hk
end Go.Proofs.YtdfebccmjbocjaaGreatDoor
