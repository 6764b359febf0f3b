/- Texts of package name, for this seat. -/
import Derived.Test.YtkdflgaahhnigaaC5
import Derived.OrdersHeld
import Derived.Deep.RegionHeld
import Derived.Test.YtkdflgaahhnigaaC7
import Derived.Test.YtkdflgaahhnigaaC11
import Derived.ProofKit
import Derived.ChangeSlices
import Derived.SliceStrings
import Derived.Deep.Slices
import Derived.Deep.Fields
import Derived.ChangeSame
import Derived.Lib.SmallJoins
import Derived.ShutString
set_option linter.unusedVariables false
set_option linter.unusedSimpArgs false
namespace Go.Proofs.Ytkdflgaahhnigaa
open Go.RowKit Go.Shelf

def shB (l : List ByteArray) : Bool := decide (l.length ≤ 15) && l.all fun s => decide (s.size ≤ 40)
end Go.Proofs.Ytkdflgaahhnigaa

namespace Go.Proofs.Ytkdflgaahhnigaa
open Go.RowKit Go.Shelf

end Go.Proofs.Ytkdflgaahhnigaa

namespace Go.Proofs.Ytkdflgaahhnigaa
open Go.RowKit Go.Shelf

def bAr (p : Nat → Bool) : List Value := (List.range 256).map fun i => .bool (p i)
def memB (l : List UInt8) (j : Nat) : Bool := decide (UInt8.ofNat j ∈ l)
theorem bAr_get (p : Nat → Bool) (i : Nat) (h : i < 256) : (bAr p).toArray[i]? = some (.bool (p i)) := by simp [bAr, h]
theorem memB_u8 (l : List UInt8) (b : UInt8) : memB l b.toNat = decide (b ∈ l) := by unfold memB; rw [UInt8.ofNat_toNat]
theorem bAr_set (l : List UInt8) (b : UInt8) : (bAr (memB l)).toArray.setIfInBounds b.toNat (.bool true) = (bAr (memB (l ++ [b]))).toArray := by
  have hb := b.toNat_lt
  apply Array.ext_getElem?
  intro i
  rw [Array.getElem?_setIfInBounds]
  by_cases h : b.toNat = i
  · subst h
    rw [if_pos rfl, if_pos (by simp [bAr]; omega), bAr_get _ _ (by omega), memB_u8]
    simp
  · rw [if_neg h]
    by_cases hi : i < 256
    · rw [bAr_get _ _ hi, bAr_get _ _ hi]
      have hne : UInt8.ofNat i ≠ b := fun e => h (by rw [← e, UInt8.toNat_ofNat']; omega)
      unfold memB
      simp [hne]
    · rw [Array.getElem?_eq_none (by simp [bAr]; omega), Array.getElem?_eq_none (by simp [bAr]; omega)]
def flk (R : RB) (k : Nat) : List UInt8 := ((R.cls.map (·.data.toList)).take k).flatten
theorem flk_succ {R : RB} {k : Nat} {cl : ByteArray} (h : R.cls[k]? = some cl) : flk R (k + 1) = flk R k ++ cl.data.toList := by
  unfold flk
  rw [List.take_add_one, List.getElem?_map, h]; simp
theorem flk_fl {R : RB} {k : Nat} : ∃ t, fl R = flk R k ++ t := by
  refine ⟨((R.cls.map (·.data.toList)).drop k).flatten, ?_⟩
  unfold fl flk
  rw [← List.flatten_append, List.take_append_drop]
theorem flk_all {R : RB} {k : Nat} (h : R.cls.length ≤ k) : flk R k = fl R := by
  unfold fl flk
  rw [List.take_of_length_le (by simpa using h)]
theorem rul_dist {R : RB} {k : Nat} (h : distB (flk R k) = false) : rulB R = false := by
  obtain ⟨t, e⟩ := flk_fl (R := R) (k := k)
  unfold rulB
  rw [e, distB_pre h]; rfl
theorem rul_ev {R : RB} {k : Nat} {cl : ByteArray} (hk : R.cls[k]? = some cl) (h : evB R.soft cl = false) : rulB R = false := by
  unfold rulB
  have : R.cls.all (evB R.soft) = false := List.all_eq_false.2 ⟨cl, List.mem_of_getElem? hk, by rw [h]; simp⟩
  rw [this]; simp
theorem rul_soft {R : RB} (h : distB R.soft.data.toList = false) : rulB R = false := by
  unfold rulB
  rw [h]; simp
theorem rul_cos {R : RB} (h : cosB R = false) : rulB R = false := by
  unfold rulB
  rw [h]; simp
theorem chk_one {R : RB} (h8 : R.cls.length ≤ 8) (h : rulB R = false) : chk R = 1 := by
  unfold chk
  rw [if_neg (by omega), h]; rfl
theorem nodup_not {l : List UInt8} {i : Nat} {b : UInt8} (h : l[i]? = some b) (hm : b ∈ l.take i) : ¬ l.Nodup := by
  intro hn
  have e : l = (l.take i ++ [b]) ++ l.drop (i + 1) := by
    have := (List.getElem?_eq_some_iff.1 h)
    obtain ⟨hi, e⟩ := this
    rw [← e]; simp
  rw [e] at hn
  have h2 := (List.nodup_append.1 hn).1
  have h3 := (List.nodup_append.1 h2).2.2 b hm b (by simp)
  exact h3 rfl
theorem soft_twice {s : ByteArray} {i : Nat} {b : UInt8} (h : s.data.toList[i]? = some b) (hm : b ∈ s.data.toList.take i) : distB s.data.toList = false := by
  unfold distB
  rw [decide_eq_false (nodup_not h hm), Bool.and_false]
theorem take_snoc {l : List UInt8} {i : Nat} {b : UInt8} (h : l[i]? = some b) : l.take (i + 1) = l.take i ++ [b] := by
  rw [List.take_add_one, h]; rfl
theorem nodup_take {l : List UInt8} {i : Nat} {b : UInt8} (h : l[i]? = some b) (hn : (l.take i).Nodup) (hm : b ∉ l.take i) : (l.take (i + 1)).Nodup := by
  rw [take_snoc h, List.nodup_append]
  exact ⟨hn, by simp, fun x hx y hy e => hm (by simp at hy; rw [← hy, ← e]; exact hx)⟩
theorem get_u8 {s : ByteArray} {i : Nat} (h : i < s.size) : s.data.toList[i]? = some s[i] := by rw [List.getElem?_eq_getElem (by simpa using h)]; rfl
/-- what the classes' loop has found so far -/
def CK (R : RB) (k : Nat) : Prop := distB (flk R k) = true ∧ ∀ j cl, j < k → R.cls[j]? = some cl → evB R.soft cl = true
theorem evB_intro {s cl : ByteArray} (h0 : 0 < cl.size) (h : ∀ j (hj : j < cl.size), inS s cl[j] = inS s cl[0]) : evB s cl = true := by
  unfold evB
  rw [headD_get cl h0]
  have h1 : cl.data.toList.isEmpty = false := by
    cases e : cl.data.toList with
    | nil => have h2 : cl.data.toList.length = cl.size := by simp
             rw [e] at h2; simp at h2; omega
    | cons x t => rfl
  rw [h1, Bool.not_false, Bool.true_and, List.all_eq_true]
  intro x hx
  obtain ⟨j, hj, e⟩ := List.mem_iff_getElem.1 hx
  have := h j (by simpa using hj)
  rw [beq_iff_eq, ← e]; exact this
theorem evB_not {s cl : ByteArray} {j : Nat} (hj : j < cl.size) (h : inS s cl[j] ≠ inS s (cl[0]'(by omega))) : evB s cl = false := by
  unfold evB
  rw [headD_get cl (by omega)]
  have : (cl.data.toList.all fun b => inS s b == inS s (cl[0]'(by omega))) = false := List.all_eq_false.2 ⟨cl[j], List.getElem_mem (l := cl.data.toList) (n := j) (by simpa using hj), by simpa using h⟩
  rw [this, Bool.and_false]
theorem evB_empty {s cl : ByteArray} (h : cl.size = 0) : evB s cl = false := by
  unfold evB
  have : cl.data.toList = [] := List.eq_nil_of_length_eq_zero (by simpa using h)
  rw [this]; rfl
theorem dist_letters {l : List UInt8} {cl : ByteArray} (h : cl.data.toList.all isL = false) : distB (l ++ cl.data.toList) = false := by
  unfold distB
  rw [List.all_append, h]; simp
end Go.Proofs.Ytkdflgaahhnigaa

namespace Go.Proofs.Ytkdflgaahhnigaa
open Go.RowKit Go.Shelf

theorem chkN_long {R : RB} {l : List ByteArray} {i : Nat} {s : ByteArray} (h : l[i]? = some s) (h2 : ¬ s.size ≤ 12) : chkN R l = 3 := by
  unfold chkN
  have : (l.all fun s => decide (s.size ≤ 12)) = false := List.all_eq_false.2 ⟨s, List.mem_of_getElem? h, by simpa using h2⟩
  rw [if_pos (.inr this)]
theorem chkN_short {R : RB} {l : List ByteArray} (h : ∀ (i : Nat) (s : ByteArray), l[i]? = some s → s.size ≤ 12) : chkN R l = if chk R = 0 then (if l.all spB then 0 else 4) else chk R := by
  unfold chkN chk
  have : (l.all fun s => decide (s.size ≤ 12)) = true := List.all_eq_true.2 fun s hs => by
    obtain ⟨i, hi, e⟩ := List.mem_iff_getElem.1 hs
    have := h i s (by rw [List.getElem?_eq_getElem hi, e])
    simpa using this
  rw [this]
  by_cases h8 : 8 < R.cls.length
  · rw [if_pos h8, if_pos (.inl h8)]; rfl
  · rw [if_neg h8, if_neg (by simpa using h8)]
    cases rulB R <;> rfl
theorem spB_not_empty {s : ByteArray} (h : s.size = 0) : spB s = false := by
  unfold spB
  have : s.data.toList = [] := List.eq_nil_of_length_eq_zero (by simpa using h)
  rw [this]; rfl
theorem spB_pos {s : ByteArray} (h : 0 < s.size) : spB s = s.data.toList.all isL := by
  unfold spB
  have h1 : s.data.toList.isEmpty = false := by
    cases e : s.data.toList with
    | nil => have h2 : s.data.toList.length = s.size := by simp
             rw [e] at h2; simp at h2; omega
    | cons x t => rfl
  rw [h1]; rfl
end Go.Proofs.Ytkdflgaahhnigaa

namespace Go.Proofs.Ytkdflgaahhnigaa
open Go.RowKit Go.Shelf

def thinB (R : RB) (l : List ByteArray) : Bool := shB R.cls && (decide (R.soft.size ≤ 40) && shB l)
def readyB (R : RB) (l : List ByteArray) : Bool := thinB R l && decide (chkN R l = 0)
theorem shB_len {l : List ByteArray} (h : shB l = true) : l.length ≤ 15 ∧ ∀ s, s ∈ l → s.size ≤ 40 := by
  simp only [shB, Bool.and_eq_true, decide_eq_true_eq, List.all_eq_true] at h
  exact h
theorem thin_thn {R : RB} {l : List ByteArray} (h : thinB R l = true) : Thn R := by
  simp only [thinB, Bool.and_eq_true, decide_eq_true_eq] at h
  obtain ⟨h1, h2⟩ := shB_len h.1
  exact ⟨by omega, fun c hc => by have := h2 c hc; omega, by have := h.2.1; omega⟩
theorem thin_l {R : RB} {l : List ByteArray} (h : thinB R l = true) : l.length ≤ 15 ∧ ∀ s, s ∈ l → s.size ≤ 40 := by
  simp only [thinB, Bool.and_eq_true] at h
  exact shB_len h.2.2
def HypL (w : World) (a : Option Addr) (g o : Nat) (n : Nat) (l : List ByteArray) : Prop := l.length = n ∧ SK w a g o l
end Go.Proofs.Ytkdflgaahhnigaa

namespace Go.Proofs.Ytkdflgaahhnigaa
open Go.RowKit Go.Shelf

end Go.Proofs.Ytkdflgaahhnigaa

namespace Go.Proofs.Ytkdflgaahhnigaa
open Go.RowKit Go.Shelf

theorem SK.grown {W W' : World} {a : Option Addr} {g o B : Nat} {l : List ByteArray} (h : SK W a g o l) (hg : W.grownBy W' (some B)) (hne : l ≠ [] → g ≠ B) : SK W' a g o l := by
  refine ⟨h.1, fun i s e => ?_, fun hx => Nat.lt_of_lt_of_le (h.2.2 hx) hg.size⟩
  have hx : l ≠ [] := by rintro e2; rw [e2] at e; simp at e
  have hb := hg.block g (h.2.2 hx) (by simpa using hne hx)
  have := h.2.1 i s e
  simpa [World.cell?, hb] using this
theorem own_le {W : World} {B n c : Nat} {e : TypeId} {xs : List Value} {p : Option Addr} (h : W.ownsRow B e 1 (.slice p n c) n xs) : n ≤ c := by
  rcases h.2 with ⟨h1, h2⟩ | ⟨k, cap, cs, h1, h2⟩
  · cases h1; omega
  · cases h1; omega
end Go.Proofs.Ytkdflgaahhnigaa

namespace Go.Proofs.Ytkdflgaahhnigaa
open Go.RowKit Go.Shelf Go.Joins Go.ChangeShapes Go.WideShapes Go.Deep

section
variable {H : Type} {enc : TypeId × Value → H} {P : Program} {w : World} {base : Nat} {spare : Nat → Bool} {held : Bool}
theorem open_agg7 {r : Reach} {b0 : Nat} {t : TypeId} {f0 f1 f2 f3 f4 f5 f6 : Field} {v : Value} {d : DataW H} {p : List MemPlace} (hs : P.underlying t = some (.struct #[f0, f1, f2, f3, f4, f5, f6])) (hone : oneCellFields P #[f0, f1, f2, f3, f4, f5, f6] = true) (hC : P.cellsOf t = 7)
    (hv : Value.okWide P w r b0 t v) (h : DataW.Trod enc P w base spare held t v d p) :
    ∃ (v0 v1 v2 v3 v4 v5 v6 : Value) (y0 y1 y2 y3 y4 y5 y6 : DataW H × List MemPlace) (n : Nat), v = .agg #[v0, v1, v2, v3, v4, v5, v6] ∧ d = .agg [y0.1, y1.1, y2.1, y3.1, y4.1, y5.1, y6.1] ∧ p = y0.2 ++ (y1.2 ++ (y2.2 ++ (y3.2 ++ (y4.2 ++ (y5.2 ++ y6.2))))) ∧
      DataW.trod enc P w base spare held n f0.type [v0] = some y0 ∧ DataW.trod enc P w base spare held n f1.type [v1] = some y1 ∧ DataW.trod enc P w base spare held n f2.type [v2] = some y2 ∧ DataW.trod enc P w base spare held n f3.type [v3] = some y3 ∧ DataW.trod enc P w base spare held n f4.type [v4] = some y4 ∧ DataW.trod enc P w base spare held n f5.type [v5] = some y5 ∧ DataW.trod enc P w base spare held n f6.type [v6] = some y6 := by
  obtain ⟨cs, rfl, hsz⟩ := okWide_struct hs hv
  obtain ⟨l⟩ := cs
  match l, hsz.trans hC with
  | [c0, c1, c2, c3, c4, c5, c6], _ =>
    obtain ⟨fuel, hf⟩ := h
    obtain ⟨xs, n, _, hx, _, hlen, hg⟩ := DataW.trod_struct hs hf
    obtain ⟨o0, k0⟩ := hone_of hone 0 f0 rfl
    obtain ⟨o1, k1⟩ := hone_of hone 1 f1 rfl
    obtain ⟨o2, k2⟩ := hone_of hone 2 f2 rfl
    obtain ⟨o3, k3⟩ := hone_of hone 3 f3 rfl
    obtain ⟨o4, k4⟩ := hone_of hone 4 f4 rfl
    obtain ⟨o5, k5⟩ := hone_of hone 5 f5 rfl
    obtain ⟨o6, k6⟩ := hone_of hone 6 f6 rfl
    match xs, hlen with
    | [y0, y1, y2, y3, y4, y5, y6], _ =>
      simp only [Prod.mk.injEq] at hx
      exact ⟨c0, c1, c2, c3, c4, c5, c6, y0, y1, y2, y3, y4, y5, y6, n, rfl, by simpa using hx.1, by simpa using hx.2, by simpa [Value.cells, o0, k0] using hg 0 f0 rfl, by simpa [Value.cells, o1, k1] using hg 1 f1 rfl, by simpa [Value.cells, o2, k2] using hg 2 f2 rfl, by simpa [Value.cells, o3, k3] using hg 3 f3 rfl, by simpa [Value.cells, o4, k4] using hg 4 f4 rfl, by simpa [Value.cells, o5, k5] using hg 5 f5 rfl, by simpa [Value.cells, o6, k6] using hg 6 f6 rfl⟩
end
section
variable {H : Type} {enc : TypeId × Value → H} {w : World} {base : Nat} {spare : Nat → Bool} {held : Bool}
theorem row_of_strs {fuel : Nat} {v : Value} {x : DataW H × List MemPlace} (h : DataW.trod enc Try.prog w base spare held fuel 25 [v] = some x) :
    ∃ (a : Option Addr) (n c g o : Nat) (l : List ByteArray), v = .slice a n c ∧ SKn w a g o c n l ∧ n ≤ c := by
  rcases open_strings Try.underlying25 Try.underlying9 (by kernel_rfl) h with ⟨hcs, _⟩ | ⟨x, len, cap, ss, hcs, _, hl, hm, hz, _, hcell, _⟩
  · simp at hcs
    exact ⟨none, 0, 0, 0, 0, [], hcs, skn_nil w, Nat.le_refl _⟩
  · simp at hcs
    subst hcs
    have hzl : len ≤ ss.length := by rw [hz]; split <;> omega
    have hlen : (ss.take len).length = len := by simp; omega
    by_cases h0 : len = 0
    · subst h0
      exact ⟨some x, 0, cap, 0, 0, [], rfl, ⟨rfl, ⟨fun h => absurd rfl h, fun i a e => by simp at e, fun h => absurd rfl h⟩, fun h => by cases h⟩, hl⟩
    · obtain ⟨b, o, sp⟩ := x
      have hc0 := hcell 0 (by omega)
      have hsp : sp = none := by simpa [Addr.add] using World.cell?_spot hc0
      subst hsp
      have hlt := World.block_lt_of_cell? w _ hc0
      refine ⟨_, len, cap, b, o, ss.take len, rfl, ⟨hlen, ⟨fun _ => rfl, fun i s e => ?_, fun _ => by simpa [Addr.add] using hlt⟩, fun h => by cases h⟩, hl⟩
      have hi : i < len := by have := (List.getElem?_eq_some_iff.1 e).1; omega
      have h1 := hcell i (by omega)
      rw [List.getElem?_take, if_pos hi] at e
      rw [List.getD_eq_getElem?_getD, e] at h1
      by_cases hj : i = 0
      · subst hj; simpa [Addr.add] using h1
      · simpa [Addr.add, hj] using h1
end
/-- no more names, no fewer rules -/
theorem chkN_intro {R : RB} {l : List ByteArray} (hg : Good R) (h : ∀ x, x ∈ l → x.size ≤ 12 ∧ spB x = true) : chkN R l = 0 := by
  unfold chkN
  have h1 : (l.all fun s => decide (s.size ≤ 12)) = true := List.all_eq_true.2 fun x hx => by simpa using (h x hx).1
  have h2 : l.all spB = true := List.all_eq_true.2 fun x hx => (h x hx).2
  have := hg.n8
  rw [h1, h2, hg.rul, if_neg (by simp; omega)]; rfl
theorem chkN_sub {R : RB} {l l' : List ByteArray} (h : chkN R l = 0) (hs : ∀ x, x ∈ l' → x ∈ l) : chkN R l' = 0 := by
  obtain ⟨hg, hl⟩ := chkN_ok h
  exact chkN_intro hg fun x hx => hl x (hs x hx)
theorem ready_parts {R : RB} {l : List ByteArray} (h : readyB R l = true) : Thn R ∧ R.cls.length ≤ 15 ∧ chkN R l = 0 ∧ l.length ≤ 15 ∧ ∀ s, s ∈ l → s.size ≤ 12 := by
  simp only [readyB, Bool.and_eq_true, decide_eq_true_eq] at h
  have h1 := h.1
  simp only [thinB, Bool.and_eq_true] at h1
  exact ⟨thin_thn h.1, (shB_len h1.1).1, h.2, (thin_l h.1).1, fun s hs => ((chkN_ok h.2).2 s hs).1⟩
end Go.Proofs.Ytkdflgaahhnigaa
