/- A list that is short enough for a law. The reference's letters. The reference's error of rules. The reference's error of rules with names; the laws' own. What the laws ask of rules and names; copies of rules. A copy of a list. Copies of rules; the laws' error of a list. Arguments that came in, opened: rules, lists of strings. -/
import Derived.Test.YtkdflgaahhnigaaGreatC5
import Derived.OrdersHeld
import Derived.Deep.RegionHeld
import Derived.Test.YtkdflgaahhnigaaGreatC7
import Derived.Test.YtkdflgaahhnigaaGreatC11
import Derived.ProofKit
import Derived.ChangeSlices
import Derived.SliceStrings
import Derived.Deep.Slices
import Derived.Deep.Fields
import Derived.ChangeSame
import Derived.Lib.SmallJoins
import Derived.ShutString
set_option linter.unusedVariables false
set_option linter.unusedSimpArgs false
namespace Go.Proofs.YtkdflgaahhnigaaGreat
open Go.RowKit Go.Shelf

def shB (l : List ByteArray) : Bool := decide (l.length ≤ 15) && l.all fun s => decide (s.size ≤ 40)
set_option maxRecDepth 100000 in
set_option maxHeartbeats 1000000 in
theorem short48 (a : Option Addr) (g o c n : Nat) (l : List ByteArray) (w : World) (hM : l.length = n) (hk : SK w a g o l) : Calls Tryz.prog 48 #[.slice a n c] w fun e w' => e = .returned (.bool (shB l)) ∧ w' = w := by
  have HK := Lib.hid hk
  have HM := Lib.hid hM
  clear hk
  generalize hB : shB l = B
  have HB := Lib.hid hB
  clear hB hM
  go_enter Tryz.func48, Tryz.ntmps48
  go_wp2_with fail
  go_loopw [3] (fun y wr => wr = w ∧ ∃ i : Nat, i ≤ n ∧ i ≤ 16 ∧ y = .int .i64 (i : Int) ∧ Hid (∀ j s, j < i → l[j]? = some s → s.size ≤ 40)) (fun y _ => 16 - (intOf y).toNat)
  case atStart => exact ⟨rfl, 0, Nat.zero_le _, by omega, rfl, fun j s h => by omega⟩
  case round =>
    obtain ⟨hw, i, hi1, hi2, rfl, HS⟩ := hrel
    replace hw := hw.symm
    subst hw
    by_cases hin : i < n
    · by_cases h16 : i < 16
      · obtain ⟨s, hs⟩ : ∃ s, l[i]? = some s := ⟨l[i]'(by rw [HM.out]; exact hin), by simp⟩
        have hne : l ≠ [] := by rintro e; rw [e] at hs; simp at hs
        have e1 := HK.out.1 hne
        subst e1
        have k0 := HK.out.2.1 i s hs
        by_cases h40 : s.size ≤ 40
        · have p1 : ¬ (40 : Int) < (s.size : Int) := by omega
          have HS2 := Lib.hid (show ∀ j t, j < i + 1 → l[j]? = some t → t.size ≤ 40 from fun j t hj ht => by
            rcases Nat.lt_or_ge j i with h | h
            · exact HS.out j t h ht
            · obtain rfl : j = i := by omega
              rw [hs] at ht; cases ht; exact h40)
          clear hs hne
          go_wp2_with fail
          go_roundw
          case rel => exact ⟨by trivial, i + 1, by omega, by omega, by go_num, HS2.out⟩
          case measure => simp [intOf]; omega
        · have p1 : (40 : Int) < (s.size : Int) := by omega
          have hB : B = false := by
            rw [← HB.out]
            unfold shB
            have : (l.all fun s => decide (s.size ≤ 40)) = false := List.all_eq_false.2 ⟨s, List.mem_of_getElem? hs, by simpa using h40⟩
            rw [this, Bool.and_false]
          subst hB
          clear hs hne
          go_wp2_with fail
          go_ret
          exact ⟨rfl, rfl⟩
      · have hB : B = false := by
          rw [← HB.out]
          unfold shB
          rw [show decide (l.length ≤ 15) = false by simp; have := HM.out; omega, Bool.false_and]
        subst hB
        have p1 : ¬ (i : Int) < 16 := by omega
        have p2 : ¬ (n : Int) ≤ 15 := by omega
        go_wp2_with fail
        go_ret
        exact ⟨rfl, rfl⟩
    · obtain rfl : i = n := by omega
      have hall : (l.all fun s => decide (s.size ≤ 40)) = true := List.all_eq_true.2 fun s hs => by
        obtain ⟨j, hj, e⟩ := List.mem_iff_getElem.1 hs
        have := HS.out j s (by rw [← HM.out]; exact hj) (by rw [List.getElem?_eq_getElem hj, e])
        simpa using this
      have hB2 : B = decide ((i : Int) ≤ 15) := by
        rw [← HB.out]
        unfold shB
        rw [hall, Bool.and_true, HM.out, decide_eq_decide]
        omega
      have HB2 := Lib.hid hB2
      clear hB2 hall
      go_wp2_with fail
      go_ret
      exact ⟨by rw [HB2.out]; rfl, rfl⟩
end Go.Proofs.YtkdflgaahhnigaaGreat

namespace Go.Proofs.YtkdflgaahhnigaaGreat
open Go.RowKit Go.Shelf

set_option maxRecDepth 100000 in
set_option maxHeartbeats 1000000 in
theorem letters61 (s : ByteArray) (hs : s.size ≤ 1000) (w : World) : Calls Tryz.prog 61 #[.string s] w fun e w' => e = .returned (.bool (s.data.toList.all isL)) ∧ w' = w := by
  generalize hB : s.data.toList.all isL = B
  have HB := Lib.hid hB
  clear hB
  go_enter Tryz.func61, Tryz.ntmps61
  go_wp2_with fail
  go_loopw [3] (fun y wr => wr = w ∧ ∃ i : Nat, i ≤ s.size ∧ y = .int .i64 (i : Int) ∧ Hid (∀ j (h : j < s.size), j < i → isL s[j] = true)) (fun y _ => s.size - (intOf y).toNat)
  case atStart => exact ⟨rfl, 0, Nat.zero_le _, rfl, fun j s h => by omega⟩
  case round =>
    obtain ⟨hw, i, hi1, rfl, HS⟩ := hrel
    replace hw := hw.symm
    subst hw
    by_cases hin : i < s.size
    · by_cases hL : isL s[i] = true
      · have hL2 := hL
        simp only [isL, decide_eq_true_eq] at hL2
        have p1 : ¬ (s[i].toNat : Int) < 65 := by omega
        have p2 : ¬ (90 : Int) < (s[i].toNat : Int) := by omega
        have HS2 := Lib.hid (show ∀ j (h : j < s.size), j < i + 1 → isL s[j] = true from fun j h hj => by
          rcases Nat.lt_or_ge j i with h2 | h2
          · exact HS.out j h h2
          · obtain rfl : j = i := by omega
            exact hL)
        clear hL hL2
        go_wp2_with fail
        go_roundw
        case rel => exact ⟨by trivial, i + 1, by omega, by go_num, HS2.out⟩
        case measure => simp [intOf]; omega
      · have hL2 := hL
        simp only [isL, decide_eq_true_eq] at hL2
        have hB : B = false := by
          rw [← HB.out]
          refine List.all_eq_false.2 ⟨s[i], ?_, hL⟩
          exact List.getElem_mem (l := s.data.toList) (n := i) (by simpa using hin)
        subst hB
        by_cases h65 : s[i].toNat < 65
        · have p1 : (s[i].toNat : Int) < 65 := by omega
          clear hL hL2
          go_wp2_with fail
          go_ret
          exact ⟨rfl, rfl⟩
        · have p1 : ¬ (s[i].toNat : Int) < 65 := by omega
          have p2 : (90 : Int) < (s[i].toNat : Int) := by omega
          clear hL hL2
          go_wp2_with fail
          go_ret
          exact ⟨rfl, rfl⟩
    · have hB : B = true := by
        rw [← HB.out]
        refine List.all_eq_true.2 fun x hx => ?_
        obtain ⟨j, hj, e⟩ := List.mem_iff_getElem.1 hx
        have := HS.out j (by simpa using hj) (by have : j < s.size := by simpa using hj
                                                 omega)
        rw [← e]; exact this
      subst hB
      go_wp2_with fail
      go_ret
      exact ⟨rfl, rfl⟩
end Go.Proofs.YtkdflgaahhnigaaGreat

namespace Go.Proofs.YtkdflgaahhnigaaGreat
open Go.RowKit Go.Shelf

def bAr (p : Nat → Bool) : List Value := (List.range 256).map fun i => .bool (p i)
def memB (l : List UInt8) (j : Nat) : Bool := decide (UInt8.ofNat j ∈ l)
theorem bAr_get (p : Nat → Bool) (i : Nat) (h : i < 256) : (bAr p).toArray[i]? = some (.bool (p i)) := by simp [bAr, h]
theorem memB_u8 (l : List UInt8) (b : UInt8) : memB l b.toNat = decide (b ∈ l) := by unfold memB; rw [UInt8.ofNat_toNat]
theorem bAr_set (l : List UInt8) (b : UInt8) : (bAr (memB l)).toArray.setIfInBounds b.toNat (.bool true) = (bAr (memB (l ++ [b]))).toArray := by
  have hb := b.toNat_lt
  apply Array.ext_getElem?
  intro i
  rw [Array.getElem?_setIfInBounds]
  by_cases h : b.toNat = i
  · subst h
    rw [if_pos rfl, if_pos (by simp [bAr]; omega), bAr_get _ _ (by omega), memB_u8]
    simp
  · rw [if_neg h]
    by_cases hi : i < 256
    · rw [bAr_get _ _ hi, bAr_get _ _ hi]
      have hne : UInt8.ofNat i ≠ b := fun e => h (by rw [← e, UInt8.toNat_ofNat']; omega)
      unfold memB
      simp [hne]
    · rw [Array.getElem?_eq_none (by simp [bAr]; omega), Array.getElem?_eq_none (by simp [bAr]; omega)]
theorem zeros256 : Tryz.zeroCells100 = (bAr (memB [])).toArray := by kernel_rfl
def flk (R : RB) (k : Nat) : List UInt8 := ((R.cls.map (·.data.toList)).take k).flatten
theorem flk_succ {R : RB} {k : Nat} {cl : ByteArray} (h : R.cls[k]? = some cl) : flk R (k + 1) = flk R k ++ cl.data.toList := by
  unfold flk
  rw [List.take_add_one, List.getElem?_map, h]; simp
theorem flk_fl {R : RB} {k : Nat} : ∃ t, fl R = flk R k ++ t := by
  refine ⟨((R.cls.map (·.data.toList)).drop k).flatten, ?_⟩
  unfold fl flk
  rw [← List.flatten_append, List.take_append_drop]
theorem flk_all {R : RB} {k : Nat} (h : R.cls.length ≤ k) : flk R k = fl R := by
  unfold fl flk
  rw [List.take_of_length_le (by simpa using h)]
theorem rul_dist {R : RB} {k : Nat} (h : distB (flk R k) = false) : rulB R = false := by
  obtain ⟨t, e⟩ := flk_fl (R := R) (k := k)
  unfold rulB
  rw [e, distB_pre h]; rfl
theorem rul_ev {R : RB} {k : Nat} {cl : ByteArray} (hk : R.cls[k]? = some cl) (h : evB R.soft cl = false) : rulB R = false := by
  unfold rulB
  have : R.cls.all (evB R.soft) = false := List.all_eq_false.2 ⟨cl, List.mem_of_getElem? hk, by rw [h]; simp⟩
  rw [this]; simp
theorem rul_soft {R : RB} (h : distB R.soft.data.toList = false) : rulB R = false := by
  unfold rulB
  rw [h]; simp
theorem rul_cos {R : RB} (h : cosB R = false) : rulB R = false := by
  unfold rulB
  rw [h]; simp
theorem chk_one {R : RB} (h8 : R.cls.length ≤ 8) (h : rulB R = false) : chk R = 1 := by
  unfold chk
  rw [if_neg (by omega), h]; rfl
theorem nodup_not {l : List UInt8} {i : Nat} {b : UInt8} (h : l[i]? = some b) (hm : b ∈ l.take i) : ¬ l.Nodup := by
  intro hn
  have e : l = (l.take i ++ [b]) ++ l.drop (i + 1) := by
    have := (List.getElem?_eq_some_iff.1 h)
    obtain ⟨hi, e⟩ := this
    rw [← e]; simp
  rw [e] at hn
  have h2 := (List.nodup_append.1 hn).1
  have h3 := (List.nodup_append.1 h2).2.2 b hm b (by simp)
  exact h3 rfl
theorem soft_twice {s : ByteArray} {i : Nat} {b : UInt8} (h : s.data.toList[i]? = some b) (hm : b ∈ s.data.toList.take i) : distB s.data.toList = false := by
  unfold distB
  rw [decide_eq_false (nodup_not h hm), Bool.and_false]
theorem take_snoc {l : List UInt8} {i : Nat} {b : UInt8} (h : l[i]? = some b) : l.take (i + 1) = l.take i ++ [b] := by
  rw [List.take_add_one, h]; rfl
theorem nodup_take {l : List UInt8} {i : Nat} {b : UInt8} (h : l[i]? = some b) (hn : (l.take i).Nodup) (hm : b ∉ l.take i) : (l.take (i + 1)).Nodup := by
  rw [take_snoc h, List.nodup_append]
  exact ⟨hn, by simp, fun x hx y hy e => hm (by simp at hy; rw [← hy, ← e]; exact hx)⟩
theorem get_u8 {s : ByteArray} {i : Nat} (h : i < s.size) : s.data.toList[i]? = some s[i] := by rw [List.getElem?_eq_getElem (by simpa using h)]; rfl
/-- what the classes' loop has found so far -/
def CK (R : RB) (k : Nat) : Prop := distB (flk R k) = true ∧ ∀ j cl, j < k → R.cls[j]? = some cl → evB R.soft cl = true
theorem evB_intro {s cl : ByteArray} (h0 : 0 < cl.size) (h : ∀ j (hj : j < cl.size), inS s cl[j] = inS s cl[0]) : evB s cl = true := by
  unfold evB
  rw [headD_get cl h0]
  have h1 : cl.data.toList.isEmpty = false := by
    cases e : cl.data.toList with
    | nil => have h2 : cl.data.toList.length = cl.size := by simp
             rw [e] at h2; simp at h2; omega
    | cons x t => rfl
  rw [h1, Bool.not_false, Bool.true_and, List.all_eq_true]
  intro x hx
  obtain ⟨j, hj, e⟩ := List.mem_iff_getElem.1 hx
  have := h j (by simpa using hj)
  rw [beq_iff_eq, ← e]; exact this
theorem evB_not {s cl : ByteArray} {j : Nat} (hj : j < cl.size) (h : inS s cl[j] ≠ inS s (cl[0]'(by omega))) : evB s cl = false := by
  unfold evB
  rw [headD_get cl (by omega)]
  have : (cl.data.toList.all fun b => inS s b == inS s (cl[0]'(by omega))) = false := List.all_eq_false.2 ⟨cl[j], List.getElem_mem (l := cl.data.toList) (n := j) (by simpa using hj), by simpa using h⟩
  rw [this, Bool.and_false]
theorem evB_empty {s cl : ByteArray} (h : cl.size = 0) : evB s cl = false := by
  unfold evB
  have : cl.data.toList = [] := List.eq_nil_of_length_eq_zero (by simpa using h)
  rw [this]; rfl
theorem dist_letters {l : List UInt8} {cl : ByteArray} (h : cl.data.toList.all isL = false) : distB (l ++ cl.data.toList) = false := by
  unfold distB
  rw [List.all_append, h]; simp
/-- the blocks of the walk -/
def FS (w : World) (rc : Array Value) (p q : List UInt8) (W : World) : Prop :=
  Blk W w.heap.size rc 24 ∧ Blk W (w.heap.size + 1) (bAr (memB p)).toArray 100 ∧ Blk W (w.heap.size + 1 + 1) (bAr (memB q)).toArray 100 ∧ Below w.heap.size w W
theorem FS.below {w W W' : World} {rc : Array Value} {p q : List UInt8} (h : FS w rc p q W) (hb : Below W.heap.size W W') : FS w rc p q W' := ⟨h.1.b hb, h.2.1.b hb, h.2.2.1.b hb, h.2.2.2.trans (hb.mono h.2.2.2.size)⟩
theorem FS.drew {w W : World} {rc : Array Value} {p q : List UInt8} (h : FS w rc p q W) : FS w rc p q W.drew := h.below (Below.refl _ _).drew
theorem FS.setQ {w W : World} {rc : Array Value} {p q : List UInt8} (h : FS w rc p q W) (b : UInt8) : FS w rc p (q ++ [b]) (W.setCell ⟨w.heap.size + 1 + 1, b.toNat, none⟩ (.bool true)) :=
  ⟨h.1.other (by simp; omega) _, h.2.1.other (by simp) _, by rw [← bAr_set]; exact h.2.2.1.set _ _, h.2.2.2.setCell (p := ⟨w.heap.size + 1 + 1, _, none⟩) (by simp; omega) _⟩
theorem FS.setP {w W : World} {rc : Array Value} {p q : List UInt8} (h : FS w rc p q W) (b : UInt8) : FS w rc (p ++ [b]) q (W.setCell ⟨w.heap.size + 1, b.toNat, none⟩ (.bool true)) :=
  ⟨h.1.other (by simp) _, by rw [← bAr_set]; exact h.2.1.set _ _, h.2.2.1.other (by simp) _, h.2.2.2.setCell (p := ⟨w.heap.size + 1, _, none⟩) (by simp) _⟩
theorem FS.p {w W : World} {rc : Array Value} {p q : List UInt8} (h : FS w rc p q W) (b : UInt8) : W.cell? ⟨w.heap.size + 1, b.toNat, none⟩ = some (.bool (decide (b ∈ p))) := by
  rw [h.2.1.cell, bAr_get _ _ (by have := b.toNat_lt; omega), memB_u8]
theorem FS.q {w W : World} {rc : Array Value} {p q : List UInt8} (h : FS w rc p q W) (b : UInt8) : W.cell? ⟨w.heap.size + 1 + 1, b.toNat, none⟩ = some (.bool (decide (b ∈ q))) := by
  rw [h.2.2.1.cell, bAr_get _ _ (by have := b.toNat_lt; omega), memB_u8]
set_option maxRecDepth 100000 in
set_option maxHeartbeats 8000000 in
theorem Fault_any (a : Option Addr) (g o c n : Nat) (R : RB) (w : World) (hN : R.cls.length = n) (hk : SK w a g o R.cls) (ht : Thn R) : Calls Tryz.prog 23 #[rulesV a n c R.soft R.al R.ot R.sk R.ss R.db] w fun e w' => e = .returned (.int .i64 (chk R : Nat)) ∧ Below w.heap.size w w' := by
  by_cases h8 : 8 < n
  · have hv : chk R = 3 := by unfold chk; rw [if_pos (by omega)]
    rw [hv]
    have p1 : (8 : Int) < (n : Int) := by omega
    clear hk hN ht hv h8
    go_enter Tryz.func23, Tryz.ntmps23
    go_wp2_with fail
    go_ret
    exact ⟨rfl, (Below.refl _ _).alloc (Nat.le_refl _) _⟩
  · have p1 : ¬ (8 : Int) < (n : Int) := by omega
    have hs1000 := ht.2.2
    have HK := Lib.hid hk
    have HN := Lib.hid hN
    have HT := Lib.hid ht
    have H8 := Lib.hid (show R.cls.length ≤ 8 by omega)
    have hn8 : n ≤ 8 := by omega
    generalize hV : chk R = V
    have HV := Lib.hid hV
    clear hk hN ht h8 hV
    go_enter Tryz.func23, Tryz.ntmps23
    go_wp2_with fail
    obtain ⟨d1, d2, d3, d4, d5⟩ := three_new w (rulesC a n c R.soft R.al R.ot R.sk R.ss R.db) Tryz.zeroCells100 Tryz.zeroCells100 24 100 100
    have S0 := Lib.hid (show FS w (rulesC a n c R.soft R.al R.ot R.sk R.ss R.db) [] [] (((w.alloc (.cells (rulesC a n c R.soft R.al R.ot R.sk R.ss R.db) 24)).alloc (.cells Tryz.zeroCells100 100)).alloc (.cells Tryz.zeroCells100 100)) from ⟨d1, by rw [← zeros256]; exact d2, by rw [← zeros256]; exact d3, d4⟩)
    clear d1 d2 d3 d4 d5
    go_loopw [5] (fun y wr => ∃ i : Nat, i ≤ R.soft.size ∧ y = .int .i64 (i : Int) ∧ Hid ((R.soft.data.toList.take i).Nodup ∧ FS w (rulesC a n c R.soft R.al R.ot R.sk R.ss R.db) [] (R.soft.data.toList.take i) wr)) (fun y _ => R.soft.size - (intOf y).toNat)
    case atStart => exact ⟨0, Nat.zero_le _, rfl, by simp, S0.out⟩
    case round =>
      clear S0
      obtain ⟨i, hi, rfl, H⟩ := hrel
      have kc1 := H.out.2.1.cell 1
      by_cases hin : i < R.soft.size
      · have hget := get_u8 hin
        have q0 : (0 : Int) ≤ (R.soft[i].toNat : Int) := by omega
        have q1 : (R.soft[i].toNat : Int) < 256 := by have := R.soft[i].toNat_lt; omega
        have kq := H.out.2.q R.soft[i]
        have fq := H.out.2.2.2.1.frozen R.soft[i].toNat
        have HG := Lib.hid hget
        by_cases hm : R.soft[i] ∈ R.soft.data.toList.take i
        · rw [decide_eq_true hm] at kq
          have hv : V = 1 := HV.out.symm.trans (chk_one H8.out (rul_soft (soft_twice HG.out hm)))
          subst hv
          clear hm hget
          go_wp2_with fail
          go_ret
          exact ⟨rfl, H.out.2.2.2.2⟩
        · rw [decide_eq_false hm] at kq
          have S1 := Lib.hid (show (R.soft.data.toList.take (i + 1)).Nodup ∧ FS w (rulesC a n c R.soft R.al R.ot R.sk R.ss R.db) [] (R.soft.data.toList.take (i + 1)) (wr.setCell ⟨w.heap.size + 1 + 1, R.soft[i].toNat, none⟩ (.bool true)) from ⟨nodup_take HG.out H.out.1 hm, by rw [take_snoc HG.out]; exact H.out.2.setQ R.soft[i]⟩)
          clear hm hget
          go_wp2_with fail
          go_roundw
          case rel => exact ⟨i + 1, by omega, by go_num, S1.out⟩
          case measure => simp [intOf]; omega
      · have hi2 : i = R.soft.size := by omega
        have S1 := Lib.hid (show R.soft.data.toList.Nodup ∧ FS w (rulesC a n c R.soft R.al R.ot R.sk R.ss R.db) [] R.soft.data.toList wr by have h := H.out; rw [List.take_of_length_le (by simp; omega)] at h; exact h)
        subst hi2
        have hc0 := H.out.2.1.cell 0
        clear H
        by_cases hL : R.soft.data.toList.all isL = true
        · have C61 := Lib.hid (fun W => letters61 R.soft (by omega) W)
          rw [hL] at C61
          have hds : distB R.soft.data.toList = true := by unfold distB; rw [hL, Bool.true_and, decide_eq_true_eq]; exact S1.out.1
          have HDS := Lib.hid hds
          have S2 := Lib.hid (show CK R 0 ∧ FS w (rulesC a n c R.soft R.al R.ot R.sk R.ss R.db) (flk R 0) R.soft.data.toList wr from ⟨⟨by simp [flk, distB], fun j cl hj => by omega⟩, by have h := S1.out.2; simpa [flk] using h⟩)
          clear hL hds S1
          go_wp2_with (go_at_call 61; (with_reducible refine (C61.out _).mono ?_); rintro e w1 ⟨rfl, rfl⟩)
          clear kc1 hc0
          go_loopw [6] (fun y wr => ∃ k : Nat, k ≤ n ∧ y = .int .i64 (k : Int) ∧ Hid (CK R k ∧ FS w (rulesC a n c R.soft R.al R.ot R.sk R.ss R.db) (flk R k) R.soft.data.toList wr)) (fun y _ => n - (intOf y).toNat)
          case atStart => exact ⟨0, Nat.zero_le _, rfl, S2.out⟩
          case round =>
            clear S2
            obtain ⟨k, hk, rfl, H⟩ := hrel
            have kc0 := H.out.2.1.cell 0
            by_cases hkn : k < n
            · obtain ⟨cl, hcl⟩ : ∃ cl, R.cls[k]? = some cl := ⟨R.cls[k]'(by rw [HN.out]; exact hkn), by simp⟩
              have HCL := Lib.hid hcl
              have hne : R.cls ≠ [] := by rintro e; rw [e] at hcl; simp at hcl
              have e1 := HK.out.1 hne
              subst e1
              have k0 := (HK.out.2.1.below H.out.2.2.2.2 (HK.out.2.2 hne)) k cl hcl
              have hcs := HT.out.2.1 cl (List.mem_of_getElem? hcl)
              clear hcl hne
              by_cases hz : cl.size = 0
              · have hv : V = 1 := HV.out.symm.trans (chk_one H8.out (rul_ev HCL.out (evB_empty hz)))
                subst hv
                have p2 : ((cl.size : Int) == 0) = true := by rw [beq_iff_eq]; omega
                clear hz
                go_wp2_with fail
                go_ret
                exact ⟨rfl, H.out.2.2.2.2⟩
              · have p2 : ((cl.size : Int) == 0) = false := by rw [beq_eq_false_iff_ne]; omega
                by_cases hL : cl.data.toList.all isL = true
                · have C61 := Lib.hid (fun W => letters61 cl hcs W)
                  rw [hL] at C61
                  have HLL := Lib.hid hL
                  have hpos : 0 < cl.size := by omega
                  have S3 := Lib.hid (show distB (flk R k ++ cl.data.toList.take 0) = true ∧ (∀ j (hj : j < cl.size), j < 0 → inS R.soft cl[j] = inS R.soft cl[0]) ∧ FS w (rulesC (some ⟨g, o, none⟩) n c R.soft R.al R.ot R.sk R.ss R.db) (flk R k ++ cl.data.toList.take 0) R.soft.data.toList wr from ⟨by rw [List.take_zero, List.append_nil]; exact H.out.1.1, fun j _ h => by omega, by rw [List.take_zero, List.append_nil]; exact H.out.2⟩)
                  clear hL hz
                  go_wp2_with (go_at_call 61; (with_reducible refine (C61.out _).mono ?_); rintro e w1 ⟨rfl, rfl⟩)
                  clear k0 kc0
                  have HCK := Lib.hid H.out.1
                  clear H
                  go_loopw [8] (fun y wr => ∃ i : Nat, i ≤ cl.size ∧ y = .int .i64 (i : Int) ∧ Hid (distB (flk R k ++ cl.data.toList.take i) = true ∧ (∀ j (hj : j < cl.size), j < i → inS R.soft cl[j] = inS R.soft cl[0]) ∧ FS w (rulesC (some ⟨g, o, none⟩) n c R.soft R.al R.ot R.sk R.ss R.db) (flk R k ++ cl.data.toList.take i) R.soft.data.toList wr)) (fun y _ => cl.size - (intOf y).toNat)
                  case atStart => exact ⟨0, Nat.zero_le _, rfl, S3.out⟩
                  case round =>
                    clear S3
                    obtain ⟨i, hi, rfl, H⟩ := hrel
                    by_cases hin : i < cl.size
                    · have q0 : (0 : Int) ≤ (cl[i].toNat : Int) := by omega
                      have q1 : (cl[i].toNat : Int) < 256 := by have := cl[i].toNat_lt; omega
                      have q2 : (0 : Int) ≤ (cl[0].toNat : Int) := by omega
                      have q3 : (cl[0].toNat : Int) < 256 := by have := cl[0].toNat_lt; omega
                      have q4 : (0 : Int) < (cl.size : Int) := by omega
                      have HG := Lib.hid (get_u8 hin)
                      obtain ⟨BS, hBS⟩ : ∃ BS, BS = (rulesC (some ⟨g, o, none⟩) n c R.soft R.al R.ot R.sk R.ss R.db) := ⟨_, rfl⟩
                      obtain ⟨PP, hPP⟩ : ∃ PP, PP = flk R k ++ cl.data.toList.take i := ⟨_, rfl⟩
                      have hS : FS w BS PP R.soft.data.toList wr.drew := by rw [hBS, hPP]; exact H.out.2.2.drew
                      by_cases hm : cl[i] ∈ flk R k ++ cl.data.toList.take i
                      · have K0 : ∀ W, FS w BS PP R.soft.data.toList W → W.cell? ⟨w.heap.size + 1, cl[i].toNat, none⟩ = some (.bool true) := fun W h => by rw [h.p, hPP, decide_eq_true hm]
                        have hd : distB (flk R (k + 1)) = false := by
                          rw [flk_succ HCL.out, ← List.take_append_drop (i + 1) cl.data.toList, ← List.append_assoc]
                          refine distB_pre ?_
                          rw [take_snoc HG.out, ← List.append_assoc, distB_snoc, decide_eq_true hm]; simp
                        have hv : V = 1 := HV.out.symm.trans (chk_one H8.out (rul_dist hd))
                        subst hv
                        have HBS := Lib.hid (And.intro hBS hPP)
                        clear hm hd hBS hPP
                        go_wp2_with fail
                        refine wp_region_held_drew (S := FS w BS PP R.soft.data.toList) (by kernel_rfl) hS (fun hHeld => ?_)
                        refine wpAnyH_take (i := 0) (v := ?_) rfl (by kernel_rfl) (by kernel_rfl) (by kernel_rfl) (fun _ _ _ h => h) (Or.inl ⟨by kernel_rfl, ?h0⟩) hHeld ?_
                        case h0 =>
                          intro w' hSw
                          (try dsimp only at hSw)
                          go_simp
                          (try with_reducible rfl)
                        (try simp only [Act.put]); (try simp only [List.setIfInBounds_toArray]); (try simp only [List.set_cons_succ]); (try simp only [List.set_cons_zero])
                        refine wpAnyH_take (i := 1) (v := ?_) rfl (by kernel_rfl) (by kernel_rfl) (by kernel_rfl) (fun _ _ _ h => h) (Or.inl ⟨by kernel_rfl, ?h1⟩) hHeld ?_
                        case h1 =>
                          intro w' hSw
                          (try dsimp only at hSw)
                          go_simp
                          (try with_reducible rfl)
                        (try simp only [Act.put]); (try simp only [List.setIfInBounds_toArray]); (try simp only [List.set_cons_succ]); (try simp only [List.set_cons_zero])
                        refine wpAnyH_take (i := 2) (v := ?_) rfl (by kernel_rfl) (by kernel_rfl) (by kernel_rfl) (fun _ _ _ h => h) (Or.inl ⟨by kernel_rfl, ?h2⟩) hHeld ?_
                        case h2 =>
                          intro w' hSw
                          (try dsimp only at hSw)
                          go_simp
                          (try with_reducible rfl)
                        (try simp only [Act.put]); (try simp only [List.setIfInBounds_toArray]); (try simp only [List.set_cons_succ]); (try simp only [List.set_cons_zero])
                        refine wpAnyH_take (i := 3) (v := ?_) rfl (by kernel_rfl) (by kernel_rfl) (by kernel_rfl) (fun _ _ _ h => h) (Or.inl ⟨by kernel_rfl, ?h3⟩) hHeld ?_
                        case h3 =>
                          intro w' hSw
                          (try dsimp only at hSw)
                          go_simp
                          (try with_reducible rfl)
                        (try simp only [Act.put]); (try simp only [List.setIfInBounds_toArray]); (try simp only [List.set_cons_succ]); (try simp only [List.set_cons_zero])
                        refine wpAnyH_take (i := 4) (v := ?_) rfl (by kernel_rfl) (by kernel_rfl) (by kernel_rfl) (fun _ _ _ h => h) (Or.inl ⟨by kernel_rfl, ?h4⟩) hHeld ?_
                        case h4 =>
                          intro w' hSw
                          (try dsimp only at hSw)
                          go_simp
                          (try with_reducible rfl)
                        (try simp only [Act.put]); (try simp only [List.setIfInBounds_toArray]); (try simp only [List.set_cons_succ]); (try simp only [List.set_cons_zero])
                        refine wpAnyH_take (i := 5) (v := ?_) rfl (by kernel_rfl) (by kernel_rfl) (by kernel_rfl) (fun _ _ _ h => h) (Or.inl ⟨by kernel_rfl, ?h5⟩) hHeld ?_
                        case h5 =>
                          intro w' hSw
                          (try dsimp only at hSw)
                          go_simp
                          (try with_reducible rfl)
                        (try simp only [Act.put]); (try simp only [List.setIfInBounds_toArray]); (try simp only [List.set_cons_succ]); (try simp only [List.set_cons_zero])
                        refine wpAnyH_take (i := 6) (v := undef) rfl (by kernel_rfl) (by kernel_rfl) (by kernel_rfl) (fun _ _ _ h => h) (Or.inr ⟨by kernel_rfl, rfl⟩) hHeld ?_
                        (try simp only [Act.put]); (try simp only [List.setIfInBounds_toArray]); (try simp only [List.set_cons_succ]); (try simp only [List.set_cons_zero])
                        refine wpAnyH_take (i := 7) (v := undef) rfl (by kernel_rfl) (by kernel_rfl) (by kernel_rfl) (fun _ _ _ h => h) (Or.inr ⟨by kernel_rfl, rfl⟩) hHeld ?_
                        (try simp only [Act.put]); (try simp only [List.setIfInBounds_toArray]); (try simp only [List.set_cons_succ]); (try simp only [List.set_cons_zero])
                        refine wpAnyH_take (i := 8) (v := undef) rfl (by kernel_rfl) (by kernel_rfl) (by kernel_rfl) (fun _ _ _ h => h) (Or.inr ⟨by kernel_rfl, rfl⟩) hHeld ?_
                        (try simp only [Act.put]); (try simp only [List.setIfInBounds_toArray]); (try simp only [List.set_cons_succ]); (try simp only [List.set_cons_zero])
                        refine wpAnyH_take (i := 9) (v := undef) rfl (by kernel_rfl) (by kernel_rfl) (by kernel_rfl) (fun _ _ _ h => h) (Or.inr ⟨by kernel_rfl, rfl⟩) hHeld ?_
                        (try simp only [Act.put]); (try simp only [List.setIfInBounds_toArray]); (try simp only [List.set_cons_succ]); (try simp only [List.set_cons_zero])
                        refine wpAnyH_take (i := 10) (v := undef) rfl (by kernel_rfl) (by kernel_rfl) (by kernel_rfl) (fun _ _ _ h => h) (Or.inr ⟨by kernel_rfl, rfl⟩) hHeld ?_
                        (try simp only [Act.put]); (try simp only [List.setIfInBounds_toArray]); (try simp only [List.set_cons_succ]); (try simp only [List.set_cons_zero])
                        refine wpAnyH_take (i := 11) (v := undef) rfl (by kernel_rfl) (by kernel_rfl) (by kernel_rfl) (fun _ _ _ h => h) (Or.inr ⟨by kernel_rfl, rfl⟩) hHeld ?_
                        (try simp only [Act.put]); (try simp only [List.setIfInBounds_toArray]); (try simp only [List.set_cons_succ]); (try simp only [List.set_cons_zero])
                        refine wpAnyH_take (i := 12) (v := undef) rfl (by kernel_rfl) (by kernel_rfl) (by kernel_rfl) (fun _ _ _ h => h) (Or.inr ⟨by kernel_rfl, rfl⟩) hHeld ?_
                        (try simp only [Act.put]); (try simp only [List.setIfInBounds_toArray]); (try simp only [List.set_cons_succ]); (try simp only [List.set_cons_zero])
                        refine wpAnyH_take (i := 13) (v := undef) rfl (by kernel_rfl) (by kernel_rfl) (by kernel_rfl) (fun _ _ _ h => h) (Or.inr ⟨by kernel_rfl, rfl⟩) hHeld ?_
                        (try simp only [Act.put]); (try simp only [List.setIfInBounds_toArray]); (try simp only [List.set_cons_succ]); (try simp only [List.set_cons_zero])
                        refine wpAnyH_take (i := 14) (v := undef) rfl (by kernel_rfl) (by kernel_rfl) (by kernel_rfl) (fun _ _ _ h => h) (Or.inr ⟨by kernel_rfl, rfl⟩) hHeld ?_
                        (try simp only [Act.put]); (try simp only [List.setIfInBounds_toArray]); (try simp only [List.set_cons_succ]); (try simp only [List.set_cons_zero])
                        refine wpAnyH_take (i := 15) (v := undef) rfl (by kernel_rfl) (by kernel_rfl) (by kernel_rfl) (fun _ _ _ h => h) (Or.inr ⟨by kernel_rfl, rfl⟩) hHeld ?_
                        (try simp only [Act.put]); (try simp only [List.setIfInBounds_toArray]); (try simp only [List.set_cons_succ]); (try simp only [List.set_cons_zero])
                        refine wpAnyH_ready (rs := [16]) (by kernel_rfl) (by simp) ?_
                        refine AllReadyH.cons rfl (fun K hK => ?_) AllReadyH.nil
                        go_simp
                        refine hK.out _ _ hHeld (fun hHeld => ?_)
                        clear hK K
                        (try simp only [Act.put]); (try simp only [List.setIfInBounds_toArray]); (try simp only [List.set_cons_succ]); (try simp only [List.set_cons_zero])
                        refine wpAnyH_done (by kernel_rfl) ?_ _
                        go_wp2_with fail
                        go_ret
                        exact ⟨rfl, H.out.2.2.2.2.2.drew⟩
                      · have K0 : ∀ W, FS w BS PP R.soft.data.toList W → W.cell? ⟨w.heap.size + 1, cl[i].toNat, none⟩ = some (.bool false) := fun W h => by rw [h.p, hPP, decide_eq_false hm]
                        have K1 : ∀ W, FS w BS PP R.soft.data.toList W → W.cell? ⟨w.heap.size + 1 + 1, cl[i].toNat, none⟩ = some (.bool (inS R.soft cl[i])) := fun W h => by rw [h.q]; rfl
                        have K2 : ∀ W, FS w BS PP R.soft.data.toList W → W.cell? ⟨w.heap.size + 1 + 1, cl[0].toNat, none⟩ = some (.bool (inS R.soft cl[0])) := fun W h => by rw [h.q]; rfl
                        have HBS := Lib.hid (And.intro hBS hPP)
                        have HM := Lib.hid hm
                        by_cases he : inS R.soft cl[i] = inS R.soft cl[0]
                        · have hls : isL cl[i] = true := List.all_eq_true.1 HLL.out _ (List.mem_of_getElem? HG.out)
                          have S4 := Lib.hid (show distB (flk R k ++ cl.data.toList.take (i + 1)) = true ∧ (∀ j (hj : j < cl.size), j < i + 1 → inS R.soft cl[j] = inS R.soft cl[0]) ∧ FS w (rulesC (some ⟨g, o, none⟩) n c R.soft R.al R.ot R.sk R.ss R.db) (flk R k ++ cl.data.toList.take (i + 1)) R.soft.data.toList (wr.drew.setCell ⟨w.heap.size + 1, cl[i].toNat, none⟩ (.bool true)) from ⟨by rw [take_snoc HG.out, ← List.append_assoc, distB_snoc, H.out.1, hls, decide_eq_false HM.out]; rfl, fun j hj h => by
                            rcases Nat.lt_or_ge j i with h2 | h2
                            · exact H.out.2.1 j hj h2
                            · obtain rfl : j = i := by omega
                              exact he, by rw [take_snoc HG.out, ← List.append_assoc]; exact H.out.2.2.drew.setP cl[i]⟩)
                          rw [he] at K1
                          have t0 : (inS R.soft cl[0] != inS R.soft cl[0]) = false := by simp
                          generalize inS R.soft cl[0] = bb at *
                          clear hm hBS hPP he hls
                          go_wp2_with fail
                          refine wp_region_held_drew (S := FS w BS PP R.soft.data.toList) (by kernel_rfl) hS (fun hHeld => ?_)
                          refine wpAnyH_take (i := 0) (v := ?_) rfl (by kernel_rfl) (by kernel_rfl) (by kernel_rfl) (fun _ _ _ h => h) (Or.inl ⟨by kernel_rfl, ?h0⟩) hHeld ?_
                          case h0 =>
                            intro w' hSw
                            (try dsimp only at hSw)
                            go_simp
                            (try with_reducible rfl)
                          (try simp only [Act.put]); (try simp only [List.setIfInBounds_toArray]); (try simp only [List.set_cons_succ]); (try simp only [List.set_cons_zero])
                          refine wpAnyH_take (i := 1) (v := ?_) rfl (by kernel_rfl) (by kernel_rfl) (by kernel_rfl) (fun _ _ _ h => h) (Or.inl ⟨by kernel_rfl, ?h1⟩) hHeld ?_
                          case h1 =>
                            intro w' hSw
                            (try dsimp only at hSw)
                            go_simp
                            (try with_reducible rfl)
                          (try simp only [Act.put]); (try simp only [List.setIfInBounds_toArray]); (try simp only [List.set_cons_succ]); (try simp only [List.set_cons_zero])
                          refine wpAnyH_take (i := 2) (v := ?_) rfl (by kernel_rfl) (by kernel_rfl) (by kernel_rfl) (fun _ _ _ h => h) (Or.inl ⟨by kernel_rfl, ?h2⟩) hHeld ?_
                          case h2 =>
                            intro w' hSw
                            (try dsimp only at hSw)
                            go_simp
                            (try with_reducible rfl)
                          (try simp only [Act.put]); (try simp only [List.setIfInBounds_toArray]); (try simp only [List.set_cons_succ]); (try simp only [List.set_cons_zero])
                          refine wpAnyH_take (i := 3) (v := ?_) rfl (by kernel_rfl) (by kernel_rfl) (by kernel_rfl) (fun _ _ _ h => h) (Or.inl ⟨by kernel_rfl, ?h3⟩) hHeld ?_
                          case h3 =>
                            intro w' hSw
                            (try dsimp only at hSw)
                            go_simp
                            (try with_reducible rfl)
                          (try simp only [Act.put]); (try simp only [List.setIfInBounds_toArray]); (try simp only [List.set_cons_succ]); (try simp only [List.set_cons_zero])
                          refine wpAnyH_take (i := 4) (v := ?_) rfl (by kernel_rfl) (by kernel_rfl) (by kernel_rfl) (fun _ _ _ h => h) (Or.inl ⟨by kernel_rfl, ?h4⟩) hHeld ?_
                          case h4 =>
                            intro w' hSw
                            (try dsimp only at hSw)
                            go_simp
                            (try with_reducible rfl)
                          (try simp only [Act.put]); (try simp only [List.setIfInBounds_toArray]); (try simp only [List.set_cons_succ]); (try simp only [List.set_cons_zero])
                          refine wpAnyH_take (i := 5) (v := ?_) rfl (by kernel_rfl) (by kernel_rfl) (by kernel_rfl) (fun _ _ _ h => h) (Or.inl ⟨by kernel_rfl, ?h5⟩) hHeld ?_
                          case h5 =>
                            intro w' hSw
                            (try dsimp only at hSw)
                            go_simp
                            (try with_reducible rfl)
                          (try simp only [Act.put]); (try simp only [List.setIfInBounds_toArray]); (try simp only [List.set_cons_succ]); (try simp only [List.set_cons_zero])
                          refine wpAnyH_take (i := 6) (v := ?_) rfl (by kernel_rfl) (by kernel_rfl) (by kernel_rfl) (fun _ _ _ h => h) (Or.inl ⟨by kernel_rfl, ?h6⟩) hHeld ?_
                          case h6 =>
                            intro w' hSw
                            (try dsimp only at hSw)
                            go_simp
                            (try with_reducible rfl)
                          (try simp only [Act.put]); (try simp only [List.setIfInBounds_toArray]); (try simp only [List.set_cons_succ]); (try simp only [List.set_cons_zero])
                          refine wpAnyH_take (i := 7) (v := ?_) rfl (by kernel_rfl) (by kernel_rfl) (by kernel_rfl) (fun _ _ _ h => h) (Or.inl ⟨by kernel_rfl, ?h7⟩) hHeld ?_
                          case h7 =>
                            intro w' hSw
                            (try dsimp only at hSw)
                            go_simp
                            (try with_reducible rfl)
                          (try simp only [Act.put]); (try simp only [List.setIfInBounds_toArray]); (try simp only [List.set_cons_succ]); (try simp only [List.set_cons_zero])
                          refine wpAnyH_take (i := 8) (v := ?_) rfl (by kernel_rfl) (by kernel_rfl) (by kernel_rfl) (fun _ _ _ h => h) (Or.inl ⟨by kernel_rfl, ?h8⟩) hHeld ?_
                          case h8 =>
                            intro w' hSw
                            (try dsimp only at hSw)
                            go_simp
                            (try with_reducible rfl)
                          (try simp only [Act.put]); (try simp only [List.setIfInBounds_toArray]); (try simp only [List.set_cons_succ]); (try simp only [List.set_cons_zero])
                          refine wpAnyH_take (i := 9) (v := ?_) rfl (by kernel_rfl) (by kernel_rfl) (by kernel_rfl) (fun _ _ _ h => h) (Or.inl ⟨by kernel_rfl, ?h9⟩) hHeld ?_
                          case h9 =>
                            intro w' hSw
                            (try dsimp only at hSw)
                            go_simp
                            (try with_reducible rfl)
                          (try simp only [Act.put]); (try simp only [List.setIfInBounds_toArray]); (try simp only [List.set_cons_succ]); (try simp only [List.set_cons_zero])
                          refine wpAnyH_take (i := 10) (v := ?_) rfl (by kernel_rfl) (by kernel_rfl) (by kernel_rfl) (fun _ _ _ h => h) (Or.inl ⟨by kernel_rfl, ?h10⟩) hHeld ?_
                          case h10 =>
                            intro w' hSw
                            (try dsimp only at hSw)
                            go_simp
                            (try with_reducible rfl)
                          (try simp only [Act.put]); (try simp only [List.setIfInBounds_toArray]); (try simp only [List.set_cons_succ]); (try simp only [List.set_cons_zero])
                          refine wpAnyH_take (i := 11) (v := ?_) rfl (by kernel_rfl) (by kernel_rfl) (by kernel_rfl) (fun _ _ _ h => h) (Or.inl ⟨by kernel_rfl, ?h11⟩) hHeld ?_
                          case h11 =>
                            intro w' hSw
                            (try dsimp only at hSw)
                            go_simp
                            (try with_reducible rfl)
                          (try simp only [Act.put]); (try simp only [List.setIfInBounds_toArray]); (try simp only [List.set_cons_succ]); (try simp only [List.set_cons_zero])
                          refine wpAnyH_take (i := 12) (v := ?_) rfl (by kernel_rfl) (by kernel_rfl) (by kernel_rfl) (fun _ _ _ h => h) (Or.inl ⟨by kernel_rfl, ?h12⟩) hHeld ?_
                          case h12 =>
                            intro w' hSw
                            (try dsimp only at hSw)
                            go_simp
                            (try with_reducible rfl)
                          (try simp only [Act.put]); (try simp only [List.setIfInBounds_toArray]); (try simp only [List.set_cons_succ]); (try simp only [List.set_cons_zero])
                          refine wpAnyH_take (i := 13) (v := ?_) rfl (by kernel_rfl) (by kernel_rfl) (by kernel_rfl) (fun _ _ _ h => h) (Or.inl ⟨by kernel_rfl, ?h13⟩) hHeld ?_
                          case h13 =>
                            intro w' hSw
                            (try dsimp only at hSw)
                            go_simp
                            (try with_reducible rfl)
                          (try simp only [Act.put]); (try simp only [List.setIfInBounds_toArray]); (try simp only [List.set_cons_succ]); (try simp only [List.set_cons_zero])
                          refine wpAnyH_take (i := 14) (v := ?_) rfl (by kernel_rfl) (by kernel_rfl) (by kernel_rfl) (fun _ _ _ h => h) (Or.inl ⟨by kernel_rfl, ?h14⟩) hHeld ?_
                          case h14 =>
                            intro w' hSw
                            (try dsimp only at hSw)
                            go_simp
                            (try with_reducible rfl)
                          (try simp only [Act.put]); (try simp only [List.setIfInBounds_toArray]); (try simp only [List.set_cons_succ]); (try simp only [List.set_cons_zero])
                          refine wpAnyH_take (i := 15) (v := ?_) rfl (by kernel_rfl) (by kernel_rfl) (by kernel_rfl) (fun _ _ _ h => h) (Or.inl ⟨by kernel_rfl, ?h15⟩) hHeld ?_
                          case h15 =>
                            intro w' hSw
                            (try dsimp only at hSw)
                            go_simp
                            (try with_reducible rfl)
                          (try simp only [Act.put]); (try simp only [List.setIfInBounds_toArray]); (try simp only [List.set_cons_succ]); (try simp only [List.set_cons_zero])
                          refine wpAnyH_ready (rs := [16]) (by kernel_rfl) (by simp) ?_
                          refine AllReadyH.cons rfl (fun K hK => ?_) AllReadyH.nil
                          go_simp
                          refine hK.out _ _ hHeld (fun hHeld => ?_)
                          clear hK K
                          (try simp only [Act.put]); (try simp only [List.setIfInBounds_toArray]); (try simp only [List.set_cons_succ]); (try simp only [List.set_cons_zero])
                          refine wpAnyH_done (by kernel_rfl) ?_ _
                          have kp2 : wr.cell? ⟨w.heap.size + 1, cl[i].toNat, none⟩ = some (.bool false) := by have h := H.out.2.2.p cl[i]; rwa [decide_eq_false HM.out] at h
                          have kf := H.out.2.2.2.1.frozen cl[i].toNat
                          have kf2 := H.out.2.2.2.1.drew.frozen cl[i].toNat
                          go_wp2_with fail
                          go_roundw
                          case rel => exact ⟨i + 1, by omega, by go_num, S4.out⟩
                          case measure => simp [intOf]; omega
                        · have hv : V = 1 := HV.out.symm.trans (chk_one H8.out (rul_ev HCL.out (evB_not hin he)))
                          subst hv
                          have t0 : (!(inS R.soft cl[i] == inS R.soft cl[0])) = true := by simpa using he
                          have t1 : (inS R.soft cl[i] == inS R.soft cl[0]) = false := by simpa using he
                          generalize inS R.soft cl[0] = bb at *
                          generalize inS R.soft cl[i] = bc at *
                          clear hm hBS hPP he
                          go_wp2_with fail
                          refine wp_region_held_drew (S := FS w BS PP R.soft.data.toList) (by kernel_rfl) hS (fun hHeld => ?_)
                          refine wpAnyH_take (i := 0) (v := ?_) rfl (by kernel_rfl) (by kernel_rfl) (by kernel_rfl) (fun _ _ _ h => h) (Or.inl ⟨by kernel_rfl, ?h0⟩) hHeld ?_
                          case h0 =>
                            intro w' hSw
                            (try dsimp only at hSw)
                            go_simp
                            (try with_reducible rfl)
                          (try simp only [Act.put]); (try simp only [List.setIfInBounds_toArray]); (try simp only [List.set_cons_succ]); (try simp only [List.set_cons_zero])
                          refine wpAnyH_take (i := 1) (v := ?_) rfl (by kernel_rfl) (by kernel_rfl) (by kernel_rfl) (fun _ _ _ h => h) (Or.inl ⟨by kernel_rfl, ?h1⟩) hHeld ?_
                          case h1 =>
                            intro w' hSw
                            (try dsimp only at hSw)
                            go_simp
                            (try with_reducible rfl)
                          (try simp only [Act.put]); (try simp only [List.setIfInBounds_toArray]); (try simp only [List.set_cons_succ]); (try simp only [List.set_cons_zero])
                          refine wpAnyH_take (i := 2) (v := ?_) rfl (by kernel_rfl) (by kernel_rfl) (by kernel_rfl) (fun _ _ _ h => h) (Or.inl ⟨by kernel_rfl, ?h2⟩) hHeld ?_
                          case h2 =>
                            intro w' hSw
                            (try dsimp only at hSw)
                            go_simp
                            (try with_reducible rfl)
                          (try simp only [Act.put]); (try simp only [List.setIfInBounds_toArray]); (try simp only [List.set_cons_succ]); (try simp only [List.set_cons_zero])
                          refine wpAnyH_take (i := 3) (v := ?_) rfl (by kernel_rfl) (by kernel_rfl) (by kernel_rfl) (fun _ _ _ h => h) (Or.inl ⟨by kernel_rfl, ?h3⟩) hHeld ?_
                          case h3 =>
                            intro w' hSw
                            (try dsimp only at hSw)
                            go_simp
                            (try with_reducible rfl)
                          (try simp only [Act.put]); (try simp only [List.setIfInBounds_toArray]); (try simp only [List.set_cons_succ]); (try simp only [List.set_cons_zero])
                          refine wpAnyH_take (i := 4) (v := ?_) rfl (by kernel_rfl) (by kernel_rfl) (by kernel_rfl) (fun _ _ _ h => h) (Or.inl ⟨by kernel_rfl, ?h4⟩) hHeld ?_
                          case h4 =>
                            intro w' hSw
                            (try dsimp only at hSw)
                            go_simp
                            (try with_reducible rfl)
                          (try simp only [Act.put]); (try simp only [List.setIfInBounds_toArray]); (try simp only [List.set_cons_succ]); (try simp only [List.set_cons_zero])
                          refine wpAnyH_take (i := 5) (v := ?_) rfl (by kernel_rfl) (by kernel_rfl) (by kernel_rfl) (fun _ _ _ h => h) (Or.inl ⟨by kernel_rfl, ?h5⟩) hHeld ?_
                          case h5 =>
                            intro w' hSw
                            (try dsimp only at hSw)
                            go_simp
                            (try with_reducible rfl)
                          (try simp only [Act.put]); (try simp only [List.setIfInBounds_toArray]); (try simp only [List.set_cons_succ]); (try simp only [List.set_cons_zero])
                          refine wpAnyH_take (i := 6) (v := ?_) rfl (by kernel_rfl) (by kernel_rfl) (by kernel_rfl) (fun _ _ _ h => h) (Or.inl ⟨by kernel_rfl, ?h6⟩) hHeld ?_
                          case h6 =>
                            intro w' hSw
                            (try dsimp only at hSw)
                            go_simp
                            (try with_reducible rfl)
                          (try simp only [Act.put]); (try simp only [List.setIfInBounds_toArray]); (try simp only [List.set_cons_succ]); (try simp only [List.set_cons_zero])
                          refine wpAnyH_take (i := 7) (v := ?_) rfl (by kernel_rfl) (by kernel_rfl) (by kernel_rfl) (fun _ _ _ h => h) (Or.inl ⟨by kernel_rfl, ?h7⟩) hHeld ?_
                          case h7 =>
                            intro w' hSw
                            (try dsimp only at hSw)
                            go_simp
                            (try with_reducible rfl)
                          (try simp only [Act.put]); (try simp only [List.setIfInBounds_toArray]); (try simp only [List.set_cons_succ]); (try simp only [List.set_cons_zero])
                          refine wpAnyH_take (i := 8) (v := ?_) rfl (by kernel_rfl) (by kernel_rfl) (by kernel_rfl) (fun _ _ _ h => h) (Or.inl ⟨by kernel_rfl, ?h8⟩) hHeld ?_
                          case h8 =>
                            intro w' hSw
                            (try dsimp only at hSw)
                            go_simp
                            (try with_reducible rfl)
                          (try simp only [Act.put]); (try simp only [List.setIfInBounds_toArray]); (try simp only [List.set_cons_succ]); (try simp only [List.set_cons_zero])
                          refine wpAnyH_take (i := 9) (v := ?_) rfl (by kernel_rfl) (by kernel_rfl) (by kernel_rfl) (fun _ _ _ h => h) (Or.inl ⟨by kernel_rfl, ?h9⟩) hHeld ?_
                          case h9 =>
                            intro w' hSw
                            (try dsimp only at hSw)
                            go_simp
                            (try with_reducible rfl)
                          (try simp only [Act.put]); (try simp only [List.setIfInBounds_toArray]); (try simp only [List.set_cons_succ]); (try simp only [List.set_cons_zero])
                          refine wpAnyH_take (i := 10) (v := ?_) rfl (by kernel_rfl) (by kernel_rfl) (by kernel_rfl) (fun _ _ _ h => h) (Or.inl ⟨by kernel_rfl, ?h10⟩) hHeld ?_
                          case h10 =>
                            intro w' hSw
                            (try dsimp only at hSw)
                            go_simp
                            (try with_reducible rfl)
                          (try simp only [Act.put]); (try simp only [List.setIfInBounds_toArray]); (try simp only [List.set_cons_succ]); (try simp only [List.set_cons_zero])
                          refine wpAnyH_take (i := 11) (v := ?_) rfl (by kernel_rfl) (by kernel_rfl) (by kernel_rfl) (fun _ _ _ h => h) (Or.inl ⟨by kernel_rfl, ?h11⟩) hHeld ?_
                          case h11 =>
                            intro w' hSw
                            (try dsimp only at hSw)
                            go_simp
                            (try with_reducible rfl)
                          (try simp only [Act.put]); (try simp only [List.setIfInBounds_toArray]); (try simp only [List.set_cons_succ]); (try simp only [List.set_cons_zero])
                          refine wpAnyH_take (i := 12) (v := ?_) rfl (by kernel_rfl) (by kernel_rfl) (by kernel_rfl) (fun _ _ _ h => h) (Or.inl ⟨by kernel_rfl, ?h12⟩) hHeld ?_
                          case h12 =>
                            intro w' hSw
                            (try dsimp only at hSw)
                            go_simp
                            (try with_reducible rfl)
                          (try simp only [Act.put]); (try simp only [List.setIfInBounds_toArray]); (try simp only [List.set_cons_succ]); (try simp only [List.set_cons_zero])
                          refine wpAnyH_take (i := 13) (v := ?_) rfl (by kernel_rfl) (by kernel_rfl) (by kernel_rfl) (fun _ _ _ h => h) (Or.inl ⟨by kernel_rfl, ?h13⟩) hHeld ?_
                          case h13 =>
                            intro w' hSw
                            (try dsimp only at hSw)
                            go_simp
                            (try with_reducible rfl)
                          (try simp only [Act.put]); (try simp only [List.setIfInBounds_toArray]); (try simp only [List.set_cons_succ]); (try simp only [List.set_cons_zero])
                          refine wpAnyH_take (i := 14) (v := ?_) rfl (by kernel_rfl) (by kernel_rfl) (by kernel_rfl) (fun _ _ _ h => h) (Or.inl ⟨by kernel_rfl, ?h14⟩) hHeld ?_
                          case h14 =>
                            intro w' hSw
                            (try dsimp only at hSw)
                            go_simp
                            (try with_reducible rfl)
                          (try simp only [Act.put]); (try simp only [List.setIfInBounds_toArray]); (try simp only [List.set_cons_succ]); (try simp only [List.set_cons_zero])
                          refine wpAnyH_take (i := 15) (v := ?_) rfl (by kernel_rfl) (by kernel_rfl) (by kernel_rfl) (fun _ _ _ h => h) (Or.inl ⟨by kernel_rfl, ?h15⟩) hHeld ?_
                          case h15 =>
                            intro w' hSw
                            (try dsimp only at hSw)
                            go_simp
                            (try with_reducible rfl)
                          (try simp only [Act.put]); (try simp only [List.setIfInBounds_toArray]); (try simp only [List.set_cons_succ]); (try simp only [List.set_cons_zero])
                          refine wpAnyH_ready (rs := [16]) (by kernel_rfl) (by simp) ?_
                          refine AllReadyH.cons rfl (fun K hK => ?_) AllReadyH.nil
                          go_simp
                          refine hK.out _ _ hHeld (fun hHeld => ?_)
                          clear hK K
                          (try simp only [Act.put]); (try simp only [List.setIfInBounds_toArray]); (try simp only [List.set_cons_succ]); (try simp only [List.set_cons_zero])
                          refine wpAnyH_done (by kernel_rfl) ?_ _
                          go_wp2_with fail
                          go_ret
                          exact ⟨rfl, H.out.2.2.2.2.2.drew⟩
                    · have hi2 : i = cl.size := by omega
                      have S5 := Lib.hid (show CK R (k + 1) ∧ FS w (rulesC (some ⟨g, o, none⟩) n c R.soft R.al R.ot R.sk R.ss R.db) (flk R (k + 1)) R.soft.data.toList wr by
                        have h := H.out
                        rw [List.take_of_length_le (by simp; omega), ← flk_succ HCL.out] at h
                        exact ⟨⟨h.1, fun j c2 hj hc2 => by
                          rcases Nat.lt_or_ge j k with h2 | h2
                          · exact HCK.out.2 j c2 h2 hc2
                          · obtain rfl : j = k := by omega
                            rw [HCL.out] at hc2; cases hc2
                            exact evB_intro hpos (fun j hj => h.2.1 j hj (by omega))⟩, h.2.2⟩)
                      subst hi2
                      clear H
                      go_wp2_with fail
                      go_roundw
                      case rel => exact ⟨k + 1, by omega, by go_num, S5.out⟩
                      case measure => simp [intOf]; omega
                · have hL2 : cl.data.toList.all isL = false := by simpa using hL
                  have hv : V = 1 := HV.out.symm.trans (chk_one H8.out (rul_dist (k := k + 1) (by rw [flk_succ HCL.out]; exact dist_letters hL2)))
                  subst hv
                  have C61 := Lib.hid (fun W => letters61 cl hcs W)
                  rw [hL2] at C61
                  clear hL hL2 hz
                  go_wp2_with (go_at_call 61; (with_reducible refine (C61.out _).mono ?_); rintro e w1 ⟨rfl, rfl⟩)
                  go_ret
                  exact ⟨rfl, H.out.2.2.2.2⟩
            · obtain rfl : k = n := by omega
              have hrul : rulB R = cosB R := by
                unfold rulB
                have h1 : distB (fl R) = true := by rw [← flk_all (k := k) (by rw [HN.out]; exact Nat.le_refl _)]; exact H.out.1.1
                have h2 : R.cls.all (evB R.soft) = true := List.all_eq_true.2 fun c2 hc2 => by
                  obtain ⟨j, hj, e⟩ := List.mem_iff_getElem.1 hc2
                  exact H.out.1.2 j c2 (by rw [← HN.out]; exact hj) (by rw [List.getElem?_eq_getElem hj, e])
                rw [h1, h2, HDS.out]; rfl
              have hv : V = if cosB R then 0 else 1 := by rw [← HV.out]; unfold chk; rw [if_neg (by have := H8.out; omega), hrul]
              have hcos : cosB R = (inB R.al 0 100 && (inB R.ot 0 100 && (inB R.sk 0 100 && (inB R.ss 0 100 && inB R.db 0 100)))) := by simp [cosB, coB]
              rw [hcos] at hv
              have kc2 := H.out.2.1.cell 2
              have kc3 := H.out.2.1.cell 3
              have kc4 := H.out.2.1.cell 4
              have kc5 := H.out.2.1.cell 5
              have kc6 := H.out.2.1.cell 6
              have C1 := Lib.hid (fun w => rIn_any R.al 0 100 w)
              have C2 := Lib.hid (fun w => rIn_any R.ot 0 100 w)
              have C3 := Lib.hid (fun w => rIn_any R.sk 0 100 w)
              have C4 := Lib.hid (fun w => rIn_any R.ss 0 100 w)
              have C5 := Lib.hid (fun w => rIn_any R.db 0 100 w)
              have HB := Lib.hid H.out.2.2.2.2
              clear hcos hrul
              generalize inB R.al 0 100 = b1 at *
              generalize inB R.ot 0 100 = b2 at *
              generalize inB R.sk 0 100 = b3 at *
              generalize inB R.ss 0 100 = b4 at *
              generalize inB R.db 0 100 = b5 at *
              cases b1 with
              | false =>
                replace hv : V = 1 := hv
                subst hv
                go_wp2_with (first | (go_at_call 30; (with_reducible refine (C1.out _).mono ?_); rintro e w1 ⟨rfl, rfl⟩) | (go_at_call 30; (with_reducible refine (C2.out _).mono ?_); rintro e w1 ⟨rfl, rfl⟩) | (go_at_call 30; (with_reducible refine (C3.out _).mono ?_); rintro e w1 ⟨rfl, rfl⟩) | (go_at_call 30; (with_reducible refine (C4.out _).mono ?_); rintro e w1 ⟨rfl, rfl⟩) | (go_at_call 30; (with_reducible refine (C5.out _).mono ?_); rintro e w1 ⟨rfl, rfl⟩))
                go_ret
                exact ⟨rfl, HB.out⟩
              | true =>
                cases b2 with
                | false =>
                  replace hv : V = 1 := hv
                  subst hv
                  go_wp2_with (first | (go_at_call 30; (with_reducible refine (C1.out _).mono ?_); rintro e w1 ⟨rfl, rfl⟩) | (go_at_call 30; (with_reducible refine (C2.out _).mono ?_); rintro e w1 ⟨rfl, rfl⟩) | (go_at_call 30; (with_reducible refine (C3.out _).mono ?_); rintro e w1 ⟨rfl, rfl⟩) | (go_at_call 30; (with_reducible refine (C4.out _).mono ?_); rintro e w1 ⟨rfl, rfl⟩) | (go_at_call 30; (with_reducible refine (C5.out _).mono ?_); rintro e w1 ⟨rfl, rfl⟩))
                  go_ret
                  exact ⟨rfl, HB.out⟩
                | true =>
                  cases b3 with
                  | false =>
                    replace hv : V = 1 := hv
                    subst hv
                    go_wp2_with (first | (go_at_call 30; (with_reducible refine (C1.out _).mono ?_); rintro e w1 ⟨rfl, rfl⟩) | (go_at_call 30; (with_reducible refine (C2.out _).mono ?_); rintro e w1 ⟨rfl, rfl⟩) | (go_at_call 30; (with_reducible refine (C3.out _).mono ?_); rintro e w1 ⟨rfl, rfl⟩) | (go_at_call 30; (with_reducible refine (C4.out _).mono ?_); rintro e w1 ⟨rfl, rfl⟩) | (go_at_call 30; (with_reducible refine (C5.out _).mono ?_); rintro e w1 ⟨rfl, rfl⟩))
                    go_ret
                    exact ⟨rfl, HB.out⟩
                  | true =>
                    cases b4 with
                    | false =>
                      replace hv : V = 1 := hv
                      subst hv
                      go_wp2_with (first | (go_at_call 30; (with_reducible refine (C1.out _).mono ?_); rintro e w1 ⟨rfl, rfl⟩) | (go_at_call 30; (with_reducible refine (C2.out _).mono ?_); rintro e w1 ⟨rfl, rfl⟩) | (go_at_call 30; (with_reducible refine (C3.out _).mono ?_); rintro e w1 ⟨rfl, rfl⟩) | (go_at_call 30; (with_reducible refine (C4.out _).mono ?_); rintro e w1 ⟨rfl, rfl⟩) | (go_at_call 30; (with_reducible refine (C5.out _).mono ?_); rintro e w1 ⟨rfl, rfl⟩))
                      go_ret
                      exact ⟨rfl, HB.out⟩
                    | true =>
                      cases b5 with
                      | false =>
                        replace hv : V = 1 := hv
                        subst hv
                        go_wp2_with (first | (go_at_call 30; (with_reducible refine (C1.out _).mono ?_); rintro e w1 ⟨rfl, rfl⟩) | (go_at_call 30; (with_reducible refine (C2.out _).mono ?_); rintro e w1 ⟨rfl, rfl⟩) | (go_at_call 30; (with_reducible refine (C3.out _).mono ?_); rintro e w1 ⟨rfl, rfl⟩) | (go_at_call 30; (with_reducible refine (C4.out _).mono ?_); rintro e w1 ⟨rfl, rfl⟩) | (go_at_call 30; (with_reducible refine (C5.out _).mono ?_); rintro e w1 ⟨rfl, rfl⟩))
                        go_ret
                        exact ⟨rfl, HB.out⟩
                      | true =>
                        replace hv : V = 0 := hv
                        subst hv
                        go_wp2_with (first | (go_at_call 30; (with_reducible refine (C1.out _).mono ?_); rintro e w1 ⟨rfl, rfl⟩) | (go_at_call 30; (with_reducible refine (C2.out _).mono ?_); rintro e w1 ⟨rfl, rfl⟩) | (go_at_call 30; (with_reducible refine (C3.out _).mono ?_); rintro e w1 ⟨rfl, rfl⟩) | (go_at_call 30; (with_reducible refine (C4.out _).mono ?_); rintro e w1 ⟨rfl, rfl⟩) | (go_at_call 30; (with_reducible refine (C5.out _).mono ?_); rintro e w1 ⟨rfl, rfl⟩))
                        go_ret
                        exact ⟨rfl, HB.out⟩
        · have hL2 : R.soft.data.toList.all isL = false := by simpa using hL
          have hv : V = 1 := HV.out.symm.trans (chk_one H8.out (rul_soft (by unfold distB; rw [hL2]; rfl)))
          subst hv
          have C61 := Lib.hid (fun W => letters61 R.soft (by omega) W)
          rw [hL2] at C61
          clear hL hL2
          go_wp2_with (go_at_call 61; (with_reducible refine (C61.out _).mono ?_); rintro e w1 ⟨rfl, rfl⟩)
          go_ret
          exact ⟨rfl, S1.out.2.2.2.2⟩
end Go.Proofs.YtkdflgaahhnigaaGreat

namespace Go.Proofs.YtkdflgaahhnigaaGreat
open Go.RowKit Go.Shelf

theorem chkN_long {R : RB} {l : List ByteArray} {i : Nat} {s : ByteArray} (h : l[i]? = some s) (h2 : ¬ s.size ≤ 12) : chkN R l = 3 := by
  unfold chkN
  have : (l.all fun s => decide (s.size ≤ 12)) = false := List.all_eq_false.2 ⟨s, List.mem_of_getElem? h, by simpa using h2⟩
  rw [if_pos (.inr this)]
theorem chkN_short {R : RB} {l : List ByteArray} (h : ∀ (i : Nat) (s : ByteArray), l[i]? = some s → s.size ≤ 12) : chkN R l = if chk R = 0 then (if l.all spB then 0 else 4) else chk R := by
  unfold chkN chk
  have : (l.all fun s => decide (s.size ≤ 12)) = true := List.all_eq_true.2 fun s hs => by
    obtain ⟨i, hi, e⟩ := List.mem_iff_getElem.1 hs
    have := h i s (by rw [List.getElem?_eq_getElem hi, e])
    simpa using this
  rw [this]
  by_cases h8 : 8 < R.cls.length
  · rw [if_pos h8, if_pos (.inl h8)]; rfl
  · rw [if_neg h8, if_neg (by simpa using h8)]
    cases rulB R <;> rfl
theorem spB_not_empty {s : ByteArray} (h : s.size = 0) : spB s = false := by
  unfold spB
  have : s.data.toList = [] := List.eq_nil_of_length_eq_zero (by simpa using h)
  rw [this]; rfl
theorem spB_pos {s : ByteArray} (h : 0 < s.size) : spB s = s.data.toList.all isL := by
  unfold spB
  have h1 : s.data.toList.isEmpty = false := by
    cases e : s.data.toList with
    | nil => have h2 : s.data.toList.length = s.size := by simp
             rw [e] at h2; simp at h2; omega
    | cons x t => rfl
  rw [h1]; rfl
set_option maxRecDepth 100000 in
set_option maxHeartbeats 4000000 in
theorem NamesFault_any (a : Option Addr) (g o c n : Nat) (R : RB) (w : World) (hN : R.cls.length = n) (hk : SK w a g o R.cls) (ht : Thn R) (a2 : Option Addr) (g2 o2 c2 m : Nat) (l : List ByteArray) (hM : l.length = m) (hk2 : SK w a2 g2 o2 l) (hm : m ≤ 1000) (hl : ∀ x, x ∈ l → x.size ≤ 1000) : Calls Tryz.prog 60 #[rulesV a n c R.soft R.al R.ot R.sk R.ss R.db, .slice a2 m c2] w fun e w' => e = .returned (.int .i64 (chkN R l : Nat)) ∧ Below w.heap.size w w' := by
  have CF := Lib.hid (fun W (hW : Below w.heap.size w W) => Fault_any a g o c n R W hN (hk.below hW) ht)
  have HK := Lib.hid hk2
  have HM := Lib.hid hM
  have HL := Lib.hid hl
  generalize hV : chkN R l = V
  have HV := Lib.hid hV
  have s0 := (KS.start w).new (rulesC a n c R.soft R.al R.ot R.sk R.ss R.db) 24
  have S0 := Lib.hid s0
  obtain ⟨kb0_0, kb0_1, kb0_2, kb0_3, kb0_4, kb0_5, kb0_6⟩ := (s0.blkAt 0 rfl).c7
  clear s0 hk hk2 hM hl hV ht hN
  go_enter Tryz.func60, Tryz.ntmps60
  go_wp2_with fail
  clear kb0_0 kb0_1 kb0_2 kb0_3 kb0_4 kb0_5 kb0_6
  go_loopw [5] (fun y wr => ∃ i : Nat, i ≤ m ∧ y = .int .i64 (i : Int) ∧ Hid ((∀ j s, j < i → l[j]? = some s → s.size ≤ 12) ∧ KS w [(w.heap.size, rulesC a n c R.soft R.al R.ot R.sk R.ss R.db, 24)] wr)) (fun y _ => m - (intOf y).toNat)
  case atStart => exact ⟨0, Nat.zero_le _, rfl, fun j s h => by omega, S0.out⟩
  case round =>
    clear S0
    obtain ⟨i, hi, rfl, H⟩ := hrel
    by_cases hin : i < m
    · obtain ⟨s, hs⟩ : ∃ s, l[i]? = some s := ⟨l[i]'(by rw [HM.out]; exact hin), by simp⟩
      have HS := Lib.hid hs
      have hne : l ≠ [] := by rintro e; rw [e] at hs; simp at hs
      have e1 := HK.out.1 hne
      subst e1
      have k0 := (HK.out.2.1.below H.out.2.bel (HK.out.2.2 hne)) i s hs
      clear hs hne
      by_cases h12 : s.size ≤ 12
      · have p1 : ¬ (12 : Int) < (s.size : Int) := by omega
        have S1 := Lib.hid (show (∀ j t, j < i + 1 → l[j]? = some t → t.size ≤ 12) ∧ KS w [(w.heap.size, rulesC a n c R.soft R.al R.ot R.sk R.ss R.db, 24)] wr from ⟨fun j t hj ht => by
          rcases Nat.lt_or_ge j i with h | h
          · exact H.out.1 j t h ht
          · obtain rfl : j = i := by omega
            rw [HS.out] at ht; cases ht; exact h12, H.out.2⟩)
        go_wp2_with fail
        go_roundw
        case rel => exact ⟨i + 1, by omega, by go_num, S1.out⟩
        case measure => simp [intOf]; omega
      · have p1 : (12 : Int) < (s.size : Int) := by omega
        have hv : V = 3 := HV.out.symm.trans (chkN_long HS.out h12)
        subst hv
        go_wp2_with fail
        go_ret
        exact ⟨rfl, H.out.2.bel⟩
    · obtain rfl : i = m := by omega
      have hcs : V = if chk R = 0 then (if l.all spB then 0 else 4) else chk R := HV.out.symm.trans (chkN_short fun j s h => H.out.1 j s (by rw [← HM.out]; exact (List.getElem?_eq_some_iff.1 h).1) h)
      have S1 := Lib.hid H.out.2
      obtain ⟨kb0_0, kb0_1, kb0_2, kb0_3, kb0_4, kb0_5, kb0_6⟩ := (H.out.2.blkAt 0 rfl).c7
      clear H
      generalize chk R = v at *
      by_cases h0 : v = 0
      · rw [if_pos h0] at hcs
        subst h0
        have HC := Lib.hid hcs
        clear hcs HV
        go_wp2_with (go_at_call 23; (refine (CF.out _ S1.out.bel).mono ?_); rintro e w1 ⟨rfl, hb⟩; have S2 := Lib.hid (S1.out.below hb); clear hb)
        clear kb0_0 kb0_1 kb0_2 kb0_3 kb0_4 kb0_5 kb0_6 S1
        go_loopw [7] (fun y wr => ∃ k : Nat, k ≤ i ∧ y = .int .i64 (k : Int) ∧ Hid ((∀ j s, j < k → l[j]? = some s → spB s = true) ∧ KS w [(w.heap.size, rulesC a n c R.soft R.al R.ot R.sk R.ss R.db, 24)] wr)) (fun y _ => i - (intOf y).toNat)
        case atStart => exact ⟨0, Nat.zero_le _, rfl, fun j s h => by omega, S2.out⟩
        case round =>
          clear S2
          obtain ⟨k, hk, rfl, H⟩ := hrel
          by_cases hkn : k < i
          · obtain ⟨s, hs⟩ : ∃ s, l[k]? = some s := ⟨l[k]'(by rw [HM.out]; exact hkn), by simp⟩
            have HS := Lib.hid hs
            have hne : l ≠ [] := by rintro e; rw [e] at hs; simp at hs
            have e1 := HK.out.1 hne
            subst e1
            have k0 := (HK.out.2.1.below H.out.2.bel (HK.out.2.2 hne)) k s hs
            have hss := HL.out s (List.mem_of_getElem? hs)
            clear hs hne
            by_cases hz : s.size = 0
            · have p1 : ((s.size : Int) == 0) = true := by rw [beq_iff_eq]; omega
              have hv : V = 4 := HC.out.trans (by rw [show l.all spB = false from List.all_eq_false.2 ⟨s, List.mem_of_getElem? HS.out, by rw [spB_not_empty hz]; simp⟩]; rfl)
              subst hv
              clear hz
              go_wp2_with fail
              go_ret
              exact ⟨rfl, H.out.2.bel⟩
            · have p1 : ((s.size : Int) == 0) = false := by rw [beq_eq_false_iff_ne]; omega
              have hsp : spB s = s.data.toList.all isL := spB_pos (by omega)
              have C61 := Lib.hid (fun W => letters61 s hss W)
              by_cases hL : s.data.toList.all isL = true
              · rw [hL] at C61
                have S1 := Lib.hid (show (∀ j t, j < k + 1 → l[j]? = some t → spB t = true) ∧ KS w [(w.heap.size, rulesC a n c R.soft R.al R.ot R.sk R.ss R.db, 24)] wr from ⟨fun j t hj ht => by
                  rcases Nat.lt_or_ge j k with h | h
                  · exact H.out.1 j t h ht
                  · obtain rfl : j = k := by omega
                    rw [HS.out] at ht; cases ht; rw [hsp, hL], H.out.2⟩)
                clear hsp hL hz
                go_wp2_with (go_at_call 61; (with_reducible refine (C61.out _).mono ?_); rintro e w1 ⟨rfl, rfl⟩)
                go_roundw
                case rel => exact ⟨k + 1, by omega, by go_num, S1.out⟩
                case measure => simp [intOf]; omega
              · have hL2 : s.data.toList.all isL = false := by simpa using hL
                rw [hL2] at C61
                have hv : V = 4 := HC.out.trans (by rw [show l.all spB = false from List.all_eq_false.2 ⟨s, List.mem_of_getElem? HS.out, by rw [hsp, hL2]; simp⟩]; rfl)
                subst hv
                clear hsp hL hL2 hz
                go_wp2_with (go_at_call 61; (with_reducible refine (C61.out _).mono ?_); rintro e w1 ⟨rfl, rfl⟩)
                go_ret
                exact ⟨rfl, H.out.2.bel⟩
          · obtain rfl : k = i := by omega
            have hv : V = 0 := HC.out.trans (by rw [show l.all spB = true from List.all_eq_true.2 fun s hs => by
              obtain ⟨j, hj, e⟩ := List.mem_iff_getElem.1 hs
              exact H.out.1 j s (by rw [← HM.out]; exact hj) (by rw [List.getElem?_eq_getElem hj, e])]; rfl)
            subst hv
            go_wp2_with fail
            go_ret
            exact ⟨rfl, H.out.2.bel⟩
      · rw [if_neg h0] at hcs
        subst hcs
        have t0 : ((V : Int) == 0) = false := by rw [beq_eq_false_iff_ne]; omega
        have t1 : ((V : Int) != 0) = true := by simp; omega
        clear h0 HV
        go_wp2_with (go_at_call 23; (refine (CF.out _ S1.out.bel).mono ?_); rintro e w1 ⟨rfl, hb⟩; have S2 := Lib.hid (S1.out.below hb); clear hb)
        go_ret
        exact ⟨rfl, S2.out.bel⟩
set_option maxRecDepth 100000 in
set_option maxHeartbeats 1000000 in
theorem fault22 (a : Option Addr) (g o c n : Nat) (R : RB) (w : World) (hN : R.cls.length = n) (hk : SK w a g o R.cls) (ht : Thn R) (a2 : Option Addr) (g2 o2 c2 m : Nat) (l : List ByteArray) (hM : l.length = m) (hk2 : SK w a2 g2 o2 l) (hm : m ≤ 1000) (hl : ∀ x, x ∈ l → x.size ≤ 1000) : Calls Tryz.prog 22 #[rulesV a n c R.soft R.al R.ot R.sk R.ss R.db, .slice a2 m c2] w fun e w' => e = .returned (.int .i64 (chkN R l : Nat)) ∧ Below w.heap.size w w' := by
  by_cases h8 : 8 < n
  · have hv : chkN R l = 3 := by unfold chkN; rw [if_pos (.inl (by omega))]
    rw [hv]
    have p1 : (8 : Int) < (n : Int) := by omega
    clear hk hk2 hM hl hv ht hN h8
    go_enter Tryz.func22, Tryz.ntmps22
    go_wp2_with fail
    go_ret
    exact ⟨rfl, (Below.refl _ _).alloc (Nat.le_refl _) _⟩
  · have p1 : ¬ (8 : Int) < (n : Int) := by omega
    have CF := Lib.hid (fun W (hW : Below w.heap.size w W) => NamesFault_any a g o c n R W hN (hk.below hW) ht a2 g2 o2 c2 m l hM (hk2.below hW) hm hl)
    have s0 := (KS.start w).new (rulesC a n c R.soft R.al R.ot R.sk R.ss R.db) 24
    have S0 := Lib.hid s0
    obtain ⟨kb0_0, kb0_1, kb0_2, kb0_3, kb0_4, kb0_5, kb0_6⟩ := (s0.blkAt 0 rfl).c7
    generalize chkN R l = V at *
    clear s0 hk hk2 hM hl ht hN h8
    go_enter Tryz.func22, Tryz.ntmps22
    go_wp2_with (go_at_call 60; (refine (CF.out _ S0.out.bel).mono ?_); rintro e w1 ⟨rfl, hb⟩; have S2 := Lib.hid (S0.out.below hb); clear hb)
    go_ret
    exact ⟨rfl, S2.out.bel⟩
end Go.Proofs.YtkdflgaahhnigaaGreat

namespace Go.Proofs.YtkdflgaahhnigaaGreat
open Go.RowKit Go.Shelf

def thinB (R : RB) (l : List ByteArray) : Bool := shB R.cls && (decide (R.soft.size ≤ 40) && shB l)
def readyB (R : RB) (l : List ByteArray) : Bool := thinB R l && decide (chkN R l = 0)
theorem shB_len {l : List ByteArray} (h : shB l = true) : l.length ≤ 15 ∧ ∀ s, s ∈ l → s.size ≤ 40 := by
  simp only [shB, Bool.and_eq_true, decide_eq_true_eq, List.all_eq_true] at h
  exact h
theorem thin_thn {R : RB} {l : List ByteArray} (h : thinB R l = true) : Thn R := by
  simp only [thinB, Bool.and_eq_true, decide_eq_true_eq] at h
  obtain ⟨h1, h2⟩ := shB_len h.1
  exact ⟨by omega, fun c hc => by have := h2 c hc; omega, by have := h.2.1; omega⟩
theorem thin_l {R : RB} {l : List ByteArray} (h : thinB R l = true) : l.length ≤ 15 ∧ ∀ s, s ∈ l → s.size ≤ 40 := by
  simp only [thinB, Bool.and_eq_true] at h
  exact shB_len h.2.2
def HypL (w : World) (a : Option Addr) (g o : Nat) (n : Nat) (l : List ByteArray) : Prop := l.length = n ∧ SK w a g o l
set_option maxRecDepth 100000 in
set_option maxHeartbeats 1000000 in
theorem Thin17 (a : Option Addr) (g o c n : Nat) (R : RB) (w : World) (hN : R.cls.length = n) (hk : SK w a g o R.cls) (a2 : Option Addr) (g2 o2 c2 m : Nat) (l : List ByteArray) (hM : l.length = m) (hk2 : SK w a2 g2 o2 l) : Calls Tryz.prog 17 #[rulesV a n c R.soft R.al R.ot R.sk R.ss R.db, .slice a2 m c2] w fun e w' => e = .returned (.bool (thinB R l)) ∧ Below w.heap.size w w' := by
  have C1 := Lib.hid (fun W (hW : Below w.heap.size w W) => short48 a g o c n R.cls W hN (hk.below hW))
  have C2 := Lib.hid (fun W (hW : Below w.heap.size w W) => short48 a2 g2 o2 c2 m l W hM (hk2.below hW))
  have s0 := (KS.start w).new (rulesC a n c R.soft R.al R.ot R.sk R.ss R.db) 24
  have S0 := Lib.hid s0
  obtain ⟨kb0_0, kb0_1, kb0_2, kb0_3, kb0_4, kb0_5, kb0_6⟩ := (s0.blkAt 0 rfl).c7
  unfold thinB
  generalize shB R.cls = b1 at *
  generalize shB l = b3 at *
  clear hk hk2 hM hN s0
  cases b1 with
  | false =>
    go_enter Tryz.func17, Tryz.ntmps17
    go_wp2_with (go_at_call 48; (refine (C1.out _ S0.out.bel).mono ?_); rintro e w1 ⟨rfl, rfl⟩)
    go_ret
    exact ⟨rfl, S0.out.bel⟩
  | true =>
    by_cases h40 : R.soft.size ≤ 40
    · rw [decide_eq_true h40]
      have p1 : (R.soft.size : Int) ≤ 40 := by omega
      clear h40
      go_enter Tryz.func17, Tryz.ntmps17
      go_wp2_with fail
      refine (C1.out _ S0.out.bel).mono ?_
      rintro e w1 ⟨rfl, rfl⟩
      go_wp2_with fail
      refine (C2.out _ S0.out.bel).mono ?_
      rintro e w1 ⟨rfl, rfl⟩
      go_wp2_with fail
      go_ret
      exact ⟨by simp, S0.out.bel⟩
    · rw [decide_eq_false h40]
      have p1 : ¬ (R.soft.size : Int) ≤ 40 := by omega
      clear h40
      go_enter Tryz.func17, Tryz.ntmps17
      go_wp2_with (go_at_call 48; (refine (C1.out _ S0.out.bel).mono ?_); rintro e w1 ⟨rfl, rfl⟩)
      go_ret
      exact ⟨by simp, S0.out.bel⟩
set_option maxRecDepth 100000 in
set_option maxHeartbeats 1000000 in
theorem ready36 (a : Option Addr) (g o c n : Nat) (R : RB) (w : World) (hN : R.cls.length = n) (hk : SK w a g o R.cls) (a2 : Option Addr) (g2 o2 c2 m : Nat) (l : List ByteArray) (hM : l.length = m) (hk2 : SK w a2 g2 o2 l) : Calls Tryz.prog 36 #[rulesV a n c R.soft R.al R.ot R.sk R.ss R.db, .slice a2 m c2] w fun e w' => e = .returned (.bool (readyB R l)) ∧ Below w.heap.size w w' := by
  have C1 := Lib.hid (fun W (hW : Below w.heap.size w W) => Thin17 a g o c n R W hN (hk.below hW) a2 g2 o2 c2 m l hM (hk2.below hW))
  have s0 := (KS.start w).new (rulesC a n c R.soft R.al R.ot R.sk R.ss R.db) 24
  have S0 := Lib.hid s0
  obtain ⟨kb0_0, kb0_1, kb0_2, kb0_3, kb0_4, kb0_5, kb0_6⟩ := (s0.blkAt 0 rfl).c7
  unfold readyB
  cases hb : thinB R l with
  | false =>
    rw [hb] at C1
    clear hk hk2 hM hN s0 hb
    go_enter Tryz.func36, Tryz.ntmps36
    go_wp2_with (go_at_call 17; (refine (C1.out _ S0.out.bel).mono ?_); rintro e w1 ⟨rfl, hb⟩; have S2 := Lib.hid (S0.out.below hb); clear hb)
    go_ret
    exact ⟨rfl, S2.out.bel⟩
  | true =>
    have ht := thin_thn hb
    have hl := thin_l hb
    have C2 := Lib.hid (fun W (hW : Below w.heap.size w W) => fault22 a g o c n R W hN (hk.below hW) ht a2 g2 o2 c2 m l hM (hk2.below hW) (by omega) (fun x hx => by have := hl.2 x hx; omega))
    rw [hb] at C1
    clear hk hk2 hM hN s0 hb hl ht
    generalize chkN R l = v at *
    by_cases h0 : v = 0
    · subst h0
      go_enter Tryz.func36, Tryz.ntmps36
      go_wp2_with fail
      refine (C1.out _ S0.out.bel).mono ?_
      rintro e w1 ⟨rfl, hb⟩
      have s1 := S0.out.below hb
      have S1 := Lib.hid s1
      clear hb kb0_0 kb0_1 kb0_2 kb0_3 kb0_4 kb0_5 kb0_6
      obtain ⟨kb0_0, kb0_1, kb0_2, kb0_3, kb0_4, kb0_5, kb0_6⟩ := (s1.blkAt 0 rfl).c7
      clear s1
      go_wp2_with fail
      refine (C2.out _ S1.out.bel).mono ?_
      rintro e w2 ⟨rfl, hb⟩
      have S2 := Lib.hid (S1.out.below hb)
      clear hb kb0_0 kb0_1 kb0_2 kb0_3 kb0_4 kb0_5 kb0_6
      go_wp2_with fail
      go_ret
      exact ⟨by simp, S2.out.bel⟩
    · have t0 : ((v : Int) == 0) = false := by rw [beq_eq_false_iff_ne]; omega
      rw [decide_eq_false h0]
      clear h0
      go_enter Tryz.func36, Tryz.ntmps36
      go_wp2_with fail
      refine (C1.out _ S0.out.bel).mono ?_
      rintro e w1 ⟨rfl, hb⟩
      have s1 := S0.out.below hb
      have S1 := Lib.hid s1
      clear hb kb0_0 kb0_1 kb0_2 kb0_3 kb0_4 kb0_5 kb0_6
      obtain ⟨kb0_0, kb0_1, kb0_2, kb0_3, kb0_4, kb0_5, kb0_6⟩ := (s1.blkAt 0 rfl).c7
      clear s1
      go_wp2_with fail
      refine (C2.out _ S1.out.bel).mono ?_
      rintro e w2 ⟨rfl, hb⟩
      have S2 := Lib.hid (S1.out.below hb)
      clear hb kb0_0 kb0_1 kb0_2 kb0_3 kb0_4 kb0_5 kb0_6
      go_wp2_with fail
      go_ret
      exact ⟨by simp, S2.out.bel⟩
end Go.Proofs.YtkdflgaahhnigaaGreat

namespace Go.Proofs.YtkdflgaahhnigaaGreat
open Go.RowKit Go.Shelf

set_option maxRecDepth 100000 in
set_option maxHeartbeats 1000000 in
theorem list28 (a : Option Addr) (g o c n : Nat) (l : List ByteArray) (w : World) (h : SKn w a g o c n l) (hn : n ≤ 900) : Calls Tryz.prog 28 #[.slice a n c] w fun e w' => ∃ v, e = .returned v ∧ w'.ownsRow w.heap.size 9 1 v n (strsV l) ∧ Below w.heap.size w w' := by
  obtain ⟨i0, hi, hz0, hz1, hz2⟩ := info_parts tInfo9
  have hl := h.1
  have H0 := World.ownsRow_lit (base := w.heap.size) (e := 9) (size := 1) w #[] 0 (Nat.le_refl _) (by unfold maxLen; omega) rfl
  have HO := Lib.hid H0
  clear H0
  cases ha : a with
  | none =>
    subst ha
    obtain ⟨e1, e2, e3⟩ := h.none_nil
    subst e1
    subst e2
    subst e3
    go_enter Tryz.func28, Tryz.ntmps28
    go_wp2_with (at_builtin; refine wpList_append_own_none rfl _ _ 22 rfl w.heap.size 9 i0 1 Tryz.underlying22 hi _ _ _ rfl HO.out rfl ?_)
    go_ret
    exact ⟨_, rfl, HO.out, (Below.refl _ _).alloc (Nat.le_refl _) _⟩
  | some ad =>
    subst ha
    have HRD := Lib.hid ((h.below ((Below.refl _ _).alloc (Nat.le_refl _) (.cells #[] 9))).reads)
    clear h
    go_enter Tryz.func28, Tryz.ntmps28
    go_wp2_with (at_builtin; refine wpList_append_own _ rfl _ _ 22 rfl w.heap.size 9 i0 _ 1 16 Tryz.underlying22 hi hz0 hz1 hz2 rfl (by decide) _ _ _ rfl HO.out ad n _ (strsV l) rfl (by simp [strsV, hl]) HRD.out (by intro u hu; simp [strsV] at hu; obtain ⟨y, _, rfl⟩ := hu; rfl) (by unfold maxLen; omega) (by omega) (by simp) ?_; intro v' w5 hown' hgrow _; have HO5 := Lib.hid hown'; have HG := Lib.hid hgrow; clear hown' hgrow)
    go_ret
    refine ⟨_, rfl, by simpa using HO5.out, ?_⟩
    exact ((Below.refl _ w).alloc (Nat.le_refl _) _).grown HG.out (by simp) (fun j e => (HO.out.lt j e).1)
end Go.Proofs.YtkdflgaahhnigaaGreat

namespace Go.Proofs.YtkdflgaahhnigaaGreat
open Go.RowKit Go.Shelf

theorem SK.grown {W W' : World} {a : Option Addr} {g o B : Nat} {l : List ByteArray} (h : SK W a g o l) (hg : W.grownBy W' (some B)) (hne : l ≠ [] → g ≠ B) : SK W' a g o l := by
  refine ⟨h.1, fun i s e => ?_, fun hx => Nat.lt_of_lt_of_le (h.2.2 hx) hg.size⟩
  have hx : l ≠ [] := by rintro e2; rw [e2] at e; simp at e
  have hb := hg.block g (h.2.2 hx) (by simpa using hne hx)
  have := h.2.1 i s e
  simpa [World.cell?, hb] using this
theorem own_le {W : World} {B n c : Nat} {e : TypeId} {xs : List Value} {p : Option Addr} (h : W.ownsRow B e 1 (.slice p n c) n xs) : n ≤ c := by
  rcases h.2 with ⟨h1, h2⟩ | ⟨k, cap, cs, h1, h2⟩
  · cases h1; omega
  · cases h1; omega
set_option maxRecDepth 100000 in
set_option maxHeartbeats 1000000 in
theorem Rules20 (a : Option Addr) (g o c n : Nat) (R : RB) (w : World) (hk : SKn w a g o c n R.cls) (hn : n ≤ 900) : Calls Tryz.prog 20 #[rulesV a n c R.soft R.al R.ot R.sk R.ss R.db] w fun e w' => ∃ a' g' c', e = .returned (rulesV a' n c' R.soft R.al R.ot R.sk R.ss R.db) ∧ SK w' a' g' 0 R.cls ∧ n ≤ c' ∧ Below w.heap.size w w' := by
  have CL := Lib.hid (fun W (hW : Below w.heap.size w W) => list28 a g o c n R.cls W (hk.below hW) hn)
  have s0 := ((KS.start w).new (rulesC a n c R.soft R.al R.ot R.sk R.ss R.db) 24).new (#[.slice none 0 0, .string ⟨#[]⟩, .int .i64 0, .int .i64 0, .int .i64 0, .int .i64 0, .int .i64 0]) 29
  rw [World.size_alloc] at s0
  have S0 := Lib.hid s0
  clear s0 hk
  go_enter Tryz.func20, Tryz.ntmps20
  go_wp2_with fail
  obtain ⟨BS, hBS⟩ : ∃ BS : List (Nat × Array Value × TypeId), BS = [(w.heap.size, rulesC a n c R.soft R.al R.ot R.sk R.ss R.db, 24)] := ⟨_, rfl⟩
  have hS : KS w BS ((w.alloc (.cells (rulesC a n c R.soft R.al R.ot R.sk R.ss R.db) 24)).alloc (.cells (#[.slice none 0 0, .string ⟨#[]⟩, .int .i64 0, .int .i64 0, .int .i64 0, .int .i64 0, .int .i64 0]) 29)).drew := by rw [hBS]; exact S0.out.drew.sub (by simp)
  have HZ := Lib.hid (S0.out.drew.blkAt 0 rfl)
  have K0 : ∀ W, KS w BS W → W.cell? ⟨w.heap.size, 0, none⟩ = some (.slice a n c) := fun W h => by rw [hBS] at h; exact (h.blkAt 0 rfl).cell 0
  have K1 : ∀ W, KS w BS W → W.cell? ⟨w.heap.size, 1, none⟩ = some (.string R.soft) := fun W h => by rw [hBS] at h; exact (h.blkAt 0 rfl).cell 1
  have K2 : ∀ W, KS w BS W → W.cell? ⟨w.heap.size, 2, none⟩ = some (.int .i64 R.al) := fun W h => by rw [hBS] at h; exact (h.blkAt 0 rfl).cell 2
  have K3 : ∀ W, KS w BS W → W.cell? ⟨w.heap.size, 3, none⟩ = some (.int .i64 R.ot) := fun W h => by rw [hBS] at h; exact (h.blkAt 0 rfl).cell 3
  have K4 : ∀ W, KS w BS W → W.cell? ⟨w.heap.size, 4, none⟩ = some (.int .i64 R.sk) := fun W h => by rw [hBS] at h; exact (h.blkAt 0 rfl).cell 4
  have K5 : ∀ W, KS w BS W → W.cell? ⟨w.heap.size, 5, none⟩ = some (.int .i64 R.ss) := fun W h => by rw [hBS] at h; exact (h.blkAt 0 rfl).cell 5
  have K6 : ∀ W, KS w BS W → W.cell? ⟨w.heap.size, 6, none⟩ = some (.int .i64 R.db) := fun W h => by rw [hBS] at h; exact (h.blkAt 0 rfl).cell 6
  have HBS := Lib.hid hBS
  clear hBS
  refine wp_region_held_drew (S := KS w BS) (by kernel_rfl) hS (fun hHeld => ?_)
  clear hS
  refine wpAnyH_take (i := 0) (v := ?_) rfl (by kernel_rfl) (by kernel_rfl) (by kernel_rfl) (fun _ _ _ h => h) (Or.inl ⟨by rfl, ?h0⟩) hHeld ?_
  case h0 =>
    intro w' hSw
    (try dsimp only at hSw)
    go_simp
    (try with_reducible rfl)
  (try simp only [Act.put]); (try simp only [List.setIfInBounds_toArray]); (try simp only [List.set_cons_succ]); (try simp only [List.set_cons_zero])
  refine wpAnyH_take (i := 1) (v := ?_) rfl (by kernel_rfl) (by kernel_rfl) (by kernel_rfl) (fun _ _ _ h => h) (Or.inl ⟨by rfl, ?h1⟩) hHeld ?_
  case h1 =>
    intro w' hSw
    (try dsimp only at hSw)
    go_simp
    (try with_reducible rfl)
  (try simp only [Act.put]); (try simp only [List.setIfInBounds_toArray]); (try simp only [List.set_cons_succ]); (try simp only [List.set_cons_zero])
  refine wpAnyH_take (i := 3) (v := ?_) rfl (by kernel_rfl) (by kernel_rfl) (by kernel_rfl) (fun _ _ _ h => h) (Or.inl ⟨by rfl, ?h3⟩) hHeld ?_
  case h3 =>
    intro w' hSw
    (try dsimp only at hSw)
    go_simp
    (try with_reducible rfl)
  (try simp only [Act.put]); (try simp only [List.setIfInBounds_toArray]); (try simp only [List.set_cons_succ]); (try simp only [List.set_cons_zero])
  refine wpAnyH_take (i := 4) (v := ?_) rfl (by kernel_rfl) (by kernel_rfl) (by kernel_rfl) (fun _ _ _ h => h) (Or.inl ⟨by rfl, ?h4⟩) hHeld ?_
  case h4 =>
    intro w' hSw
    (try dsimp only at hSw)
    go_simp
    (try with_reducible rfl)
  (try simp only [Act.put]); (try simp only [List.setIfInBounds_toArray]); (try simp only [List.set_cons_succ]); (try simp only [List.set_cons_zero])
  refine wpAnyH_take (i := 5) (v := ?_) rfl (by kernel_rfl) (by kernel_rfl) (by kernel_rfl) (fun _ _ _ h => h) (Or.inl ⟨by rfl, ?h5⟩) hHeld ?_
  case h5 =>
    intro w' hSw
    (try dsimp only at hSw)
    go_simp
    (try with_reducible rfl)
  (try simp only [Act.put]); (try simp only [List.setIfInBounds_toArray]); (try simp only [List.set_cons_succ]); (try simp only [List.set_cons_zero])
  refine wpAnyH_take (i := 6) (v := ?_) rfl (by kernel_rfl) (by kernel_rfl) (by kernel_rfl) (fun _ _ _ h => h) (Or.inl ⟨by rfl, ?h6⟩) hHeld ?_
  case h6 =>
    intro w' hSw
    (try dsimp only at hSw)
    go_simp
    (try with_reducible rfl)
  (try simp only [Act.put]); (try simp only [List.setIfInBounds_toArray]); (try simp only [List.set_cons_succ]); (try simp only [List.set_cons_zero])
  refine wpAnyH_take (i := 7) (v := ?_) rfl (by kernel_rfl) (by kernel_rfl) (by kernel_rfl) (fun _ _ _ h => h) (Or.inl ⟨by rfl, ?h7⟩) hHeld ?_
  case h7 =>
    intro w' hSw
    (try dsimp only at hSw)
    go_simp
    (try with_reducible rfl)
  (try simp only [Act.put]); (try simp only [List.setIfInBounds_toArray]); (try simp only [List.set_cons_succ]); (try simp only [List.set_cons_zero])
  refine wpAnyH_take (i := 8) (v := ?_) rfl (by kernel_rfl) (by kernel_rfl) (by kernel_rfl) (fun _ _ _ h => h) (Or.inl ⟨by rfl, ?h8⟩) hHeld ?_
  case h8 =>
    intro w' hSw
    (try dsimp only at hSw)
    go_simp
    (try with_reducible rfl)
  (try simp only [Act.put]); (try simp only [List.setIfInBounds_toArray]); (try simp only [List.set_cons_succ]); (try simp only [List.set_cons_zero])
  refine wpAnyH_take (i := 9) (v := ?_) rfl (by kernel_rfl) (by kernel_rfl) (by kernel_rfl) (fun _ _ _ h => h) (Or.inl ⟨by rfl, ?h9⟩) hHeld ?_
  case h9 =>
    intro w' hSw
    (try dsimp only at hSw)
    go_simp
    (try with_reducible rfl)
  (try simp only [Act.put]); (try simp only [List.setIfInBounds_toArray]); (try simp only [List.set_cons_succ]); (try simp only [List.set_cons_zero])
  refine wpAnyH_take (i := 10) (v := ?_) rfl (by kernel_rfl) (by kernel_rfl) (by kernel_rfl) (fun _ _ _ h => h) (Or.inl ⟨by rfl, ?h10⟩) hHeld ?_
  case h10 =>
    intro w' hSw
    (try dsimp only at hSw)
    go_simp
    (try with_reducible rfl)
  (try simp only [Act.put]); (try simp only [List.setIfInBounds_toArray]); (try simp only [List.set_cons_succ]); (try simp only [List.set_cons_zero])
  refine wpAnyH_take (i := 11) (v := ?_) rfl (by kernel_rfl) (by kernel_rfl) (by kernel_rfl) (fun _ _ _ h => h) (Or.inl ⟨by rfl, ?h11⟩) hHeld ?_
  case h11 =>
    intro w' hSw
    (try dsimp only at hSw)
    go_simp
    (try with_reducible rfl)
  (try simp only [Act.put]); (try simp only [List.setIfInBounds_toArray]); (try simp only [List.set_cons_succ]); (try simp only [List.set_cons_zero])
  refine wpAnyH_take (i := 12) (v := ?_) rfl (by kernel_rfl) (by kernel_rfl) (by kernel_rfl) (fun _ _ _ h => h) (Or.inl ⟨by rfl, ?h12⟩) hHeld ?_
  case h12 =>
    intro w' hSw
    (try dsimp only at hSw)
    go_simp
    (try with_reducible rfl)
  (try simp only [Act.put]); (try simp only [List.setIfInBounds_toArray]); (try simp only [List.set_cons_succ]); (try simp only [List.set_cons_zero])
  refine wpAnyH_take (i := 13) (v := ?_) rfl (by kernel_rfl) (by kernel_rfl) (by kernel_rfl) (fun _ _ _ h => h) (Or.inl ⟨by rfl, ?h13⟩) hHeld ?_
  case h13 =>
    intro w' hSw
    (try dsimp only at hSw)
    go_simp
    (try with_reducible rfl)
  (try simp only [Act.put]); (try simp only [List.setIfInBounds_toArray]); (try simp only [List.set_cons_succ]); (try simp only [List.set_cons_zero])
  refine wpAnyH_take (i := 14) (v := ?_) rfl (by kernel_rfl) (by kernel_rfl) (by kernel_rfl) (fun _ _ _ h => h) (Or.inl ⟨by rfl, ?h14⟩) hHeld ?_
  case h14 =>
    intro w' hSw
    (try dsimp only at hSw)
    go_simp
    (try with_reducible rfl)
  (try simp only [Act.put]); (try simp only [List.setIfInBounds_toArray]); (try simp only [List.set_cons_succ]); (try simp only [List.set_cons_zero])
  refine wpAnyH_ready (rs := [2]) (by kernel_rfl) (by simp) ?_
  refine AllReadyH.cons rfl (fun K hK => ?_) (AllReadyH.nil)
  go_simp
  (refine (CL.out _ hHeld.bel).mono ?_)
  rintro e w2 ⟨v, rfl, hv, hb⟩
  obtain ⟨a2, g2, c2, rfl, h2, h2l⟩ := sk_of_row hv
  have hle := own_le hv
  have HZ2 := Lib.hid (HZ.out.b hb)
  have hS2 := hHeld.below hb
  have H2 := Lib.hid h2
  have hlt2 : ∀ x : R.cls ≠ [], g2 ≠ w.heap.size + 1 := fun x => by
    have e := h2.1 x
    have := (hv.lt g2 (by rw [e]; rfl)).1
    simp at this; omega
  refine hK.out _ _ hS2 (fun hHeld => ?_)
  clear hK K hv hb hS2 h2 h2l
  (try simp only [Act.put]); (try simp only [List.setIfInBounds_toArray]); (try simp only [List.set_cons_succ]); (try simp only [List.set_cons_zero])
  refine wpAnyH_ready (rs := [15]) (by kernel_rfl) (by simp) ?_
  refine AllReadyH.cons rfl (fun K hK => ?_) (AllReadyH.nil)
  go_simp
  refine hK.out _ _ hHeld (fun hHeld => ?_)
  clear hK K
  (try simp only [Act.put]); (try simp only [List.setIfInBounds_toArray]); (try simp only [List.set_cons_succ]); (try simp only [List.set_cons_zero])
  refine wpAnyH_ready (rs := [16]) (by kernel_rfl) (by simp) ?_
  refine AllReadyH.cons rfl (fun K hK => ?_) (AllReadyH.nil)
  refine step_store_row rfl 29 _ _ rfl (w.heap.size + 1) rfl 29 (#[.slice none 0 0, .string ⟨#[]⟩, .int .i64 0, .int .i64 0, .int .i64 0, .int .i64 0, .int .i64 0]) #[.slice a2 n c2, .string R.soft, .int .i64 R.al, .int .i64 R.ot, .int .i64 R.sk, .int .i64 R.ss, .int .i64 R.db] rfl HZ2.out (by kernel_rfl) rfl (by simp [Value.oneCell']) ?_
  intro w3 hb3 hg3
  have hS3 : KS w BS w3 := by rw [HBS.out]; have h := hHeld; rw [HBS.out] at h; exact KS1_row h hg3 (fun r e => by cases e; omega)
  have HB3 := Lib.hid hb3
  have HK3 := Lib.hid (H2.out.grown hg3 hlt2)
  refine hK.out _ _ hS3 (fun hHeld => ?_)
  clear hK K hS3 hb3 hg3
  (try simp only [Act.put]); (try simp only [List.setIfInBounds_toArray]); (try simp only [List.set_cons_succ]); (try simp only [List.set_cons_zero])
  refine wpAnyH_done (by kernel_rfl) ?_ _
  have HB := Lib.hid hHeld.bel
  clear hHeld
  go_wp2_with fail
  have hlv := run_loadVar_mid (P := Tryz.prog) _ (w.heap.size + 1) 0 29 [.slice a2 n c2, .string R.soft, .int .i64 R.al, .int .i64 R.ot, .int .i64 R.sk, .int .i64 R.ss, .int .i64 R.db] _ (Blk.range HB3.out) Tryz.underlying29 rfl (by kernel_rfl)
  refine bodyPost_ret (v := rulesV a2 n c2 R.soft R.al R.ot R.sk R.ss R.db) (by simp [results, Tryz.results20, asAddr, hlv]) rfl ⟨a2, g2, c2, rfl, HK3.out, hle, HB.out⟩
end Go.Proofs.YtkdflgaahhnigaaGreat

namespace Go.Proofs.YtkdflgaahhnigaaGreat
open Go.RowKit Go.Shelf Go.Joins Go.ChangeShapes Go.WideShapes Go.Deep

section
variable {H : Type} {enc : TypeId × Value → H} {P : Program} {w : World} {base : Nat} {spare : Nat → Bool} {held : Bool}
theorem open_agg7 {r : Reach} {b0 : Nat} {t : TypeId} {f0 f1 f2 f3 f4 f5 f6 : Field} {v : Value} {d : DataW H} {p : List MemPlace} (hs : P.underlying t = some (.struct #[f0, f1, f2, f3, f4, f5, f6])) (hone : oneCellFields P #[f0, f1, f2, f3, f4, f5, f6] = true) (hC : P.cellsOf t = 7)
    (hv : Value.okWide P w r b0 t v) (h : DataW.Trod enc P w base spare held t v d p) :
    ∃ (v0 v1 v2 v3 v4 v5 v6 : Value) (y0 y1 y2 y3 y4 y5 y6 : DataW H × List MemPlace) (n : Nat), v = .agg #[v0, v1, v2, v3, v4, v5, v6] ∧ d = .agg [y0.1, y1.1, y2.1, y3.1, y4.1, y5.1, y6.1] ∧ p = y0.2 ++ (y1.2 ++ (y2.2 ++ (y3.2 ++ (y4.2 ++ (y5.2 ++ y6.2))))) ∧
      DataW.trod enc P w base spare held n f0.type [v0] = some y0 ∧ DataW.trod enc P w base spare held n f1.type [v1] = some y1 ∧ DataW.trod enc P w base spare held n f2.type [v2] = some y2 ∧ DataW.trod enc P w base spare held n f3.type [v3] = some y3 ∧ DataW.trod enc P w base spare held n f4.type [v4] = some y4 ∧ DataW.trod enc P w base spare held n f5.type [v5] = some y5 ∧ DataW.trod enc P w base spare held n f6.type [v6] = some y6 := by
  obtain ⟨cs, rfl, hsz⟩ := okWide_struct hs hv
  obtain ⟨l⟩ := cs
  match l, hsz.trans hC with
  | [c0, c1, c2, c3, c4, c5, c6], _ =>
    obtain ⟨fuel, hf⟩ := h
    obtain ⟨xs, n, _, hx, _, hlen, hg⟩ := DataW.trod_struct hs hf
    obtain ⟨o0, k0⟩ := hone_of hone 0 f0 rfl
    obtain ⟨o1, k1⟩ := hone_of hone 1 f1 rfl
    obtain ⟨o2, k2⟩ := hone_of hone 2 f2 rfl
    obtain ⟨o3, k3⟩ := hone_of hone 3 f3 rfl
    obtain ⟨o4, k4⟩ := hone_of hone 4 f4 rfl
    obtain ⟨o5, k5⟩ := hone_of hone 5 f5 rfl
    obtain ⟨o6, k6⟩ := hone_of hone 6 f6 rfl
    match xs, hlen with
    | [y0, y1, y2, y3, y4, y5, y6], _ =>
      simp only [Prod.mk.injEq] at hx
      exact ⟨c0, c1, c2, c3, c4, c5, c6, y0, y1, y2, y3, y4, y5, y6, n, rfl, by simpa using hx.1, by simpa using hx.2, by simpa [Value.cells, o0, k0] using hg 0 f0 rfl, by simpa [Value.cells, o1, k1] using hg 1 f1 rfl, by simpa [Value.cells, o2, k2] using hg 2 f2 rfl, by simpa [Value.cells, o3, k3] using hg 3 f3 rfl, by simpa [Value.cells, o4, k4] using hg 4 f4 rfl, by simpa [Value.cells, o5, k5] using hg 5 f5 rfl, by simpa [Value.cells, o6, k6] using hg 6 f6 rfl⟩
end
section
variable {H : Type} {enc : TypeId × Value → H} {w : World} {base : Nat} {spare : Nat → Bool} {held : Bool}
theorem row_of_strs {fuel : Nat} {v : Value} {x : DataW H × List MemPlace} (h : DataW.trod enc Tryz.prog w base spare held fuel 22 [v] = some x) :
    ∃ (a : Option Addr) (n c g o : Nat) (l : List ByteArray), v = .slice a n c ∧ SKn w a g o c n l ∧ n ≤ c := by
  rcases open_strings Tryz.underlying22 Tryz.underlying9 (by kernel_rfl) h with ⟨hcs, _⟩ | ⟨x, len, cap, ss, hcs, _, hl, hm, hz, _, hcell, _⟩
  · simp at hcs
    exact ⟨none, 0, 0, 0, 0, [], hcs, skn_nil w, Nat.le_refl _⟩
  · simp at hcs
    subst hcs
    have hzl : len ≤ ss.length := by rw [hz]; split <;> omega
    have hlen : (ss.take len).length = len := by simp; omega
    by_cases h0 : len = 0
    · subst h0
      exact ⟨some x, 0, cap, 0, 0, [], rfl, ⟨rfl, ⟨fun h => absurd rfl h, fun i a e => by simp at e, fun h => absurd rfl h⟩, fun h => by cases h⟩, hl⟩
    · obtain ⟨b, o, sp⟩ := x
      have hc0 := hcell 0 (by omega)
      have hsp : sp = none := by simpa [Addr.add] using World.cell?_spot hc0
      subst hsp
      have hlt := World.block_lt_of_cell? w _ hc0
      refine ⟨_, len, cap, b, o, ss.take len, rfl, ⟨hlen, ⟨fun _ => rfl, fun i s e => ?_, fun _ => by simpa [Addr.add] using hlt⟩, fun h => by cases h⟩, hl⟩
      have hi : i < len := by have := (List.getElem?_eq_some_iff.1 e).1; omega
      have h1 := hcell i (by omega)
      rw [List.getElem?_take, if_pos hi] at e
      rw [List.getD_eq_getElem?_getD, e] at h1
      by_cases hj : i = 0
      · subst hj; simpa [Addr.add] using h1
      · simpa [Addr.add, hj] using h1
set_option maxRecDepth 100000 in
theorem open_rules {r : Reach} {b0 : Nat} {v : Value} {d : DataW H} {p : List MemPlace} (hv : Value.okWide Tryz.prog w r b0 24 v) (h : DataW.Trod enc Tryz.prog w base spare held 24 v d p) :
    ∃ (a : Option Addr) (n c g o : Nat) (R : RB), v = rulesV a n c R.soft R.al R.ot R.sk R.ss R.db ∧ SKn w a g o c n R.cls ∧ n ≤ c := by
  obtain ⟨v0, v1, v2, v3, v4, v5, v6, y0, y1, y2, y3, y4, y5, y6, n, rfl, _, _, h0, h1, h2, h3, h4, h5, h6⟩ := open_agg7 Tryz.underlying24 (by kernel_rfl) (by kernel_rfl : Tryz.prog.cellsOf 24 = 7) hv h
  obtain ⟨a, m, c, g, o, l, rfl, hk, hc⟩ := row_of_strs h0
  obtain ⟨s, e1, _⟩ := DataW.trod_string Tryz.underlying9 h1
  obtain ⟨n2, e2, _⟩ := DataW.trod_int Tryz.underlying3 h2
  obtain ⟨n3, e3, _⟩ := DataW.trod_int Tryz.underlying3 h3
  obtain ⟨n4, e4, _⟩ := DataW.trod_int Tryz.underlying3 h4
  obtain ⟨n5, e5, _⟩ := DataW.trod_int Tryz.underlying3 h5
  obtain ⟨n6, e6, _⟩ := DataW.trod_int Tryz.underlying3 h6
  simp at e1 e2 e3 e4 e5 e6
  subst e1 e2 e3 e4 e5 e6
  exact ⟨a, m, c, g, o, ⟨l, s, n2, n3, n4, n5, n6⟩, rfl, hk, hc⟩
end
/-- no more names, no fewer rules -/
theorem chkN_intro {R : RB} {l : List ByteArray} (hg : Good R) (h : ∀ x, x ∈ l → x.size ≤ 12 ∧ spB x = true) : chkN R l = 0 := by
  unfold chkN
  have h1 : (l.all fun s => decide (s.size ≤ 12)) = true := List.all_eq_true.2 fun x hx => by simpa using (h x hx).1
  have h2 : l.all spB = true := List.all_eq_true.2 fun x hx => (h x hx).2
  have := hg.n8
  rw [h1, h2, hg.rul, if_neg (by simp; omega)]; rfl
theorem chkN_sub {R : RB} {l l' : List ByteArray} (h : chkN R l = 0) (hs : ∀ x, x ∈ l' → x ∈ l) : chkN R l' = 0 := by
  obtain ⟨hg, hl⟩ := chkN_ok h
  exact chkN_intro hg fun x hx => hl x (hs x hx)
theorem ready_parts {R : RB} {l : List ByteArray} (h : readyB R l = true) : Thn R ∧ R.cls.length ≤ 15 ∧ chkN R l = 0 ∧ l.length ≤ 15 ∧ ∀ s, s ∈ l → s.size ≤ 12 := by
  simp only [readyB, Bool.and_eq_true, decide_eq_true_eq] at h
  have h1 := h.1
  simp only [thinB, Bool.and_eq_true] at h1
  exact ⟨thin_thn h.1, (shB_len h1.1).1, h.2, (thin_l h.1).1, fun s hs => ((chkN_ok h.2).2 s hs).1⟩
end Go.Proofs.YtkdflgaahhnigaaGreat
