/- Texts of this seat, merged. -/
import Derived.Test.YtdfebccmjbocjaaGreatDoorNaG2
import Derived.Deep.Onto
import Derived.Lib.SmallJoins
import Derived.Lib.AppendZerosOnto
import Derived.Lib.SliceRun
import Derived.Laws.AppendOwnNone
import Derived.Sort.LotA
import Derived.Test.YtdfebccmjbocjaaGreatDoorNaG1
import Derived.Sort.OwnSortedInts
import Derived.Lib.OwnBridge
import Derived.Shelf.SlSortCmp.Insertion
import Derived.Lib.BufferWrite
import Derived.ProofKit
import Derived.ChangeSlices
import Derived.SliceStrings
import Derived.Deep.Slices
import Derived.Deep.Fields
import Derived.ChangeSame
import Derived.ShutString
set_option linter.unusedVariables false
set_option linter.unusedSimpArgs false
namespace Go.Proofs.YtdfebccmjbocjaaGreatDoor.Na
open Go.RowKit Go.Shelf

theorem chkN_long {R : RB} {l : List ByteArray} {i : Nat} {s : ByteArray} (h : l[i]? = some s) (h2 : ¬ s.size ≤ 12) : chkN R l = 3 := by
  unfold chkN
  have : (l.all fun s => decide (s.size ≤ 12)) = false := List.all_eq_false.2 ⟨s, List.mem_of_getElem? h, by simpa using h2⟩
  rw [if_pos (.inr this)]
theorem chkN_short {R : RB} {l : List ByteArray} (h : ∀ (i : Nat) (s : ByteArray), l[i]? = some s → s.size ≤ 12) : chkN R l = if chk R = 0 then (if l.all spB then 0 else 4) else chk R := by
  unfold chkN chk
  have : (l.all fun s => decide (s.size ≤ 12)) = true := List.all_eq_true.2 fun s hs => by
    obtain ⟨i, hi, e⟩ := List.mem_iff_getElem.1 hs
    have := h i s (by rw [List.getElem?_eq_getElem hi, e])
    simpa using this
  rw [this]
  by_cases h8 : 8 < R.cls.length
  · rw [if_pos h8, if_pos (.inl h8)]; rfl
  · rw [if_neg h8, if_neg (by simpa using h8)]
    cases rulB R <;> rfl
theorem spB_not_empty {s : ByteArray} (h : s.size = 0) : spB s = false := by
  unfold spB
  have : s.data.toList = [] := List.eq_nil_of_length_eq_zero (by simpa using h)
  rw [this]; rfl
theorem spB_pos {s : ByteArray} (h : 0 < s.size) : spB s = s.data.toList.all isL := by
  unfold spB
  have h1 : s.data.toList.isEmpty = false := by
    cases e : s.data.toList with
    | nil => have h2 : s.data.toList.length = s.size := by simp
             rw [e] at h2; simp at h2; omega
    | cons x t => rfl
  rw [h1]; rfl
set_option maxRecDepth 100000 in
set_option maxHeartbeats 4000000 in
theorem NamesFault_any (a : Option Addr) (g o c n : Nat) (R : RB) (w : World) (hN : R.cls.length = n) (hk : SK w a g o R.cls) (ht : Thn R) (a2 : Option Addr) (g2 o2 c2 m : Nat) (l : List ByteArray) (hM : l.length = m) (hk2 : SK w a2 g2 o2 l) (hm : m ≤ 1000) (hl : ∀ x, x ∈ l → x.size ≤ 1000) : Calls Tryz.prog 7 #[rulesV a n c R.soft R.al R.ot R.sk R.ss R.db, .slice a2 m c2] w fun e w' => e = .returned (.int .i64 (chkN R l : Nat)) ∧ Below w.heap.size w w' := by
  have CF := Lib.hid (fun W (hW : Below w.heap.size w W) => Fault_any a g o c n R W hN (hk.below hW) ht)
  have HK := Lib.hid hk2
  have HM := Lib.hid hM
  have HL := Lib.hid hl
  generalize hV : chkN R l = V
  have HV := Lib.hid hV
  have s0 := (KS.start w).new (rulesC a n c R.soft R.al R.ot R.sk R.ss R.db) 24
  have S0 := Lib.hid s0
  obtain ⟨kb0_0, kb0_1, kb0_2, kb0_3, kb0_4, kb0_5, kb0_6⟩ := (s0.blkAt 0 rfl).c7
  clear s0 hk hk2 hM hl hV ht hN
  go_enter Tryz.func7, Tryz.ntmps7
  go_wp2_with fail
  clear kb0_0 kb0_1 kb0_2 kb0_3 kb0_4 kb0_5 kb0_6
  go_loopw [5] (fun y wr => ∃ i : Nat, i ≤ m ∧ y = .int .i64 (i : Int) ∧ Hid ((∀ j s, j < i → l[j]? = some s → s.size ≤ 12) ∧ KS w [(w.heap.size, rulesC a n c R.soft R.al R.ot R.sk R.ss R.db, 24)] wr)) (fun y _ => m - (intOf y).toNat)
  case atStart => exact ⟨0, Nat.zero_le _, rfl, fun j s h => by omega, S0.out⟩
  case round =>
    clear S0
    obtain ⟨i, hi, rfl, H⟩ := hrel
    by_cases hin : i < m
    · obtain ⟨s, hs⟩ : ∃ s, l[i]? = some s := ⟨l[i]'(by rw [HM.out]; exact hin), by simp⟩
      have HS := Lib.hid hs
      have hne : l ≠ [] := by rintro e; rw [e] at hs; simp at hs
      have e1 := HK.out.1 hne
      subst e1
      have k0 := (HK.out.2.1.below H.out.2.bel (HK.out.2.2 hne)) i s hs
      clear hs hne
      by_cases h12 : s.size ≤ 12
      · have p1 : ¬ (12 : Int) < (s.size : Int) := by omega
        have S1 := Lib.hid (show (∀ j t, j < i + 1 → l[j]? = some t → t.size ≤ 12) ∧ KS w [(w.heap.size, rulesC a n c R.soft R.al R.ot R.sk R.ss R.db, 24)] wr from ⟨fun j t hj ht => by
          rcases Nat.lt_or_ge j i with h | h
          · exact H.out.1 j t h ht
          · obtain rfl : j = i := by omega
            rw [HS.out] at ht; cases ht; exact h12, H.out.2⟩)
        go_wp2_with fail
        go_roundw
        case rel => exact ⟨i + 1, by omega, by go_num, S1.out⟩
        case measure => simp [intOf]; omega
      · have p1 : (12 : Int) < (s.size : Int) := by omega
        have hv : V = 3 := HV.out.symm.trans (chkN_long HS.out h12)
        subst hv
        go_wp2_with fail
        go_ret
        exact ⟨rfl, H.out.2.bel⟩
    · obtain rfl : i = m := by omega
      have hcs : V = if chk R = 0 then (if l.all spB then 0 else 4) else chk R := HV.out.symm.trans (chkN_short fun j s h => H.out.1 j s (by rw [← HM.out]; exact (List.getElem?_eq_some_iff.1 h).1) h)
      have S1 := Lib.hid H.out.2
      obtain ⟨kb0_0, kb0_1, kb0_2, kb0_3, kb0_4, kb0_5, kb0_6⟩ := (H.out.2.blkAt 0 rfl).c7
      clear H
      generalize chk R = v at *
      by_cases h0 : v = 0
      · rw [if_pos h0] at hcs
        subst h0
        have HC := Lib.hid hcs
        clear hcs HV
        go_wp2_with (go_at_call 6; (refine (CF.out _ S1.out.bel).mono ?_); rintro e w1 ⟨rfl, hb⟩; have S2 := Lib.hid (S1.out.below hb); clear hb)
        clear kb0_0 kb0_1 kb0_2 kb0_3 kb0_4 kb0_5 kb0_6 S1
        go_loopw [7] (fun y wr => ∃ k : Nat, k ≤ i ∧ y = .int .i64 (k : Int) ∧ Hid ((∀ j s, j < k → l[j]? = some s → spB s = true) ∧ KS w [(w.heap.size, rulesC a n c R.soft R.al R.ot R.sk R.ss R.db, 24)] wr)) (fun y _ => i - (intOf y).toNat)
        case atStart => exact ⟨0, Nat.zero_le _, rfl, fun j s h => by omega, S2.out⟩
        case round =>
          clear S2
          obtain ⟨k, hk, rfl, H⟩ := hrel
          by_cases hkn : k < i
          · obtain ⟨s, hs⟩ : ∃ s, l[k]? = some s := ⟨l[k]'(by rw [HM.out]; exact hkn), by simp⟩
            have HS := Lib.hid hs
            have hne : l ≠ [] := by rintro e; rw [e] at hs; simp at hs
            have e1 := HK.out.1 hne
            subst e1
            have k0 := (HK.out.2.1.below H.out.2.bel (HK.out.2.2 hne)) k s hs
            have hss := HL.out s (List.mem_of_getElem? hs)
            clear hs hne
            by_cases hz : s.size = 0
            · have p1 : ((s.size : Int) == 0) = true := by rw [beq_iff_eq]; omega
              have hv : V = 4 := HC.out.trans (by rw [show l.all spB = false from List.all_eq_false.2 ⟨s, List.mem_of_getElem? HS.out, by rw [spB_not_empty hz]; simp⟩]; rfl)
              subst hv
              clear hz
              go_wp2_with fail
              go_ret
              exact ⟨rfl, H.out.2.bel⟩
            · have p1 : ((s.size : Int) == 0) = false := by rw [beq_eq_false_iff_ne]; omega
              have hsp : spB s = s.data.toList.all isL := spB_pos (by omega)
              have C61 := Lib.hid (fun W => letters61 s hss W)
              by_cases hL : s.data.toList.all isL = true
              · rw [hL] at C61
                have S1 := Lib.hid (show (∀ j t, j < k + 1 → l[j]? = some t → spB t = true) ∧ KS w [(w.heap.size, rulesC a n c R.soft R.al R.ot R.sk R.ss R.db, 24)] wr from ⟨fun j t hj ht => by
                  rcases Nat.lt_or_ge j k with h | h
                  · exact H.out.1 j t h ht
                  · obtain rfl : j = k := by omega
                    rw [HS.out] at ht; cases ht; rw [hsp, hL], H.out.2⟩)
                clear hsp hL hz
                go_wp2_with (go_at_call 25; (with_reducible refine (C61.out _).mono ?_); rintro e w1 ⟨rfl, rfl⟩)
                go_roundw
                case rel => exact ⟨k + 1, by omega, by go_num, S1.out⟩
                case measure => simp [intOf]; omega
              · have hL2 : s.data.toList.all isL = false := by simpa using hL
                rw [hL2] at C61
                have hv : V = 4 := HC.out.trans (by rw [show l.all spB = false from List.all_eq_false.2 ⟨s, List.mem_of_getElem? HS.out, by rw [hsp, hL2]; simp⟩]; rfl)
                subst hv
                clear hsp hL hL2 hz
                go_wp2_with (go_at_call 25; (with_reducible refine (C61.out _).mono ?_); rintro e w1 ⟨rfl, rfl⟩)
                go_ret
                exact ⟨rfl, H.out.2.bel⟩
          · obtain rfl : k = i := by omega
            have hv : V = 0 := HC.out.trans (by rw [show l.all spB = true from List.all_eq_true.2 fun s hs => by
              obtain ⟨j, hj, e⟩ := List.mem_iff_getElem.1 hs
              exact H.out.1 j s (by rw [← HM.out]; exact hj) (by rw [List.getElem?_eq_getElem hj, e])]; rfl)
            subst hv
            go_wp2_with fail
            go_ret
            exact ⟨rfl, H.out.2.bel⟩
      · rw [if_neg h0] at hcs
        subst hcs
        have t0 : ((V : Int) == 0) = false := by rw [beq_eq_false_iff_ne]; omega
        have t1 : ((V : Int) != 0) = true := by simp; omega
        clear h0 HV
        go_wp2_with (go_at_call 6; (refine (CF.out _ S1.out.bel).mono ?_); rintro e w1 ⟨rfl, hb⟩; have S2 := Lib.hid (S1.out.below hb); clear hb)
        go_ret
        exact ⟨rfl, S2.out.bel⟩
end Go.Proofs.YtdfebccmjbocjaaGreatDoor.Na
namespace Go.Proofs.YtdfebccmjbocjaaGreatDoor.Na
open Go.RowKit Go.Shelf

set_option maxRecDepth 100000 in
set_option maxHeartbeats 1000000 in
theorem Has38 (s : ByteArray) (hs : s.size ≤ 1000) (b : UInt8) (w : World) : Calls Tryz.prog 33 #[.string s, .int .u8 (b.toNat : Int)] w fun e w' => e = .returned (.bool (inS s b)) ∧ w' = w := by
  generalize hB : inS s b = B
  have HB := Lib.hid hB
  clear hB
  go_enter Tryz.func33, Tryz.ntmps33
  go_wp2_with fail
  go_loopw [5] (fun y wr => wr = w ∧ ∃ i : Nat, i ≤ s.size ∧ y = .int .i64 (i : Int) ∧ Hid (∀ j (h : j < s.size), j < i → s[j] ≠ b)) (fun y _ => s.size - (intOf y).toNat)
  case atStart => exact ⟨rfl, 0, Nat.zero_le _, rfl, fun j s h => by omega⟩
  case round =>
    obtain ⟨hw, i, hi1, rfl, HS⟩ := hrel
    replace hw := hw.symm
    subst hw
    by_cases hin : i < s.size
    · by_cases hL : s[i] = b
      · have hB : B = true := by
          rw [← HB.out]
          unfold inS
          rw [decide_eq_true_eq, ← hL]
          exact List.getElem_mem (l := s.data.toList) (n := i) (by simpa using hin)
        subst hB
        have t0 : ((s[i].toNat : Int) == (b.toNat : Int)) = true := by rw [hL]; simp
        clear hL
        go_wp2_with fail
        go_ret
        exact ⟨rfl, rfl⟩
      · have t0 : ((s[i].toNat : Int) == (b.toNat : Int)) = false := by
          rw [beq_eq_false_iff_ne]
          intro e
          exact hL (UInt8.toNat_inj.1 (by omega))
        have HS2 := Lib.hid (show ∀ j (h : j < s.size), j < i + 1 → s[j] ≠ b from fun j h hj => by
          rcases Nat.lt_or_ge j i with h2 | h2
          · exact HS.out j h h2
          · obtain rfl : j = i := by omega
            exact hL)
        clear hL
        go_wp2_with fail
        go_roundw
        case rel => exact ⟨by trivial, i + 1, by omega, by go_num, HS2.out⟩
        case measure => simp [intOf]; omega
    · have hB : B = false := by
        rw [← HB.out]
        unfold inS
        rw [decide_eq_false_iff_not]
        intro hm
        obtain ⟨j, hj, e⟩ := List.mem_iff_getElem.1 hm
        have hj' : j < s.size := by simpa using hj
        exact HS.out j hj' (by omega) e
      subst hB
      go_wp2_with fail
      go_ret
      exact ⟨rfl, rfl⟩
def skI (R : RB) (t : ByteArray) (i : Nat) : Int := skV R.soft R.sk R.ss R.db t.data.toList i
theorem skI_nat {R : RB} (hg : Good R) (t : ByteArray) (i : Nat) : skI R t i = (SA R.soft R.sk.toNat R.ss.toNat R.db.toNat t i : Nat) := by
  obtain ⟨_, _, h3, h4, h5⟩ := hg.cos
  unfold skI SA
  rw [← skV_nat, Int.toNat_of_nonneg h3.1, Int.toNat_of_nonneg h4.1, Int.toNat_of_nonneg h5.1]
end Go.Proofs.YtdfebccmjbocjaaGreatDoor.Na
namespace Go.Proofs.YtdfebccmjbocjaaGreatDoor.Na
open Go.RowKit Go.Shelf

theorem tInfo3 : (Tryz.prog.info? 3).map (fun i => (i.zero, i.size, i.bytes)) = some (some (.int .i64 0), 1, 8) := by kernel_rfl
theorem KS1_row {w W W' : World} {rc : Array Value} {t : TypeId} {row : Option Nat} (h : KS w [(w.heap.size, rc, t)] W) (hg : W.grownBy W' row) (hr : ∀ r, row = some r → w.heap.size < r) : KS w [(w.heap.size, rc, t)] W' :=
  ⟨by intro x hx; simp at hx; subst hx; exact (h.blkAt 0 rfl).kept hg (fun e => by have := hr _ e.symm; omega), h.2.grown hg h.2.size (fun r e => by have := hr r e; omega)⟩
def natsV (l : List Nat) : List Value := l.map fun (k : Nat) => .int .i64 (k : Int)
/-- the costs of a name and each of a list -/
def costsL (R : RB) (x : ByteArray) (ys : List ByteArray) : List Nat := ys.map fun y => cR R x y 0 0
/-- a list of valid names -/
def NmsOk (ys : List ByteArray) : Prop := ∀ y, y ∈ ys → y.size ≤ 12 ∧ spB y = true
end Go.Proofs.YtdfebccmjbocjaaGreatDoor.Na
namespace Go.Proofs.YtdfebccmjbocjaaGreatDoor.Na
open Go.RowKit Go.Shelf

def natsOwn (W : World) (B : Nat) (u : Value) (r : List Nat) : Prop := W.ownsRow B 3 1 u r.length (natsV r)
def RowsAt (W : World) (B : Nat) (v : Value) (vs : List Value) (tab : List (List Nat)) : Prop :=
  ∀ (i : Nat) (r : List Nat), tab[i]? = some r → ∃ u : Value, vs[i]? = some u ∧ natsOwn W B u r ∧ (∀ j : Nat, v.ownBlock = some j → u.ownBlock ≠ some j)
def TabK (W : World) (B : Nat) (v : Value) (tab : List (List Nat)) : Prop :=
  ∃ vs : List Value, W.ownsRow B 41 1 v tab.length vs ∧ RowsAt W B v vs tab
theorem TabK.below {W W' : World} {B : Nat} {v : Value} {tab : List (List Nat)} (h : TabK W B v tab) (hb : Below W.heap.size W W') : TabK W' B v tab := by
  obtain ⟨vs, h1, h2⟩ := h
  refine ⟨vs, row_below h1 hb, fun i r e => ?_⟩
  obtain ⟨u, k1, k2, k3⟩ := h2 i r e
  exact ⟨u, k1, row_below k2 hb, k3⟩
theorem tab_snoc {W W' : World} {B : Nat} {v v' u : Value} {vs : List Value} {tab : List (List Nat)} {r : List Nat} (h1 : W.ownsRow B 41 1 v tab.length vs) (h2 : RowsAt W B v vs tab) (hu : natsOwn W B u r) (hun : ∀ j, v.ownBlock = some j → u.ownBlock ≠ some j)
    (hown : W'.ownsRow B 41 1 v' (tab.length + 1) (vs ++ [u])) (hg : W.grownBy W' v.ownBlock) (hat : v'.ownBlock = v.ownBlock ∨ v'.ownBlock = some W.heap.size) : TabK W' B v' (tab ++ [r]) := by
  have hkeep : ∀ u r, natsOwn W B u r → (∀ j, v.ownBlock = some j → u.ownBlock ≠ some j) → natsOwn W' B u r ∧ (∀ j, v'.ownBlock = some j → u.ownBlock ≠ some j) := by
    intro u r hu hn
    refine ⟨hu.kept hg ?_, fun j e h => ?_⟩
    · cases hb : u.ownBlock with
      | none => exact .inl rfl
      | some k => exact .inr (fun e => hn k e.symm hb)
    · rcases hat with e2 | e2
      · exact hn j (e2 ▸ e) h
      · rw [e2] at e
        cases e
        have := (hu.lt _ h).2
        omega
  have hl : vs.length = tab.length := by simpa using h1.1
  refine ⟨vs ++ [u], by simpa using hown, fun i r' e => ?_⟩
  rw [List.getElem?_append] at e
  split at e
  · obtain ⟨u', k1, k2, k3⟩ := h2 i r' e
    obtain ⟨q1, q2⟩ := hkeep u' r' k2 k3
    exact ⟨u', by rw [List.getElem?_append_left (by omega)]; exact k1, q1, q2⟩
  · have hi : i = tab.length := by
      have := (List.getElem?_eq_some_iff.1 e).1
      simp at this
      omega
    subst hi
    simp at e
    subst e
    obtain ⟨q1, q2⟩ := hkeep u r hu hun
    exact ⟨u, by rw [← hl]; simp, q1, q2⟩
theorem tInfo41 : (Tryz.prog.info? 41).map (fun i => (i.zero, i.size, i.bytes)) = some (some (.slice none 0 0), 1, 24) := by kernel_rfl
/-- the costs of all pairs -/
def tabL (R : RB) (xs ys : List ByteArray) : List (List Nat) := xs.map fun x => costsL R x ys
end Go.Proofs.YtdfebccmjbocjaaGreatDoor.Na
namespace Go.Proofs.YtdfebccmjbocjaaGreatDoor.Na
open Go.RowKit Go.Shelf

theorem tInfo9 : (Tryz.prog.info? 9).map (fun i => (i.zero, i.size, i.bytes)) = some (some (.string ⟨#[]⟩), 1, 16) := by kernel_rfl
def strsV (l : List ByteArray) : List Value := l.map Value.string
theorem size_zeroC (z : Array Value) (n : Nat) : (Builtin.zeroCells z n).size = n * z.size := by simp [Builtin.zeroCells]
def SKn (W : World) (a : Option Addr) (g o c n : Nat) (l : List ByteArray) : Prop := l.length = n ∧ SK W a g o l ∧ (a = none → c = 0)
theorem SKn.below {W W' : World} {a : Option Addr} {g o c n : Nat} {l : List ByteArray} (h : SKn W a g o c n l) (hb : Below W.heap.size W W') : SKn W' a g o c n l := ⟨h.1, h.2.1.below hb, h.2.2⟩
theorem SKn.reads {W : World} {ad : Addr} {g o c n : Nat} {l : List ByteArray} (h : SKn W (some ad) g o c n l) : ∀ (j : Nat) (u : Value), (strsV l)[j]? = some u → W.cell? (ad.add j) = some u := by
  intro j u e
  unfold strsV at e
  rw [List.getElem?_map] at e
  cases hj : l[j]? with
  | none => rw [hj] at e; simp at e
  | some x =>
    rw [hj] at e
    simp at e
    subst e
    have hne : l ≠ [] := by rintro rfl; simp at hj
    have ha := h.2.1.1 hne
    injection ha with ha
    subst ha
    rw [Addr.add_lit]; exact h.2.1.2.1 j x hj
theorem SKn.none_nil {W : World} {g o c n : Nat} {l : List ByteArray} (h : SKn W none g o c n l) : l = [] ∧ n = 0 ∧ c = 0 := by
  have hl : l = [] := by
    rcases Classical.em (l = []) with e | e
    · exact e
    · exact absurd (h.2.1.1 e) (by simp)
  refine ⟨hl, ?_, h.2.2 rfl⟩
  have := h.1
  rw [hl] at this
  simpa using this.symm
end Go.Proofs.YtdfebccmjbocjaaGreatDoor.Na
namespace Go.Proofs.YtdfebccmjbocjaaGreatDoor.Na
open Go.RowKit Go.Shelf

set_option maxRecDepth 100000 in
set_option maxHeartbeats 1000000 in
theorem list28 (a : Option Addr) (g o c n : Nat) (l : List ByteArray) (w : World) (h : SKn w a g o c n l) (hn : n ≤ 900) : Calls Tryz.prog 30 #[.slice a n c] w fun e w' => ∃ v, e = .returned v ∧ w'.ownsRow w.heap.size 9 1 v n (strsV l) ∧ Below w.heap.size w w' := by
  obtain ⟨i0, hi, hz0, hz1, hz2⟩ := info_parts tInfo9
  have hl := h.1
  have H0 := World.ownsRow_lit (base := w.heap.size) (e := 9) (size := 1) w #[] 0 (Nat.le_refl _) (by unfold maxLen; omega) rfl
  have HO := Lib.hid H0
  clear H0
  cases ha : a with
  | none =>
    subst ha
    obtain ⟨e1, e2, e3⟩ := h.none_nil
    subst e1
    subst e2
    subst e3
    go_enter Tryz.func30, Tryz.ntmps30
    go_wp2_with (at_builtin; refine wpList_append_own_none rfl _ _ 22 rfl w.heap.size 9 i0 1 Tryz.underlying22 hi _ _ _ rfl HO.out rfl ?_)
    go_ret
    exact ⟨_, rfl, HO.out, (Below.refl _ _).alloc (Nat.le_refl _) _⟩
  | some ad =>
    subst ha
    have HRD := Lib.hid ((h.below ((Below.refl _ _).alloc (Nat.le_refl _) (.cells #[] 9))).reads)
    clear h
    go_enter Tryz.func30, Tryz.ntmps30
    go_wp2_with (at_builtin; refine wpList_append_own _ rfl _ _ 22 rfl w.heap.size 9 i0 _ 1 16 Tryz.underlying22 hi hz0 hz1 hz2 rfl (by decide) _ _ _ rfl HO.out ad n _ (strsV l) rfl (by simp [strsV, hl]) HRD.out (by intro u hu; simp [strsV] at hu; obtain ⟨y, _, rfl⟩ := hu; rfl) (by unfold maxLen; omega) (by omega) (by simp) ?_; intro v' w5 hown' hgrow _; have HO5 := Lib.hid hown'; have HG := Lib.hid hgrow; clear hown' hgrow)
    go_ret
    refine ⟨_, rfl, by simpa using HO5.out, ?_⟩
    exact ((Below.refl _ w).alloc (Nat.le_refl _) _).grown HG.out (by simp) (fun j e => (HO.out.lt j e).1)
end Go.Proofs.YtdfebccmjbocjaaGreatDoor.Na
namespace Go.Proofs.YtdfebccmjbocjaaGreatDoor.Na
open Go.RowKit Go.Shelf

def thinB (R : RB) (l : List ByteArray) : Bool := shB R.cls && (decide (R.soft.size ≤ 40) && shB l)
def readyB (R : RB) (l : List ByteArray) : Bool := thinB R l && decide (chkN R l = 0)
theorem shB_len {l : List ByteArray} (h : shB l = true) : l.length ≤ 15 ∧ ∀ s, s ∈ l → s.size ≤ 40 := by
  simp only [shB, Bool.and_eq_true, decide_eq_true_eq, List.all_eq_true] at h
  exact h
theorem thin_thn {R : RB} {l : List ByteArray} (h : thinB R l = true) : Thn R := by
  simp only [thinB, Bool.and_eq_true, decide_eq_true_eq] at h
  obtain ⟨h1, h2⟩ := shB_len h.1
  exact ⟨by omega, fun c hc => by have := h2 c hc; omega, by have := h.2.1; omega⟩
theorem thin_l {R : RB} {l : List ByteArray} (h : thinB R l = true) : l.length ≤ 15 ∧ ∀ s, s ∈ l → s.size ≤ 40 := by
  simp only [thinB, Bool.and_eq_true] at h
  exact shB_len h.2.2
def HypL (w : World) (a : Option Addr) (g o : Nat) (n : Nat) (l : List ByteArray) : Prop := l.length = n ∧ SK w a g o l
set_option maxRecDepth 100000 in
set_option maxHeartbeats 1000000 in
theorem Thin17 (a : Option Addr) (g o c n : Nat) (R : RB) (w : World) (hN : R.cls.length = n) (hk : SK w a g o R.cls) (a2 : Option Addr) (g2 o2 c2 m : Nat) (l : List ByteArray) (hM : l.length = m) (hk2 : SK w a2 g2 o2 l) : Calls Tryz.prog 5 #[rulesV a n c R.soft R.al R.ot R.sk R.ss R.db, .slice a2 m c2] w fun e w' => e = .returned (.bool (thinB R l)) ∧ Below w.heap.size w w' := by
  have C1 := Lib.hid (fun W (hW : Below w.heap.size w W) => short48 a g o c n R.cls W hN (hk.below hW))
  have C2 := Lib.hid (fun W (hW : Below w.heap.size w W) => short48 a2 g2 o2 c2 m l W hM (hk2.below hW))
  have s0 := (KS.start w).new (rulesC a n c R.soft R.al R.ot R.sk R.ss R.db) 24
  have S0 := Lib.hid s0
  obtain ⟨kb0_0, kb0_1, kb0_2, kb0_3, kb0_4, kb0_5, kb0_6⟩ := (s0.blkAt 0 rfl).c7
  unfold thinB
  generalize shB R.cls = b1 at *
  generalize shB l = b3 at *
  clear hk hk2 hM hN s0
  cases b1 with
  | false =>
    go_enter Tryz.func5, Tryz.ntmps5
    go_wp2_with (go_at_call 24; (refine (C1.out _ S0.out.bel).mono ?_); rintro e w1 ⟨rfl, rfl⟩)
    go_ret
    exact ⟨rfl, S0.out.bel⟩
  | true =>
    by_cases h40 : R.soft.size ≤ 40
    · rw [decide_eq_true h40]
      have p1 : (R.soft.size : Int) ≤ 40 := by omega
      clear h40
      go_enter Tryz.func5, Tryz.ntmps5
      go_wp2_with fail
      refine (C1.out _ S0.out.bel).mono ?_
      rintro e w1 ⟨rfl, rfl⟩
      go_wp2_with fail
      refine (C2.out _ S0.out.bel).mono ?_
      rintro e w1 ⟨rfl, rfl⟩
      go_wp2_with fail
      go_ret
      exact ⟨by simp, S0.out.bel⟩
    · rw [decide_eq_false h40]
      have p1 : ¬ (R.soft.size : Int) ≤ 40 := by omega
      clear h40
      go_enter Tryz.func5, Tryz.ntmps5
      go_wp2_with (go_at_call 24; (refine (C1.out _ S0.out.bel).mono ?_); rintro e w1 ⟨rfl, rfl⟩)
      go_ret
      exact ⟨by simp, S0.out.bel⟩
end Go.Proofs.YtdfebccmjbocjaaGreatDoor.Na
namespace Go.Proofs.YtdfebccmjbocjaaGreatDoor.Na
open Go.RowKit Go.Shelf

theorem sk_of_row {W : World} {B n : Nat} {v : Value} {l : List ByteArray} (h : W.ownsRow B 9 1 v n (strsV l)) : ∃ a g c, v = .slice a n c ∧ SK W a g 0 l ∧ l.length = n := by
  have hl : l.length = n := by have := h.1; simpa [strsV] using this
  rcases Joins.ownsRow_forms h with ⟨rfl, rfl⟩ | ⟨g, c, rfl⟩
  · have : l = [] := List.eq_nil_of_length_eq_zero hl
    subst this
    exact ⟨none, 0, 0, rfl, ⟨fun h => absurd rfl h, fun i a e => by simp at e, fun h => absurd rfl h⟩, hl⟩
  · refine ⟨some ⟨g, 0, none⟩, g, c, rfl, ⟨fun _ => rfl, fun i a e => ?_, fun _ => (h.lt g rfl).2⟩, hl⟩
    have hi := (List.getElem?_eq_some_iff.1 e).1
    rw [Nat.zero_add, h.cellAt i (by omega), strsV, List.getElem?_map, e]; rfl
def lstN (R : RB) (ys mo : List ByteArray) : Nat := if 12 < ys.length then 3 else chkN R (ys ++ mo)
end Go.Proofs.YtdfebccmjbocjaaGreatDoor.Na
namespace Go.Proofs.YtdfebccmjbocjaaGreatDoor.Na
open Go.RowKit Go.Shelf

theorem SK.grown {W W' : World} {a : Option Addr} {g o B : Nat} {l : List ByteArray} (h : SK W a g o l) (hg : W.grownBy W' (some B)) (hne : l ≠ [] → g ≠ B) : SK W' a g o l := by
  refine ⟨h.1, fun i s e => ?_, fun hx => Nat.lt_of_lt_of_le (h.2.2 hx) hg.size⟩
  have hx : l ≠ [] := by rintro e2; rw [e2] at e; simp at e
  have hb := hg.block g (h.2.2 hx) (by simpa using hne hx)
  have := h.2.1 i s e
  simpa [World.cell?, hb] using this
theorem own_le {W : World} {B n c : Nat} {e : TypeId} {xs : List Value} {p : Option Addr} (h : W.ownsRow B e 1 (.slice p n c) n xs) : n ≤ c := by
  rcases h.2 with ⟨h1, h2⟩ | ⟨k, cap, cs, h1, h2⟩
  · cases h1; omega
  · cases h1; omega
set_option maxRecDepth 100000 in
set_option maxHeartbeats 1000000 in
theorem Rules20 (a : Option Addr) (g o c n : Nat) (R : RB) (w : World) (hk : SKn w a g o c n R.cls) (hn : n ≤ 900) : Calls Tryz.prog 10 #[rulesV a n c R.soft R.al R.ot R.sk R.ss R.db] w fun e w' => ∃ a' g' c', e = .returned (rulesV a' n c' R.soft R.al R.ot R.sk R.ss R.db) ∧ SK w' a' g' 0 R.cls ∧ n ≤ c' ∧ Below w.heap.size w w' := by
  have CL := Lib.hid (fun W (hW : Below w.heap.size w W) => list28 a g o c n R.cls W (hk.below hW) hn)
  have s0 := ((KS.start w).new (rulesC a n c R.soft R.al R.ot R.sk R.ss R.db) 24).new (#[.slice none 0 0, .string ⟨#[]⟩, .int .i64 0, .int .i64 0, .int .i64 0, .int .i64 0, .int .i64 0]) 33
  rw [World.size_alloc] at s0
  have S0 := Lib.hid s0
  clear s0 hk
  go_enter Tryz.func10, Tryz.ntmps10
  go_wp2_with fail
  obtain ⟨BS, hBS⟩ : ∃ BS : List (Nat × Array Value × TypeId), BS = [(w.heap.size, rulesC a n c R.soft R.al R.ot R.sk R.ss R.db, 24)] := ⟨_, rfl⟩
  have hS : KS w BS ((w.alloc (.cells (rulesC a n c R.soft R.al R.ot R.sk R.ss R.db) 24)).alloc (.cells (#[.slice none 0 0, .string ⟨#[]⟩, .int .i64 0, .int .i64 0, .int .i64 0, .int .i64 0, .int .i64 0]) 33)).drew := by rw [hBS]; exact S0.out.drew.sub (by simp)
  have HZ := Lib.hid (S0.out.drew.blkAt 0 rfl)
  have K0 : ∀ W, KS w BS W → W.cell? ⟨w.heap.size, 0, none⟩ = some (.slice a n c) := fun W h => by rw [hBS] at h; exact (h.blkAt 0 rfl).cell 0
  have K1 : ∀ W, KS w BS W → W.cell? ⟨w.heap.size, 1, none⟩ = some (.string R.soft) := fun W h => by rw [hBS] at h; exact (h.blkAt 0 rfl).cell 1
  have K2 : ∀ W, KS w BS W → W.cell? ⟨w.heap.size, 2, none⟩ = some (.int .i64 R.al) := fun W h => by rw [hBS] at h; exact (h.blkAt 0 rfl).cell 2
  have K3 : ∀ W, KS w BS W → W.cell? ⟨w.heap.size, 3, none⟩ = some (.int .i64 R.ot) := fun W h => by rw [hBS] at h; exact (h.blkAt 0 rfl).cell 3
  have K4 : ∀ W, KS w BS W → W.cell? ⟨w.heap.size, 4, none⟩ = some (.int .i64 R.sk) := fun W h => by rw [hBS] at h; exact (h.blkAt 0 rfl).cell 4
  have K5 : ∀ W, KS w BS W → W.cell? ⟨w.heap.size, 5, none⟩ = some (.int .i64 R.ss) := fun W h => by rw [hBS] at h; exact (h.blkAt 0 rfl).cell 5
  have K6 : ∀ W, KS w BS W → W.cell? ⟨w.heap.size, 6, none⟩ = some (.int .i64 R.db) := fun W h => by rw [hBS] at h; exact (h.blkAt 0 rfl).cell 6
  have HBS := Lib.hid hBS
  clear hBS
  refine wp_region_held_drew (S := KS w BS) (by kernel_rfl) hS (fun hHeld => ?_)
  clear hS
  refine wpAnyH_take (i := 0) (v := ?_) rfl (by kernel_rfl) (by kernel_rfl) (by kernel_rfl) (fun _ _ _ h => h) (Or.inl ⟨by rfl, ?h0⟩) hHeld ?_
  case h0 =>
    intro w' hSw
    (try dsimp only at hSw)
    go_simp
    (try with_reducible rfl)
  (try simp only [Act.put]); (try simp only [List.setIfInBounds_toArray]); (try simp only [List.set_cons_succ]); (try simp only [List.set_cons_zero])
  refine wpAnyH_take (i := 1) (v := ?_) rfl (by kernel_rfl) (by kernel_rfl) (by kernel_rfl) (fun _ _ _ h => h) (Or.inl ⟨by rfl, ?h1⟩) hHeld ?_
  case h1 =>
    intro w' hSw
    (try dsimp only at hSw)
    go_simp
    (try with_reducible rfl)
  (try simp only [Act.put]); (try simp only [List.setIfInBounds_toArray]); (try simp only [List.set_cons_succ]); (try simp only [List.set_cons_zero])
  refine wpAnyH_take (i := 3) (v := ?_) rfl (by kernel_rfl) (by kernel_rfl) (by kernel_rfl) (fun _ _ _ h => h) (Or.inl ⟨by rfl, ?h3⟩) hHeld ?_
  case h3 =>
    intro w' hSw
    (try dsimp only at hSw)
    go_simp
    (try with_reducible rfl)
  (try simp only [Act.put]); (try simp only [List.setIfInBounds_toArray]); (try simp only [List.set_cons_succ]); (try simp only [List.set_cons_zero])
  refine wpAnyH_take (i := 4) (v := ?_) rfl (by kernel_rfl) (by kernel_rfl) (by kernel_rfl) (fun _ _ _ h => h) (Or.inl ⟨by rfl, ?h4⟩) hHeld ?_
  case h4 =>
    intro w' hSw
    (try dsimp only at hSw)
    go_simp
    (try with_reducible rfl)
  (try simp only [Act.put]); (try simp only [List.setIfInBounds_toArray]); (try simp only [List.set_cons_succ]); (try simp only [List.set_cons_zero])
  refine wpAnyH_take (i := 5) (v := ?_) rfl (by kernel_rfl) (by kernel_rfl) (by kernel_rfl) (fun _ _ _ h => h) (Or.inl ⟨by rfl, ?h5⟩) hHeld ?_
  case h5 =>
    intro w' hSw
    (try dsimp only at hSw)
    go_simp
    (try with_reducible rfl)
  (try simp only [Act.put]); (try simp only [List.setIfInBounds_toArray]); (try simp only [List.set_cons_succ]); (try simp only [List.set_cons_zero])
  refine wpAnyH_take (i := 6) (v := ?_) rfl (by kernel_rfl) (by kernel_rfl) (by kernel_rfl) (fun _ _ _ h => h) (Or.inl ⟨by rfl, ?h6⟩) hHeld ?_
  case h6 =>
    intro w' hSw
    (try dsimp only at hSw)
    go_simp
    (try with_reducible rfl)
  (try simp only [Act.put]); (try simp only [List.setIfInBounds_toArray]); (try simp only [List.set_cons_succ]); (try simp only [List.set_cons_zero])
  refine wpAnyH_take (i := 7) (v := ?_) rfl (by kernel_rfl) (by kernel_rfl) (by kernel_rfl) (fun _ _ _ h => h) (Or.inl ⟨by rfl, ?h7⟩) hHeld ?_
  case h7 =>
    intro w' hSw
    (try dsimp only at hSw)
    go_simp
    (try with_reducible rfl)
  (try simp only [Act.put]); (try simp only [List.setIfInBounds_toArray]); (try simp only [List.set_cons_succ]); (try simp only [List.set_cons_zero])
  refine wpAnyH_take (i := 8) (v := ?_) rfl (by kernel_rfl) (by kernel_rfl) (by kernel_rfl) (fun _ _ _ h => h) (Or.inl ⟨by rfl, ?h8⟩) hHeld ?_
  case h8 =>
    intro w' hSw
    (try dsimp only at hSw)
    go_simp
    (try with_reducible rfl)
  (try simp only [Act.put]); (try simp only [List.setIfInBounds_toArray]); (try simp only [List.set_cons_succ]); (try simp only [List.set_cons_zero])
  refine wpAnyH_take (i := 9) (v := ?_) rfl (by kernel_rfl) (by kernel_rfl) (by kernel_rfl) (fun _ _ _ h => h) (Or.inl ⟨by rfl, ?h9⟩) hHeld ?_
  case h9 =>
    intro w' hSw
    (try dsimp only at hSw)
    go_simp
    (try with_reducible rfl)
  (try simp only [Act.put]); (try simp only [List.setIfInBounds_toArray]); (try simp only [List.set_cons_succ]); (try simp only [List.set_cons_zero])
  refine wpAnyH_take (i := 10) (v := ?_) rfl (by kernel_rfl) (by kernel_rfl) (by kernel_rfl) (fun _ _ _ h => h) (Or.inl ⟨by rfl, ?h10⟩) hHeld ?_
  case h10 =>
    intro w' hSw
    (try dsimp only at hSw)
    go_simp
    (try with_reducible rfl)
  (try simp only [Act.put]); (try simp only [List.setIfInBounds_toArray]); (try simp only [List.set_cons_succ]); (try simp only [List.set_cons_zero])
  refine wpAnyH_take (i := 11) (v := ?_) rfl (by kernel_rfl) (by kernel_rfl) (by kernel_rfl) (fun _ _ _ h => h) (Or.inl ⟨by rfl, ?h11⟩) hHeld ?_
  case h11 =>
    intro w' hSw
    (try dsimp only at hSw)
    go_simp
    (try with_reducible rfl)
  (try simp only [Act.put]); (try simp only [List.setIfInBounds_toArray]); (try simp only [List.set_cons_succ]); (try simp only [List.set_cons_zero])
  refine wpAnyH_take (i := 12) (v := ?_) rfl (by kernel_rfl) (by kernel_rfl) (by kernel_rfl) (fun _ _ _ h => h) (Or.inl ⟨by rfl, ?h12⟩) hHeld ?_
  case h12 =>
    intro w' hSw
    (try dsimp only at hSw)
    go_simp
    (try with_reducible rfl)
  (try simp only [Act.put]); (try simp only [List.setIfInBounds_toArray]); (try simp only [List.set_cons_succ]); (try simp only [List.set_cons_zero])
  refine wpAnyH_take (i := 13) (v := ?_) rfl (by kernel_rfl) (by kernel_rfl) (by kernel_rfl) (fun _ _ _ h => h) (Or.inl ⟨by rfl, ?h13⟩) hHeld ?_
  case h13 =>
    intro w' hSw
    (try dsimp only at hSw)
    go_simp
    (try with_reducible rfl)
  (try simp only [Act.put]); (try simp only [List.setIfInBounds_toArray]); (try simp only [List.set_cons_succ]); (try simp only [List.set_cons_zero])
  refine wpAnyH_take (i := 14) (v := ?_) rfl (by kernel_rfl) (by kernel_rfl) (by kernel_rfl) (fun _ _ _ h => h) (Or.inl ⟨by rfl, ?h14⟩) hHeld ?_
  case h14 =>
    intro w' hSw
    (try dsimp only at hSw)
    go_simp
    (try with_reducible rfl)
  (try simp only [Act.put]); (try simp only [List.setIfInBounds_toArray]); (try simp only [List.set_cons_succ]); (try simp only [List.set_cons_zero])
  refine wpAnyH_ready (rs := [2]) (by kernel_rfl) (by simp) ?_
  refine AllReadyH.cons rfl (fun K hK => ?_) (AllReadyH.nil)
  go_simp
  (refine (CL.out _ hHeld.bel).mono ?_)
  rintro e w2 ⟨v, rfl, hv, hb⟩
  obtain ⟨a2, g2, c2, rfl, h2, h2l⟩ := sk_of_row hv
  have hle := own_le hv
  have HZ2 := Lib.hid (HZ.out.b hb)
  have hS2 := hHeld.below hb
  have H2 := Lib.hid h2
  have hlt2 : ∀ x : R.cls ≠ [], g2 ≠ w.heap.size + 1 := fun x => by
    have e := h2.1 x
    have := (hv.lt g2 (by rw [e]; rfl)).1
    simp at this; omega
  refine hK.out _ _ hS2 (fun hHeld => ?_)
  clear hK K hv hb hS2 h2 h2l
  (try simp only [Act.put]); (try simp only [List.setIfInBounds_toArray]); (try simp only [List.set_cons_succ]); (try simp only [List.set_cons_zero])
  refine wpAnyH_ready (rs := [15]) (by kernel_rfl) (by simp) ?_
  refine AllReadyH.cons rfl (fun K hK => ?_) (AllReadyH.nil)
  go_simp
  refine hK.out _ _ hHeld (fun hHeld => ?_)
  clear hK K
  (try simp only [Act.put]); (try simp only [List.setIfInBounds_toArray]); (try simp only [List.set_cons_succ]); (try simp only [List.set_cons_zero])
  refine wpAnyH_ready (rs := [16]) (by kernel_rfl) (by simp) ?_
  refine AllReadyH.cons rfl (fun K hK => ?_) (AllReadyH.nil)
  refine step_store_row rfl 33 _ _ rfl (w.heap.size + 1) rfl 33 (#[.slice none 0 0, .string ⟨#[]⟩, .int .i64 0, .int .i64 0, .int .i64 0, .int .i64 0, .int .i64 0]) #[.slice a2 n c2, .string R.soft, .int .i64 R.al, .int .i64 R.ot, .int .i64 R.sk, .int .i64 R.ss, .int .i64 R.db] rfl HZ2.out (by kernel_rfl) rfl (by simp [Value.oneCell']) ?_
  intro w3 hb3 hg3
  have hS3 : KS w BS w3 := by rw [HBS.out]; have h := hHeld; rw [HBS.out] at h; exact KS1_row h hg3 (fun r e => by cases e; omega)
  have HB3 := Lib.hid hb3
  have HK3 := Lib.hid (H2.out.grown hg3 hlt2)
  refine hK.out _ _ hS3 (fun hHeld => ?_)
  clear hK K hS3 hb3 hg3
  (try simp only [Act.put]); (try simp only [List.setIfInBounds_toArray]); (try simp only [List.set_cons_succ]); (try simp only [List.set_cons_zero])
  refine wpAnyH_done (by kernel_rfl) ?_ _
  have HB := Lib.hid hHeld.bel
  clear hHeld
  go_wp2_with fail
  have hlv := run_loadVar_mid (P := Tryz.prog) _ (w.heap.size + 1) 0 33 [.slice a2 n c2, .string R.soft, .int .i64 R.al, .int .i64 R.ot, .int .i64 R.sk, .int .i64 R.ss, .int .i64 R.db] _ (Blk.range HB3.out) Tryz.underlying33 rfl (by kernel_rfl)
  refine bodyPost_ret (v := rulesV a2 n c2 R.soft R.al R.ot R.sk R.ss R.db) (by simp [results, Tryz.results10, asAddr, hlv]) rfl ⟨a2, g2, c2, rfl, HK3.out, hle, HB.out⟩
end Go.Proofs.YtdfebccmjbocjaaGreatDoor.Na
namespace Go.Proofs.YtdfebccmjbocjaaGreatDoor.Na
open Go.RowKit Go.Shelf

theorem skn_nil (w : World) : SKn w none 0 0 0 0 [] := ⟨rfl, ⟨fun h => absurd rfl h, fun i a e => by simp at e, fun h => absurd rfl h⟩, fun _ => rfl⟩
def someN (R : RB) (ys : List ByteArray) : Nat := if lstN R ys [] = 0 then (if ys.length = 0 then 7 else 0) else lstN R ys []
end Go.Proofs.YtdfebccmjbocjaaGreatDoor.Na
namespace Nm
/-! ## in order of cost, those of equal cost in order of number -/
def lex (c : Nat → Nat) (x y : Nat) : Prop := c x < c y ∨ (c x = c y ∧ x < y)
theorem lex_irrefl (c : Nat → Nat) (x : Nat) : ¬ lex c x x := by unfold lex; omega
theorem lex_asymm {c : Nat → Nat} {x y : Nat} (h : lex c x y) : ¬ lex c y x := by unfold lex at *; omega
theorem lex_trans {c : Nat → Nat} {x y z : Nat} (h : lex c x y) (k : lex c y z) : lex c x z := by unfold lex at *; omega
/-- a list in a strict order is known by its members -/
theorem sorted_unique {α : Type} {R : α → α → Prop} (ha : ∀ x y, R x y → ¬ R y x) : ∀ (l l' : List α), l.Pairwise R → l'.Pairwise R → (∀ x, x ∈ l ↔ x ∈ l') → l = l'
  | [], [], _, _, _ => rfl
  | [], y :: l', _, _, h => by have := (h y).2 (by simp); cases this
  | x :: l, [], _, _, h => by have := (h x).1 (by simp); cases this
  | x :: l, y :: l', h1, h2, h => by
    rw [List.pairwise_cons] at h1 h2
    have hirr : ∀ x, ¬ R x x := fun x hx => ha x x hx hx
    have hxy : x = y := by
      rcases List.mem_cons.1 ((h x).1 (by simp)) with e | hx
      · exact e
      · rcases List.mem_cons.1 ((h y).2 (by simp)) with e | hy
        · exact e.symm
        · exact absurd (h1.1 y hy) (ha _ _ (h2.1 x hx))
    subst hxy
    congr 1
    refine sorted_unique ha l l' h1.2 h2.2 fun z => ?_
    constructor
    · intro hz
      rcases List.mem_cons.1 ((h z).1 (List.mem_cons_of_mem _ hz)) with e | hz'
      · subst e; exact absurd (h1.1 _ hz) (hirr _)
      · exact hz'
    · intro hz
      rcases List.mem_cons.1 ((h z).2 (List.mem_cons_of_mem _ hz)) with e | hz'
      · subst e; exact absurd (h2.1 _ hz) (hirr _)
      · exact hz'
/-- the law's own list: by cost, from 0 to L -/
def dueL (c : Nat → Nat) (k L : Nat) : List Nat := (List.range (L+1)).flatMap fun v => (List.range k).filter fun i => c i == v
theorem dueL_mem (c : Nat → Nat) (k L x : Nat) : x ∈ dueL c k L ↔ x < k ∧ c x ≤ L := by
  unfold dueL
  rw [List.mem_flatMap]
  constructor
  · rintro ⟨v, hv, hx⟩
    rw [List.mem_filter, List.mem_range] at hx
    rw [List.mem_range] at hv
    have : c x = v := by simpa using hx.2
    exact ⟨hx.1, by omega⟩
  · rintro ⟨h1, h2⟩
    exact ⟨c x, List.mem_range.2 (by omega), List.mem_filter.2 ⟨List.mem_range.2 h1, by simp⟩⟩
theorem range_pairwise (k : Nat) : (List.range k).Pairwise (· < ·) := List.pairwise_lt_range
theorem dueL_sorted (c : Nat → Nat) (k : Nat) : ∀ L, ((List.range L).flatMap fun v => (List.range k).filter fun i => c i == v).Pairwise (lex c)
  | 0 => by simp
  | L+1 => by
    rw [List.range_succ, List.flatMap_append, List.pairwise_append]
    refine ⟨dueL_sorted c k L, ?_, ?_⟩
    · simp only [List.flatMap_cons, List.flatMap_nil, List.append_nil]
      have h := List.Pairwise.sublist (List.filter_sublist (p := fun i => c i == L) (l := List.range k)) (range_pairwise k)
      refine List.Pairwise.imp_of_mem ?_ h
      intro a b ha hb hab
      rw [List.mem_filter] at ha hb
      have e1 : c a = L := by simpa using ha.2
      have e2 : c b = L := by simpa using hb.2
      exact .inr ⟨by omega, hab⟩
    · intro a ha b hb
      rw [List.mem_flatMap] at ha
      obtain ⟨v, hv, ha⟩ := ha
      rw [List.mem_range] at hv
      simp only [List.flatMap_cons, List.flatMap_nil, List.append_nil] at hb
      rw [List.mem_filter] at ha hb
      have e1 : c a = v := by simpa using ha.2
      have e2 : c b = L := by simpa using hb.2
      exact .inl (by omega)
/-! ## the center -/
/-- the first of the least -/
def best (t : Nat → Nat) : Nat → Nat
  | 0 => 0
  | k+1 => if t k < t (best t k) then k else best t k
theorem best_le (t : Nat → Nat) : ∀ k i, i < k → t (best t k) ≤ t i
  | 0, i, h => by omega
  | k+1, i, h => by
    rw [best]
    by_cases e : i = k
    · subst e; split <;> omega
    · have := best_le t k i (by omega)
      split <;> omega
theorem best_lt (t : Nat → Nat) : ∀ k, 0 < k → best t k < k
  | 0, h => by omega
  | k+1, _ => by
    rw [best]
    split
    · omega
    · rcases Nat.eq_zero_or_pos k with h | h
      · subst h; simp [best]
      · have := best_lt t k h; omega
end Nm
namespace Nm
open Go.Sort
variable {k : Nat} [Inhabited (Fin k)]
/-- less by cost; by cost and number -/
def ltC (c : Nat → Nat) (x y : Fin k) : Bool := decide (c x.1 < c y.1)
def ltL (c : Nat → Nat) (x y : Fin k) : Bool := decide (c x.1 < c y.1 ∨ (c x.1 = c y.1 ∧ x.1 < y.1))
omit [Inhabited (Fin k)] in
theorem swo_ltL (c : Nat → Nat) : SWO (ltL (k := k) c) := ⟨fun x => by simp [ltL], fun x y z => by simp only [ltL, decide_eq_true_eq]; omega, fun x y z => by simp only [ltL, decide_eq_false_iff_not]; omega⟩
theorem insInner_eq (c : Nat → Nat) : ∀ (j : Nat) (d : Array (Fin k)), j < d.size → (∀ p, p < j → d[p]!.1 < d[j]!.1) → insInner (ltC c) 0 j d = insInner (ltL c) 0 j d
  | 0, d, _, _ => by rw [insInner, insInner]
  | j+1, d, hs, h => by
    have hj := h j (by omega)
    have e : ltC c d[j+1]! d[j]! = ltL c d[j+1]! d[j]! := by
      unfold ltC ltL
      rw [decide_eq_decide]; omega
    rw [insInner, insInner, e]
    split
    · refine insInner_eq c j _ (by rw [swp_size]; omega) fun p hp => ?_
      rw [swp_get d (i := j+1) (j := j) (by omega) (by omega), swp_get d (i := j+1) (j := j) (by omega) (by omega), if_neg (by omega), if_neg (by omega), if_pos rfl]
      exact h p (by omega)
    · rfl
theorem insOuter_eq (c : Nat → Nat) : ∀ (n i : Nat) (d : Array (Fin k)), d.size - i = n → 0 < i → (∀ p q, p < q → i ≤ q → q < d.size → d[p]!.1 < d[q]!.1) → insOuter (ltC c) 0 d.size i d = insOuter (ltL c) 0 d.size i d
  | 0, i, d, hn, _, h => by
    unfold insOuter; rw [if_neg (by omega)]; try rw [if_neg (by omega)]
  | n+1, i, d, hn, h0, h => by
    have hi : i < d.size := by omega
    have e := insInner_eq c i d hi (fun p hp => h p i hp (Nat.le_refl _) hi)
    have hsp : PermIn 0 (i+1) d (insInner (ltL c) 0 i d) := by
      -- the part before is not known to be in order: the permutation alone is wanted
      have gen : ∀ (j : Nat) (d : Array (Fin k)), j ≤ i → i + 1 ≤ d.size → PermIn 0 (i+1) d (insInner (ltL c) 0 j d) := by
        intro j
        induction j with
        | zero => intro d _ _; rw [insInner]; exact permIn_refl _ _ _
        | succ j ih =>
          intro d hj hd
          rw [insInner]
          split
          · exact permIn_trans _ _ _ _ _ (swp_permIn d 0 (i+1) (j+1) j (by omega) (by omega) (by omega) (by omega) hd) (ih _ (by omega) (by rw [swp_size]; exact hd))
          · exact permIn_refl _ _ _
      exact gen i d (Nat.le_refl _) (by omega)
    rw [insOuter, if_pos hi, e]
    conv => rhs; rw [insOuter, if_pos hi]
    have hsz := hsp.1
    have ih := insOuter_eq c n (i+1) (insInner (ltL c) 0 i d) (by omega) (by omega) (fun p q hpq hiq hq => by
      rw [hsp.2.1 q (.inr (by omega))]
      by_cases hp : p < i + 1
      · exact permIn_all d _ 0 (i+1) (fun x => x.1 < d[q]!.1) (by omega) hsp (fun r _ hr => h r q (by omega) (by omega) (by omega)) p (by omega) hp
      · rw [hsp.2.1 p (.inr (by omega))]
        exact h p q hpq (by omega) (by omega))
    rw [hsz] at ih
    exact ih
theorem getElem!_lt {α : Type} [Inhabited α] (d : Array α) (i : Nat) (h : i < d.size) : d[i]! = d.toList[i]'(by simpa using h) := by
  rw [getElem!_pos d i h]; simp
/-- THE STABLE SORT: in order of cost, those of equal cost in order of number -/
theorem ins_stable (c : Nat → Nat) (d : Array (Fin k)) (hd : d.toList.Pairwise (fun x y => x.1 < y.1)) :
    (insertionSort (ltC c) d 0 d.size).toList.Pairwise (fun x y => lex c x.1 y.1) ∧ (∀ x, x ∈ (insertionSort (ltC c) d 0 d.size).toList ↔ x ∈ d.toList) ∧ (insertionSort (ltC c) d 0 d.size).size = d.size := by
  have hasc : ∀ p q, p < q → q < d.size → d[p]!.1 < d[q]!.1 := fun p q hpq hq => by
    rw [getElem!_lt d p (by omega), getElem!_lt d q hq]
    exact List.pairwise_iff_getElem.1 hd p q _ _ hpq
  have e : insertionSort (ltC c) d 0 d.size = insertionSort (ltL c) d 0 d.size := by
    unfold insertionSort
    exact insOuter_eq c _ 1 d rfl (by omega) (fun p q hpq _ hq => hasc p q hpq hq)
  have hs := insertionSort_holds (lt := ltL c) (swo_ltL c) d 0 d.size (Nat.zero_le _) (Nat.le_refl _)
  rw [e]
  generalize insertionSort (ltL c) d 0 d.size = r at *
  obtain ⟨⟨h1, _, h2⟩, h3⟩ := hs
  have h2' : r.toList.Perm d.toList := by
    have a : (r.extract 0 d.size).toList = r.toList := by rw [← h1]; simp
    have b : (d.extract 0 d.size).toList = d.toList := by simp
    rw [a, b] at h2; exact h2
  have hnd : r.toList.Nodup := by
    refine h2'.nodup_iff.2 (List.Pairwise.imp (fun {a b} h e => ?_) hd)
    rw [e] at h; omega
  refine ⟨?_, fun x => h2'.mem_iff, h1⟩
  rw [List.pairwise_iff_getElem]
  intro p q hp hq hpq
  have hp' : p < r.size := by simpa using hp
  have hq' : q < r.size := by simpa using hq
  have h := h3 p q (Nat.zero_le _) hpq (by omega)
  rw [getElem!_lt r p hp', getElem!_lt r q hq'] at h
  have hne : r.toList[p] ≠ r.toList[q] := fun e => by
    have := (List.nodup_iff_pairwise_ne.1 hnd)
    exact List.pairwise_iff_getElem.1 this p q hp hq hpq e
  have hne' : r.toList[p].1 ≠ r.toList[q].1 := fun e => hne (Fin.ext e)
  simp only [ltL, decide_eq_false_iff_not] at h
  unfold lex
  omega
end Nm
namespace Go.Proofs.YtdfebccmjbocjaaGreatDoor.Na
open Go.RowKit Go.Shelf

theorem grownBy_putRow {α : Type} [Inhabited α] {enc : α → Value} {w : World} {g n : Nat} {os : Array Obj} (d : Array α) : w.grownBy (Sort.grow (Sort.putRow enc (Sort.ahead w n) g 0 d) os) (some g) := by
  refine ⟨rfl, rfl, rfl, by simp, fun k hk hne => ?_⟩
  rw [Sort.heap_grow_old _ _ (by simpa using hk)]
  have : g ≠ k := fun e => hne (by rw [e])
  simp [Sort.putRow, Sort.mapBlock, Sort.ahead, Array.getElem?_modify, this]
end Go.Proofs.YtdfebccmjbocjaaGreatDoor.Na
namespace Go.Proofs.YtdfebccmjbocjaaGreatDoor.Na
open Go.RowKit Go.Shelf

def encF {m : Nat} (x : Fin m) : Value := .int .i64 ((x.1 : Nat) : Int)
theorem ltOf_cmp {m : Nat} (c : Nat → Nat) : (ltOf (fun x y : Fin m => Lib.compareInt (c x.1 : Nat) (c y.1 : Nat))) = Nm.ltC c := by
  funext x y
  unfold ltOf Nm.ltC Lib.compareInt
  rw [decide_eq_decide]
  show (if ((c x.1 : Nat) : Int) < ((c y.1 : Nat) : Int) then (-1 : Int) else if ((c x.1 : Nat) : Int) > ((c y.1 : Nat) : Int) then 1 else 0) < 0 ↔ c x.1 < c y.1
  split
  · constructor
    · intro _; omega
    · intro _; omega
  · split
    · constructor
      · intro h; omega
      · intro h; omega
    · constructor
      · intro h; omega
      · intro h; omega
end Go.Proofs.YtdfebccmjbocjaaGreatDoor.Na
namespace Go.Proofs.YtdfebccmjbocjaaGreatDoor.Na
open Go.RowKit Go.Shelf

end Go.Proofs.YtdfebccmjbocjaaGreatDoor.Na
namespace Go.Proofs.YtdfebccmjbocjaaGreatDoor.Na
open Go.RowKit Go.Shelf

/-- what the loop of Near keeps -/
def NearS (w : World) (rc : Array Value) (bp bc m cap B1 Bo : Nat) (cs : List Nat) (W : World) : Prop :=
  KS w [(w.heap.size, rc, 33)] W ∧ Blk W bp #[.slice (some ⟨bc, 0, none⟩) m cap] 41 ∧ W.ownsRow B1 3 1 (.slice (some ⟨bc, 0, none⟩) m cap) m (natsV cs) ∧ w.heap.size < Bo ∧ bp < Bo ∧ bc < Bo ∧ w.heap.size < B1 ∧ Bo ≤ W.heap.size
theorem NearS.row {w W W' : World} {rc : Array Value} {bp bc m cap B1 Bo : Nat} {cs : List Nat} {row : Option Nat} (h : NearS w rc bp bc m cap B1 Bo cs W) (hg : W.grownBy W' row) (hr : ∀ r, row = some r → Bo ≤ r) : NearS w rc bp bc m cap B1 Bo cs W' := by
  obtain ⟨h1, h2, h3, h4, h5, h6, h7, h8⟩ := h
  refine ⟨KS1_row h1 hg (fun r e => by have := hr r e; omega), h2.kept hg (fun e => by have := hr _ e.symm; omega), h3.kept hg (.inr (fun e => by have := hr bc e.symm; omega)), h4, h5, h6, h7, Nat.le_trans h8 hg.size⟩
theorem NearS.alloc {w W : World} {rc : Array Value} {bp bc m cap B1 Bo : Nat} {cs : List Nat} (h : NearS w rc bp bc m cap B1 Bo cs W) (ob : Obj) : NearS w rc bp bc m cap B1 Bo cs (W.alloc ob) :=
  h.row (row := none) (grownBy_below ((Below.refl _ _).alloc (Nat.le_refl _) ob) none) (fun r e => by cases e)
theorem NearS.cell {w W : World} {rc : Array Value} {bp bc m cap B1 Bo : Nat} {cs : List Nat} (h : NearS w rc bp bc m cap B1 Bo cs W) {i k : Nat} (hi : cs[i]? = some k) : W.cell? ⟨bc, i, none⟩ = some (.int .i64 (k : Int)) := by
  have hl : cs.length = m * 1 := by have := h.2.2.1.1; simpa [natsV] using this
  have := (List.getElem?_eq_some_iff.1 hi).1
  rw [h.2.2.1.cellAt i (by omega), natsV, List.getElem?_map, hi]; rfl
/-- the near ones among the first i, in order of number -/
def outL (cs : List Nat) (L i : Nat) : List Nat := (List.range i).filter fun j => decide (cs.getD j 0 ≤ L)
theorem outL_succ (cs : List Nat) (L i k : Nat) (h : cs[i]? = some k) : outL cs L (i + 1) = if k ≤ L then outL cs L i ++ [i] else outL cs L i := by
  unfold outL
  rw [List.range_succ, List.filter_append]
  have e : cs.getD i 0 = k := by rw [List.getD_eq_getElem?_getD, h]; rfl
  by_cases hk : k ≤ L
  · rw [if_pos hk]; simp only [List.filter_cons, List.filter_nil, e, hk, decide_true, if_true]
  · rw [if_neg hk]; simp only [List.filter_cons, List.filter_nil, e, hk, decide_false, Bool.false_eq_true, if_false, List.append_nil]
theorem outL_len (cs : List Nat) (L i : Nat) : (outL cs L i).length ≤ i := by
  have := List.length_filter_le (fun j => decide (cs.getD j 0 ≤ L)) (List.range i)
  simpa [outL] using this
theorem outL_mem (cs : List Nat) (L i x : Nat) : x ∈ outL cs L i ↔ x < i ∧ cs.getD x 0 ≤ L := by
  unfold outL; rw [List.mem_filter, List.mem_range]; simp
theorem outL_sorted (cs : List Nat) (L i : Nat) : (outL cs L i).Pairwise (· < ·) := List.Pairwise.sublist List.filter_sublist List.pairwise_lt_range
/-- the near ones, sorted, are the law's list -/
theorem due_of_sorted (cs : List Nat) (L m : Nat) (r : List Nat) (h1 : r.Pairwise (Nm.lex fun i => cs.getD i 0)) (h2 : ∀ x, x ∈ r ↔ x ∈ outL cs L m) : r = Nm.dueL (fun i => cs.getD i 0) m L :=
  Nm.sorted_unique (fun _ _ => Nm.lex_asymm) _ _ h1 (Nm.dueL_sorted _ _ _) (fun x => by rw [h2 x, outL_mem, Nm.dueL_mem])
theorem due_nil (cs : List Nat) (L m : Nat) (h : outL cs L m = []) : Nm.dueL (fun i => cs.getD i 0) m L = [] := (due_of_sorted cs L m [] List.Pairwise.nil (fun x => by rw [h])).symm
/-- the names that are near -/
def nearL (R : RB) (x : ByteArray) (ys : List ByteArray) (L : Nat) : List Nat := Nm.dueL (fun i => (costsL R x ys).getD i 0) ys.length L
end Go.Proofs.YtdfebccmjbocjaaGreatDoor.Na
namespace Go.Proofs.YtdfebccmjbocjaaGreatDoor.Na
open Go.RowKit Go.Shelf

/-- Near's error and its list -/
def nearE (R : RB) (ys : List ByteArray) (x : ByteArray) (lim : Int) : Nat := if lstN R ys [x] = 0 then (if inB lim 0 5000 then 0 else 2) else lstN R ys [x]
def nearV (R : RB) (ys : List ByteArray) (x : ByteArray) (lim : Int) : List Nat := if nearE R ys x lim = 0 then nearL R x ys lim.toNat else []
end Go.Proofs.YtdfebccmjbocjaaGreatDoor.Na
namespace Nm
/-! ### groups: r on 0 .. n-1, reflexive and symmetric -/
/-- after j rounds of joining -/
def wj (r : Nat → Nat → Bool) : Nat → Nat → Nat → Bool
  | 0, i, k => r i k
  | j+1, i, k => wj r j i k || (wj r j i j && wj r j j k)
variable {r : Nat → Nat → Bool}
theorem wj_le (j i k : Nat) (h : wj r j i k = true) : wj r (j+1) i k = true := by rw [wj, h]; rfl
theorem wj_base (j i k : Nat) (h : r i k = true) : wj r j i k = true := by
  induction j with
  | zero => exact h
  | succ j ih => exact wj_le _ _ _ ih
theorem wj_row (j k : Nat) : wj r (j+1) j k = wj r j j k := by
  rw [wj]; cases wj r j j k <;> simp
theorem wj_col (j i : Nat) : wj r (j+1) i j = wj r j i j := by
  rw [wj]; cases wj r j i j <;> simp
theorem wj_trans : ∀ j m i k, m < j → wj r j i m = true → wj r j m k = true → wj r j i k = true
  | 0, m, i, k, h, _, _ => by omega
  | j+1, m, i, k, h, h1, h2 => by
    by_cases e : m = j
    · subst e
      rw [wj_col] at h1; rw [wj_row] at h2
      rw [wj, h1, h2]; simp
    · have T := wj_trans j m
      rw [wj, Bool.or_eq_true, Bool.and_eq_true] at h1 h2 ⊢
      rcases h1 with h1 | ⟨h1, h1'⟩ <;> rcases h2 with h2 | ⟨h2, h2'⟩
      · exact .inl (T i k (by omega) h1 h2)
      · exact .inr ⟨T i j (by omega) h1 h2, h2'⟩
      · exact .inr ⟨h1, T j k (by omega) h1' h2⟩
      · exact .inr ⟨h1, h2'⟩
theorem wj_symm (hs : ∀ i k, r i k = r k i) : ∀ j i k, wj r j i k = wj r j k i
  | 0, i, k => hs i k
  | j+1, i, k => by rw [wj, wj, wj_symm hs j i k, wj_symm hs j i j, wj_symm hs j j k, Bool.and_comm]
theorem wj_refl (hr : ∀ i, r i i = true) (j i : Nat) : wj r j i i = true := wj_base _ _ _ (hr i)
/-- a set that is closed under r is closed under all that r joins -/
theorem wj_closed {n : Nat} {S : Nat → Prop} (hS : ∀ g k, k < n → S g → r g k = true → S k) : ∀ j i k, j ≤ n → k < n → S i → wj r j i k = true → S k
  | 0, i, k, _, hk, hi, h => hS i k hk hi h
  | j+1, i, k, hj, hk, hi, h => by
    rw [wj, Bool.or_eq_true, Bool.and_eq_true] at h
    rcases h with h | ⟨h1, h2⟩
    · exact wj_closed hS j i k (by omega) hk hi h
    · exact wj_closed hS j j k (by omega) hk (wj_closed hS j i j (by omega) (by omega) hi h1) h2
/-- the classes, in the order of their first members -/
def classes (c : Nat → Nat → Bool) (n : Nat) : List (List Nat) :=
  ((List.range n).filter fun i => (List.range i).all fun k => !c i k).map fun i => (List.range n).filter (c i)
/-- higher limits join more -/
theorem wj_mono {r' : Nat → Nat → Bool} (h : ∀ i k, r i k = true → r' i k = true) : ∀ j i k, wj r j i k = true → wj r' j i k = true
  | 0, i, k, e => h i k e
  | j+1, i, k, e => by
    rw [wj, Bool.or_eq_true, Bool.and_eq_true] at e ⊢
    rcases e with e | ⟨e1, e2⟩
    · exact .inl (wj_mono h j i k e)
    · exact .inr ⟨wj_mono h j i j e1, wj_mono h j j k e2⟩

/-! ### the search, first by first; D says who is done -/
def rowStep (r : Nat → Nat → Bool) (g : Nat) (s : List Nat × List Bool) (k : Nat) : List Nat × List Bool :=
  if !(s.2.getD k true) && r g k then (s.1 ++ [k], s.2.set k true) else s
/-- a row's first m names looked at -/
def row (r : Nat → Nat → Bool) (g : Nat) (s : List Nat × List Bool) : Nat → List Nat × List Bool
  | 0 => s
  | m+1 => rowStep r g (row r g s m) m
/-- i members of the group looked at -/
def bs (r : Nat → Nat → Bool) (n : Nat) (s : List Nat × List Bool) : Nat → List Nat × List Bool
  | 0 => s
  | i+1 => if i < (bs r n s i).1.length then row r ((bs r n s i).1.getD i 0) (bs r n s i) n else bs r n s i

/-- what holds of a group that is being gathered -/
structure Gath (r : Nat → Nat → Bool) (n first : Nat) (D0 : List Bool) (s : List Nat × List Bool) : Prop where
  nodup : s.1.Nodup
  lt : ∀ x, x ∈ s.1 → x < n
  conn : ∀ x, x ∈ s.1 → wj r n first x = true
  len : s.2.length = n
  done : ∀ x, x < n → s.2.getD x true = (D0.getD x true || decide (x ∈ s.1))
  new : ∀ x, x ∈ s.1 → D0.getD x true = false
variable {n first : Nat} {D0 : List Bool}
theorem Gath.step {s : List Nat × List Bool} (h : Gath r n first D0 s) {g k : Nat} (hg : g ∈ s.1) (hk : k < n) : Gath r n first D0 (rowStep r g s k) ∧ (∀ x, x ∈ s.1 → x ∈ (rowStep r g s k).1) ∧ (∃ t, (rowStep r g s k).1 = s.1 ++ t) ∧ (r g k = true → (rowStep r g s k).2.getD k true = true) ∧ (∀ x, s.2.getD x true = true → (rowStep r g s k).2.getD x true = true) := by
  unfold rowStep
  split
  · rename_i hc
    rw [Bool.and_eq_true, Bool.not_eq_true'] at hc
    obtain ⟨h1, h2⟩ := hc
    have hd := h.done k hk
    rw [h1] at hd
    have hd' := hd.symm
    rw [Bool.or_eq_false_iff, decide_eq_false_iff_not] at hd'
    have hset : ∀ x, (s.2.set k true).getD x true = if x = k then true else s.2.getD x true := by
      intro x
      simp only [List.getD_eq_getElem?_getD, List.getElem?_set]
      by_cases e : k = x
      · subst e; simp [h.len, hk]
      · simp [e, Ne.symm e]
    refine ⟨⟨?_, ?_, ?_, ?_, ?_, ?_⟩, ?_, ⟨[k], rfl⟩, ?_, ?_⟩
    · refine List.nodup_append.2 ⟨h.nodup, by simp, fun a ha b hb e => ?_⟩
      simp at hb; subst hb; subst e; exact hd'.2 ha
    · intro x hx
      rcases List.mem_append.1 hx with hx | hx
      · exact h.lt x hx
      · simp at hx; omega
    · intro x hx
      rcases List.mem_append.1 hx with hx | hx
      · exact h.conn x hx
      · simp at hx; subst hx; exact wj_trans n g first x (h.lt g hg) (h.conn g hg) (wj_base n g x h2)
    · simp [h.len]
    · intro x hx
      simp only [hset, List.mem_append, List.mem_singleton]
      by_cases e : x = k
      · simp [e]
      · rw [if_neg e, h.done x hx]; simp [e]
    · intro x hx
      rcases List.mem_append.1 hx with hx | hx
      · exact h.new x hx
      · simp at hx; subst hx; exact hd'.1
    · intro x hx; exact List.mem_append_left _ hx
    · intro _; simp only [hset]; simp
    · intro x hx; simp only [hset, hx]; simp
  · rename_i hc
    refine ⟨h, fun x hx => hx, ⟨[], by simp⟩, fun hr => ?_, fun x hx => hx⟩
    rw [hr, Bool.and_true, Bool.not_eq_true', Bool.not_eq_false] at hc
    exact hc
theorem Gath.row {s : List Nat × List Bool} (h : Gath r n first D0 s) {g : Nat} (hg : g ∈ s.1) : ∀ m, m ≤ n → Gath r n first D0 (row r g s m) ∧ (∃ t, (Nm.row r g s m).1 = s.1 ++ t) ∧ (∀ k, k < m → r g k = true → (Nm.row r g s m).2.getD k true = true) ∧ (∀ x, s.2.getD x true = true → (Nm.row r g s m).2.getD x true = true)
  | 0, _ => ⟨h, ⟨[], by simp [Nm.row]⟩, fun k hk => by omega, fun x hx => hx⟩
  | m+1, hm => by
    obtain ⟨h1, ⟨t, h2⟩, h3, h4⟩ := Gath.row h hg m (by omega)
    have hg' : g ∈ (Nm.row r g s m).1 := by rw [h2]; exact List.mem_append_left _ hg
    obtain ⟨q1, _, ⟨t', q3⟩, q4, q5⟩ := h1.step hg' (k := m) (by omega)
    refine ⟨q1, ⟨t ++ t', by show (rowStep r g (Nm.row r g s m) m).1 = _; rw [q3, h2, List.append_assoc]⟩, fun k hk hr => ?_, fun x hx => q5 x (h4 x hx)⟩
    by_cases e : k = m
    · subst e; exact q4 hr
    · exact q5 k (h3 k (by omega) hr)
theorem Gath.le {s : List Nat × List Bool} (h : Gath r n first D0 s) : s.1.length ≤ n := by
  have hp : s.1.Perm ((List.range n).filter fun x => decide (x ∈ s.1)) := by
    refine (List.perm_ext_iff_of_nodup h.nodup (List.Nodup.sublist List.filter_sublist List.nodup_range)).2 fun x => ?_
    simp only [List.mem_filter, List.mem_range, decide_eq_true_eq]
    exact ⟨fun hx => ⟨h.lt x hx, hx⟩, fun hx => hx.2⟩
  have h1 := hp.length_eq
  have h2 := List.length_filter_le (fun x => decide (x ∈ s.1)) (List.range n)
  rw [List.length_range] at h2
  omega
/-- i members looked at: what they reach is done -/
theorem Gath.bs {s : List Nat × List Bool} (h : Gath r n first D0 s) : ∀ i, Gath r n first D0 (bs r n s i) ∧ (∃ t, (Nm.bs r n s i).1 = s.1 ++ t) ∧ (∀ j, j < i → j < (Nm.bs r n s i).1.length → ∀ k, k < n → r ((Nm.bs r n s i).1.getD j 0) k = true → (Nm.bs r n s i).2.getD k true = true)
  | 0 => ⟨h, ⟨[], by simp [Nm.bs]⟩, fun j hj => by omega⟩
  | i+1 => by
    obtain ⟨h1, ⟨t, h2⟩, h3⟩ := Gath.bs h i
    rw [Nm.bs]
    split
    · rename_i hlt
      have hg : (Nm.bs r n s i).1.getD i 0 ∈ (Nm.bs r n s i).1 := by
        rw [List.getD_eq_getElem?_getD, List.getElem?_eq_getElem hlt]; exact List.getElem_mem hlt
      obtain ⟨q1, ⟨t', q2⟩, q3, q4⟩ := h1.row hg n (Nat.le_refl _)
      refine ⟨q1, ⟨t ++ t', by rw [q2, h2, List.append_assoc]⟩, fun j hj hjl k hk hr => ?_⟩
      have hjl' : j < (Nm.bs r n s i).1.length := by omega
      have e : (Nm.row r ((Nm.bs r n s i).1.getD i 0) (Nm.bs r n s i) n).1.getD j 0 = (Nm.bs r n s i).1.getD j 0 := by
        rw [q2, List.getD_eq_getElem?_getD, List.getD_eq_getElem?_getD, List.getElem?_append_left hjl']
      rw [e] at hr
      by_cases ej : j = i
      · subst ej; exact q3 k hk hr
      · exact q4 k (h3 j (by omega) hjl' k hk hr)
    · rename_i hge
      exact ⟨h1, ⟨t, h2⟩, fun j hj hjl k hk hr => h3 j (by omega) hjl k hk hr⟩
theorem bs_stop {s : List Nat × List Bool} {i : Nat} (h : (bs r n s i).1.length ≤ i) : ∀ d, bs r n s (i+d) = bs r n s i
  | 0 => rfl
  | d+1 => by
    rw [← Nat.add_assoc, bs, bs_stop h d, if_neg (by omega)]
/-- the whole class is gathered -/
theorem gathered (hs : ∀ i k, r i k = r k i) {s : List Nat × List Bool} (h : Gath r n first D0 s) (hf : first ∈ s.1) (hD : ∀ x y, x < n → y < n → D0.getD x true = true → r x y = true → D0.getD y true = true) {i : Nat} (hi : (bs r n s i).1.length ≤ i) :
    (bs r n s i).1.Perm ((List.range n).filter (wj r n first)) ∧ (∀ x, x < n → (bs r n s i).2.getD x true = (D0.getD x true || wj r n first x)) ∧ (bs r n s i).2.length = n := by
  obtain ⟨h1, ⟨t, h2⟩, h3⟩ := h.bs i
  have hf' : first ∈ (bs r n s i).1 := by rw [h2]; exact List.mem_append_left _ hf
  have hcl : ∀ g k, k < n → g ∈ (bs r n s i).1 → r g k = true → k ∈ (bs r n s i).1 := by
    intro g k hk hg hr
    obtain ⟨j, hj, e⟩ := List.mem_iff_getElem.1 hg
    have hd := h3 j (by omega) hj k hk (by rw [List.getD_eq_getElem?_getD, List.getElem?_eq_getElem hj]; simpa [e] using hr)
    rw [h1.done k hk, Bool.or_eq_true, decide_eq_true_eq] at hd
    rcases hd with hd | hd
    · have := hD k g hk (h1.lt g hg) hd (by rw [hs]; exact hr)
      rw [h1.new g hg] at this; cases this
    · exact hd
  have hall : ∀ k, k < n → wj r n first k = true → k ∈ (bs r n s i).1 := fun k hk hc => wj_closed hcl n first k (Nat.le_refl _) hk hf' hc
  have hmem : ∀ x, x ∈ (bs r n s i).1 ↔ (x < n ∧ wj r n first x = true) := fun x => ⟨fun hx => ⟨h1.lt x hx, h1.conn x hx⟩, fun hx => hall x hx.1 hx.2⟩
  refine ⟨?_, fun x hx => ?_, h1.len⟩
  · refine (List.perm_ext_iff_of_nodup h1.nodup (List.Nodup.sublist List.filter_sublist List.nodup_range)).2 fun x => ?_
    rw [hmem x]; simp
  · rw [h1.done x hx]
    congr 1
    rw [Bool.eq_iff_iff, decide_eq_true_eq, hmem x]
    exact ⟨fun h => h.2, fun h => ⟨hx, h⟩⟩

/-- the names up to f have been firsts -/
def outer (r : Nat → Nat → Bool) (n : Nat) : Nat → List (List Nat) × List Bool
  | 0 => ([], List.replicate n false)
  | f+1 =>
    let o := outer r n f
    if o.2.getD f true then o else (o.1 ++ [(List.range n).filter (wj r n f)], (bs r n ([f], o.2.set f true) n).2)
theorem outer_start (hr : ∀ i, r i i = true) {D0 : List Bool} {f : Nat} (hf : f < n) (hlen : D0.length = n) (h0 : D0.getD f true = false) : Gath r n f D0 ([f], D0.set f true) := by
  refine ⟨by simp, fun x hx => by simp at hx; omega, fun x hx => by simp at hx; subst hx; exact wj_refl hr _ _, by simp [hlen], fun x hx => ?_, fun x hx => by simp at hx; subst hx; exact h0⟩
  simp only [List.getD_eq_getElem?_getD, List.getElem?_set, List.mem_singleton]
  by_cases e : f = x
  · subst e; simp [hlen, hf]
  · simp [e, Ne.symm e]
theorem outer_inv (hr : ∀ i, r i i = true) (hs : ∀ i k, r i k = r k i) : ∀ f, f ≤ n → (outer r n f).2.length = n ∧ (∀ x, x < n → (outer r n f).2.getD x true = (List.range f).any fun i => wj r n i x) ∧
    (outer r n f).1 = ((List.range f).filter fun i => (List.range i).all fun k => !wj r n i k).map fun i => (List.range n).filter (wj r n i)
  | 0, _ => by
    refine ⟨by simp [outer], fun x hx => ?_, by simp [outer]⟩
    simp [outer, List.getD_eq_getElem?_getD, hx]
  | f+1, hf => by
    obtain ⟨h1, h2, h3⟩ := outer_inv hr hs f (by omega)
    have hsy := wj_symm hs n
    have hany : ((List.range f).any fun i => wj r n i f) = !((List.range f).all fun k => !wj r n f k) := by
      rw [List.not_all_eq_any_not]
      simp only [Bool.not_not]
      congr 1; funext i; exact hsy i f
    rw [outer]
    split
    · rename_i hd
      refine ⟨h1, fun x hx => ?_, ?_⟩
      · rw [h2 x hx, List.range_succ, List.any_append]
        simp only [List.any_cons, List.any_nil, Bool.or_false]
        rw [h2 f (by omega)] at hd
        cases hw : wj r n f x with
        | false => simp
        | true =>
          rw [Bool.or_true]
          obtain ⟨i, hi, hif⟩ := List.any_eq_true.1 hd
          exact List.any_eq_true.2 ⟨i, hi, wj_trans n f i x (by omega) hif hw⟩
      · rw [h3, List.range_succ, List.filter_append, List.map_append]
        rw [h2 f (by omega), hany] at hd
        have hd' : ((List.range f).all fun k => !wj r n f k) = false := by simpa using hd
        simp [hd']
    · rename_i hd
      have hd0 : (outer r n f).2.getD f true = false := by simpa using hd
      have hG := outer_start (r := r) hr (by omega : f < n) h1 hd0
      have hD : ∀ x y, x < n → y < n → (outer r n f).2.getD x true = true → r x y = true → (outer r n f).2.getD y true = true := by
        intro x y hx hy hdx hxy
        rw [h2 x hx] at hdx; rw [h2 y hy]
        obtain ⟨i, hi, hix⟩ := List.any_eq_true.1 hdx
        exact List.any_eq_true.2 ⟨i, hi, wj_trans n x i y hx hix (wj_base n x y hxy)⟩
      have hle : (bs r n ([f], (outer r n f).2.set f true) n).1.length ≤ n := (hG.bs n).1.le
      obtain ⟨_, g2, g3⟩ := gathered hs hG (by simp) hD hle
      refine ⟨g3, fun x hx => ?_, ?_⟩
      · rw [g2 x hx, h2 x hx, List.range_succ, List.any_append]; simp
      · rw [h3, List.range_succ, List.filter_append, List.map_append]
        rw [h2 f (by omega), hany] at hd0
        have hd' : ((List.range f).all fun k => !wj r n f k) = true := by simpa using hd0
        simp [hd']
end Nm
namespace Go.Proofs.YtdfebccmjbocjaaGreatDoor.Na
open Go.RowKit Go.Shelf Go.Sort

theorem sort_own {base g n cap : Nat} {l : List Nat} {w : World} (h : w.ownsRow base 3 1 (.slice (some ⟨g, 0, none⟩) n cap) n (natsV l)) (hn : n ≤ 1000) (l' : List Nat) (hp : l.Perm l') (hs : l'.Pairwise (· < ·)) :
    Calls Tryz.prog 57 #[.slice (some ⟨g, 0, none⟩) n cap] w fun e w' => e = .returned (.tuple #[]) ∧ w'.ownsRow base 3 1 (.slice (some ⟨g, 0, none⟩) n cap) n (natsV l') ∧ w.grownBy w' (some g) := by
  have e1 : natsV l = (l.map (fun (k : Nat) => (k : Int))).map (Value.int .i64) := by simp [natsV]
  rw [e1] at h
  have e2 : ((l.map (fun (k : Nat) => (k : Int))).mergeSort fun x y => decide (x ≤ y)) = l'.map (fun (k : Nat) => (k : Int)) := by
    refine ((List.mergeSort_perm _ _).trans (hp.map _)).eq_of_pairwise (le := (· ≤ ·)) (fun a b _ _ h1 h2 => by omega) ?_ ?_
    · exact (List.pairwise_mergeSort (le := fun x y : Int => decide (x ≤ y)) (by intro a b c; simp; omega) (by intro a b; simp; omega) _).imp (by intro a b h; simpa using h)
    · rw [List.pairwise_map]
      exact hs.imp (by intro a b h; omega)
  obtain ⟨g', cap', hv, hb, hlt, hnc, hcm, hl, hH⟩ := Lib.holds_of_ownsRow h (by simp)
  cases hv
  have hS := Tryz.slices_Sort_int g 0 cap (l.map (fun (k : Nat) => (k : Int))) w hH hlt (by omega)
  rw [hl] at hS
  refine Calls.mono hS ?_
  rintro e w' ⟨rfl, q, os, rfl⟩
  refine ⟨rfl, ?_, grownBy_sortedI _⟩
  rcases h.2 with ⟨e0, _⟩ | ⟨g', cap', cur, e0, hb', hg, hn', hm, hs, ht⟩
  · cases e0
  · cases e0
    have := ownsRow_sortedI (w := w) (base := base) (g := g) (cap := cap) (n := q) (os := os) (ss := l.map (fun (k : Nat) => (k : Int))) (ts := (l.map (fun (k : Nat) => (k : Int))).mergeSort fun x y => decide (x ≤ y)) (List.length_mergeSort _) hb hg (by omega) hcm (by simpa using hs)
    rw [hl, e2] at this
    rw [e2]
    rw [List.map_map] at this
    exact this
theorem tInfo4 : (Tryz.prog.info? 4).map (fun i => (i.zero, i.size, i.bytes)) = some (some (.bool false), 1, 1) := by kernel_rfl
theorem grownBy_rowOld {w w' w'' : World} {row : Option Nat} (h : w.grownBy w' row) (k : w'.grownBy w'' row) : w.grownBy w'' row :=
  ⟨k.os.trans h.os, k.tape.trans h.tape, k.output.trans h.output, Nat.le_trans h.size k.size, fun i hi hr => (k.block i (Nat.lt_of_lt_of_le hi h.size) hr).trans (h.block i hi hr)⟩
def boolsV (l : List Bool) : List Value := l.map Value.bool
theorem boolsV_set (l : List Bool) (k : Nat) (b : Bool) : (boolsV l).set k (.bool b) = boolsV (l.set k b) := by simp [boolsV, List.map_set]
/-- the relation of a table and a limit -/
def rT (tab : List (List Nat)) (L : Nat) (i k : Nat) : Bool := decide ((tab.getD i []).getD k 0 ≤ L)
theorem TabK.kept {W W' : World} {B : Nat} {v : Value} {tab : List (List Nat)} {row : Option Nat} (h : TabK W B v tab) (hg : W.grownBy W' row) (hr : ∀ r, row = some r → r < B) : TabK W' B v tab := by
  obtain ⟨vs, h1, h2⟩ := h
  have hk : ∀ {v : Value} {n : Nat} {xs : List Value} {e : TypeId}, W.ownsRow B e 1 v n xs → v.ownBlock = none ∨ v.ownBlock ≠ row := by
    intro v n xs e h
    cases hb : v.ownBlock with
    | none => exact .inl rfl
    | some k => exact .inr (fun e => by have := hr k e.symm; have := (h.lt k hb).1; omega)
  refine ⟨vs, h1.kept hg (hk h1), fun i r e => ?_⟩
  obtain ⟨u, k1, k2, k3⟩ := h2 i r e
  exact ⟨u, k1, k2.kept hg (hk k2), k3⟩
/-- what a table's rows read -/
theorem TabK.reads {w : World} {B : Nat} {tv : Value} {tab : List (List Nat)} {n : Nat} (h : TabK w B tv tab) (hn : tab.length = n) (h0 : 0 < n) (hrow : ∀ r, r ∈ tab → r.length = n) :
    ∃ tg tc, tv = .slice (some ⟨tg, 0, none⟩) n tc ∧ ∀ i, i < n → ∃ ug uc, ∀ W, Below w.heap.size w W → W.cell? ⟨tg, i, none⟩ = some (.slice (some ⟨ug, 0, none⟩) n uc) ∧ ∀ k, k < n → W.cell? ⟨ug, k, none⟩ = some (.int .i64 (((tab.getD i []).getD k 0 : Nat) : Int)) := by
  obtain ⟨vs, h1, h2⟩ := h
  rw [hn] at h1
  obtain ⟨tg, tc, rfl⟩ := Joins.ownsRow_form h1 h0
  refine ⟨tg, tc, rfl, fun i hi => ?_⟩
  have hr : tab[i]? = some (tab.getD i []) := by rw [List.getD_eq_getElem?_getD, List.getElem?_eq_getElem (by omega)]; rfl
  obtain ⟨u, k1, k2, _⟩ := h2 i _ hr
  have hrl := hrow _ (List.mem_of_getElem? hr)
  unfold natsOwn at k2
  rw [hrl] at k2
  obtain ⟨ug, uc, rfl⟩ := Joins.ownsRow_form k2 h0
  refine ⟨ug, uc, fun W hW => ⟨?_, fun k hk => ?_⟩⟩
  · rw [hW.cell (p := ⟨tg, i, none⟩) (h1.lt tg rfl).2, h1.cellAt i (by omega), k1]
  · rw [hW.cell (p := ⟨ug, k, none⟩) (k2.lt ug rfl).2, k2.cellAt k (by omega), natsV, List.getElem?_map, List.getD_eq_getElem?_getD (l := tab.getD i []), List.getElem?_eq_getElem (by omega)]; rfl
end Go.Proofs.YtdfebccmjbocjaaGreatDoor.Na
namespace Go.Proofs.YtdfebccmjbocjaaGreatDoor.Na
open Go.RowKit Go.Shelf

/-- between two names of the outer loop -/
def GO (w : World) (n : Nat) (W : World) (v : Value) (s : List (List Nat) × List Bool) : Prop :=
  W.ownsRow w.heap.size 4 1 (.slice (some ⟨w.heap.size, 0, none⟩) n n) n (boolsV s.2) ∧ TabK W (w.heap.size + 1) v s.1 ∧ Below w.heap.size w W ∧ w.heap.size < W.heap.size
/-- while a group is gathered -/
def GI (w wo : World) (n : Nat) (W : World) (g : Value) (s : List Nat × List Bool) : Prop :=
  W.ownsRow w.heap.size 4 1 (.slice (some ⟨w.heap.size, 0, none⟩) n n) n (boolsV s.2) ∧ W.ownsRow wo.heap.size 3 1 g s.1.length (natsV s.1) ∧ wo.grownBy W (some w.heap.size) ∧ Below w.heap.size w W ∧ w.heap.size < wo.heap.size
theorem GI.size {w wo W : World} {n : Nat} {g : Value} {s : List Nat × List Bool} (h : GI w wo n W g s) : wo.heap.size ≤ W.heap.size := h.2.2.1.size
theorem GI.put {w wo W W2 : World} {n k kl : Nat} {g g' : Value} {s : List Nat × List Bool} (h : GI w wo n W g s) (hk : s.1.length = kl) (hown : W2.ownsRow wo.heap.size 3 1 g' (kl + 1) (natsV s.1 ++ [.int .i64 (k : Int)])) (hg : (W.alloc (.cells #[.int .i64 (k : Int)] 3)).grownBy W2 g.ownBlock) :
    GI w wo n (W2.setCell ⟨w.heap.size, k, none⟩ (.bool true)) g' (s.1 ++ [k], s.2.set k true) := by
  obtain ⟨h1, h2, h3, h4, h5⟩ := h
  have hsz := h3.size
  have hgb : ∀ j, g.ownBlock = some j → wo.heap.size ≤ j := fun j e => (h2.lt j e).1
  have ga : wo.grownBy W2 (some w.heap.size) := by
    have g1 : wo.grownBy (W.alloc (.cells #[.int .i64 (k : Int)] 3)) (some w.heap.size) := grownBy_rowOld h3 (grownBy_below ((Below.refl _ _).alloc (Nat.le_refl _) _) _)
    cases hb : g.ownBlock with
    | none => rw [hb] at hg; exact grownBy_rowOld g1 ⟨hg.os, hg.tape, hg.output, hg.size, fun i hi _ => hg.block i hi (by simp)⟩
    | some j => rw [hb] at hg; exact grownBy_rowNew g1 hg (hgb j hb)
  have hd : W2.ownsRow w.heap.size 4 1 (.slice (some ⟨w.heap.size, 0, none⟩) n n) n (boolsV s.2) := (h1.alloc _).kept hg (.inr (fun e => by have h9 := hgb w.heap.size e.symm; omega))
  obtain ⟨d1, d2⟩ := hd.stored k (.bool true)
  rw [boolsV_set] at d1
  refine ⟨d1, ?_, grownBy_rowOld ga d2, ?_, h5⟩
  · have := hown.kept d2 (by
      rcases Joins.ownsRow_forms hown with ⟨e, _⟩ | ⟨q, c, e⟩
      · rw [e]; exact .inl rfl
      · right; rw [e]; intro e2; have h8 : wo.heap.size ≤ q := (hown.lt q (by rw [e]; rfl)).1; have e3 : q = w.heap.size := by simpa [Value.ownBlock] using e2
        omega)
    rw [List.length_append, hk]
    simpa [natsV] using this
  · refine ((h4.alloc h4.size _).grown hg (by have := h4.size; simp; omega) (fun j e => ?_)).grown d2 ?_ (fun j e => by cases e; exact Nat.le_refl _)
    · have := hgb j e; omega
    · have := hg.size; simp at this; omega
theorem GI.start {w wo : World} {n f : Nat} {v : Value} {s : List (List Nat) × List Bool} (h : GO w n wo v s) :
    GI w wo n ((wo.alloc (.cells #[.int .i64 (f : Int)] 3)).setCell ⟨w.heap.size, f, none⟩ (.bool true)) (.slice (some ⟨wo.heap.size, 0, none⟩) 1 1) ([f], s.2.set f true) := by
  obtain ⟨h1, h2, h3, h4⟩ := h
  obtain ⟨d1, d2⟩ := (h1.alloc (.cells #[.int .i64 (f : Int)] 3)).stored f (.bool true)
  rw [boolsV_set] at d1
  refine ⟨d1, ?_, grownBy_rowOld (grownBy_below ((Below.refl _ _).alloc (Nat.le_refl _) _) _) d2, ?_, h4⟩
  · have h9 := World.ownsRow_lit (base := wo.heap.size) (e := 3) (size := 1) wo #[.int .i64 (f : Int)] 1 (Nat.le_refl _) (by unfold maxLen; omega) rfl
    refine h9.kept d2 (.inr fun e2 => ?_)
    have e3 : wo.heap.size = w.heap.size := by simpa [Value.ownBlock] using e2
    omega
  · exact (h3.alloc h3.size _).grown d2 (by have := h3.size; simp; omega) (fun j e => by cases e; exact Nat.le_refl _)
/-- the group is known: the next name -/
theorem GI.close {w wo W7 W8 W9 : World} {n : Nat} {v v' u : Value} {s : List (List Nat) × List Bool} {t : List Nat × List Bool} {l : List Nat} (h : GO w n wo v s) (hi : GI w wo n W7 u t) {gg gc m : Nat} (hu : u = .slice (some ⟨gg, 0, none⟩) m gc)
    (hown : W8.ownsRow wo.heap.size 3 1 u m (natsV l)) (hg8 : W7.grownBy W8 (some gg)) (hm : l.length = m) {vs : List Value} (hvs : W8.ownsRow (w.heap.size + 1) 41 1 v s.1.length vs) (hrs : RowsAt W8 (w.heap.size + 1) v vs s.1)
    (ho9 : W9.ownsRow (w.heap.size + 1) 41 1 v' (s.1.length + 1) (vs ++ [u])) (hg9 : (W8.alloc (.cells #[u] 41)).grownBy W9 v.ownBlock) (hat : v'.ownBlock = v.ownBlock ∨ v'.ownBlock = some (W8.alloc (.cells #[u] 41)).heap.size) (hvb : ∀ j, v.ownBlock = some j → j < wo.heap.size) (hD : t.2.length = n) :
    GO w n W9 v' (s.1 ++ [l], t.2) := by
  obtain ⟨i1, i2, i3, i4, i5⟩ := hi
  have hgo : wo.heap.size ≤ gg := (hown.lt gg (by rw [hu]; rfl)).1
  have z7 := i3.size
  have z8 := hg8.size
  have z9 := hg9.size
  rw [World.size_alloc] at z9
  have b8 : Below w.heap.size w W8 := i4.grown hg8 i4.size (fun j e => by cases e; omega)
  have hvw : ∀ j, v.ownBlock = some j → w.heap.size + 1 ≤ j := fun j e => (hvs.lt j e).1
  have hd8 : W8.ownsRow w.heap.size 4 1 (.slice (some ⟨w.heap.size, 0, none⟩) n n) n (boolsV t.2) := i1.kept hg8 (.inr fun e2 => by
    have e3 : w.heap.size = gg := by simpa [Value.ownBlock] using e2
    omega)
  refine ⟨(hd8.alloc _).kept hg9 (.inr fun e2 => by have h9 := hvw w.heap.size e2.symm; omega), ?_, (b8.alloc b8.size _).grown hg9 (by have := b8.size; simp; omega) (fun j e => by have := hvw j e; omega), by omega⟩
  subst hu
  have hu8 : natsOwn W8 (w.heap.size + 1) (.slice (some ⟨gg, 0, none⟩) m gc) l := by
    unfold natsOwn; rw [hm]; exact hown.mono (by omega)
  refine tab_snoc (W := W8.alloc _) (hvs.alloc _) (fun i r e => by obtain ⟨u', q1, q2, q3⟩ := hrs i r e; exact ⟨u', q1, q2.alloc _, q3⟩) (hu8.alloc _) (fun j e e2 => ?_) ho9 hg9 hat
  have e3 : gg = j := by simpa [Value.ownBlock] using e2
  have := hvb j e
  omega
end Go.Proofs.YtdfebccmjbocjaaGreatDoor.Na
namespace Go.Proofs.YtdfebccmjbocjaaGreatDoor.Na
open Go.RowKit Go.Shelf

theorem cR_pf (R : RB) (x y : ByteArray) : cR R x y 0 0 = Nm.pf (SW (sndR R) R.al.toNat R.ot.toNat x y) (SA R.soft R.sk.toNat R.ss.toNat R.db.toNat x) (SA R.soft R.sk.toNat R.ss.toNat R.db.toNat y) x.size y.size := by
  unfold cR csD Nm.cs
  rw [Nat.sub_zero, Nat.sub_zero, Nm.rs_eq_pf]
theorem swN_comm (sn : UInt8 → UInt8) (al ot : Nat) (p q : UInt8) : swN sn al ot p q = swN sn al ot q p := by
  unfold swN
  simp only [eq_comm (a := p) (b := q), eq_comm (a := sn p) (b := sn q)]
/-- the cost does not depend on the order -/
theorem cR_comm (R : RB) (x y : ByteArray) : cR R x y 0 0 = cR R y x 0 0 := by
  rw [cR_pf, cR_pf, Nm.pf_swap]
  congr 1
  funext j i
  exact swN_comm _ _ _ _ _
/-- a name and itself -/
theorem cR_self (R : RB) (x : ByteArray) : cR R x x 0 0 = 0 := by
  rw [cR_pf]
  have := Nm.pf_diag (SW (sndR R) R.al.toNat R.ot.toNat x x) (SA R.soft R.sk.toNat R.ss.toNat R.db.toNat x) (SA R.soft R.sk.toNat R.ss.toNat R.db.toNat x) (fun _ => 0) (fun i => by simp [SW, swN]) (fun _ => Nat.le_refl _) rfl x.size
  omega
theorem tabL_get (R : RB) (ys : List ByteArray) (i k : Nat) : ((tabL R ys ys).getD i []).getD k 0 = match ys[i]?, ys[k]? with | some x, some y => cR R x y 0 0 | _, _ => 0 := by
  unfold tabL
  rw [List.getD_eq_getElem?_getD (l := ys.map _), List.getElem?_map]
  cases h : ys[i]? with
  | none => simp
  | some x =>
    simp only [Option.map_some, Option.getD_some]
    unfold costsL
    rw [List.getD_eq_getElem?_getD, List.getElem?_map]
    cases h2 : ys[k]? with
    | none => simp
    | some y => simp
theorem rT_refl (R : RB) (ys : List ByteArray) (L i : Nat) : rT (tabL R ys ys) L i i = true := by
  unfold rT
  rw [tabL_get]
  cases h : ys[i]? with
  | none => simp
  | some x => simp [cR_self]
theorem rT_comm (R : RB) (ys : List ByteArray) (L i k : Nat) : rT (tabL R ys ys) L i k = rT (tabL R ys ys) L k i := by
  unfold rT
  rw [tabL_get, tabL_get]
  cases h : ys[i]? with
  | none => cases h2 : ys[k]? <;> simp
  | some x =>
    cases h2 : ys[k]? with
    | none => simp
    | some y =>
      show decide (cR R x y 0 0 ≤ L) = decide (cR R y x 0 0 ≤ L)
      rw [cR_comm]
/-- the groups of a list -/
def grpL (R : RB) (ys : List ByteArray) (L : Nat) : List (List Nat) := (Nm.outer (rT (tabL R ys ys) L) ys.length ys.length).1
end Go.Proofs.YtdfebccmjbocjaaGreatDoor.Na
namespace Go.Proofs.YtdfebccmjbocjaaGreatDoor.Na
open Go.RowKit Go.Shelf

/-- Groups' error and its groups -/
def groupsE (R : RB) (ys : List ByteArray) (lim : Int) : Nat := if lstN R ys [] = 0 then (if inB lim 0 5000 then 0 else 2) else lstN R ys []
def groupsV (R : RB) (ys : List ByteArray) (lim : Int) : List (List Nat) := if groupsE R ys lim = 0 then grpL R ys lim.toNat else []
theorem tab_nil (w : World) (B : Nat) : TabK w B (.slice none 0 0) [] := ⟨[], World.ownsRow_nil _ _ _ _, fun i r e => by simp at e⟩
end Go.Proofs.YtdfebccmjbocjaaGreatDoor.Na
namespace Go.Proofs.YtdfebccmjbocjaaGreatDoor.Na
open Go.RowKit Go.Shelf

/-- the search for the lowest limit: the code's own steps -/
def brS (p : Nat → Bool) : Nat → Int → Int → Int
  | 0, _, high => high
  | k+1, low, high => if high - low > 1 then (if p ((low + high) / 2).toNat then brS p k low ((low + high) / 2) else brS p k ((low + high) / 2) high) else high
theorem brS_done (p : Nat → Bool) (k : Nat) (low high : Int) (h : ¬ high - low > 1) : brS p k low high = high := by
  cases k with
  | zero => rfl
  | succ k => rw [brS, if_neg h]
def oneG (R : RB) (ys : List ByteArray) (L : Nat) : Bool := decide ((grpL R ys L).length = 1)
def brN (R : RB) (ys : List ByteArray) : Int := brS (oneG R ys) 5000 (-1) 5000
theorem lenV {w : World} {B : Nat} {v : Value} {tab : List (List Nat)} (h : TabK w B v tab) : ∃ q c, v = .slice q tab.length c := by
  obtain ⟨vs, h1, _⟩ := h
  rcases Joins.ownsRow_forms h1 with ⟨e, e2⟩ | ⟨g, c, e⟩
  · exact ⟨none, 0, by rw [e, e2]⟩
  · exact ⟨_, _, e⟩
end Go.Proofs.YtdfebccmjbocjaaGreatDoor.Na
namespace Go.Proofs.YtdfebccmjbocjaaGreatDoor.Na
open Go.RowKit Go.Shelf

/-- the total of a name -/
def totN (R : RB) (ys : List ByteArray) (i : Nat) : Nat := ((tabL R ys ys).getD i []).sum
def ctN (R : RB) (ys : List ByteArray) : Nat := Nm.best (totN R ys) ys.length
theorem sum_take_succ (l : List Nat) (k x : Nat) (h : l[k]? = some x) : (l.take (k + 1)).sum = (l.take k).sum + x := by
  rw [List.take_add_one, h]; simp
theorem sum_take_le (l : List Nat) (b : Nat) (hb : ∀ x, x ∈ l → x ≤ b) : ∀ k, (l.take k).sum ≤ b * k
  | 0 => by simp
  | k+1 => by
    have ih := sum_take_le l b hb k
    cases h : l[k]? with
    | none => rw [List.take_add_one, h]; simp [Nat.mul_add]; omega
    | some x =>
      have := hb x (List.mem_of_getElem? h)
      rw [sum_take_succ l k x h, Nat.mul_add]; omega
end Go.Proofs.YtdfebccmjbocjaaGreatDoor.Na
namespace Nm
section
variable (sw : Nat → Nat → Nat) (sa sb : Nat → Nat) (n m : Nat)
/-- rs, in a form that reckons -/
def rsS : Nat → Nat → Nat
  | 0 => fun b => Nat.rec 0 (fun b r => sb (m-(b+1)) + r) b
  | a+1 => fun b => Nat.rec (sa (n-(a+1)) + rsS a 0) (fun b r => min (min (sw (n-(a+1)) (m-(b+1)) + rsS a b) (sa (n-(a+1)) + rsS a (b+1))) (sb (m-(b+1)) + r)) b
theorem rs_rsS : ∀ a b, rs sw sa sb n m a b = rsS sw sa sb n m a b
  | 0, 0 => by rw [rs]; rfl
  | 0, b+1 => by rw [rs, rs_rsS 0 b]; rfl
  | a+1, 0 => by rw [rs, rs_rsS a 0]; rfl
  | a+1, b+1 => by rw [rs, rs_rsS a b, rs_rsS a (b+1), rs_rsS (a+1) b]; rfl
end
end Nm
namespace Go.Proofs.YtdfebccmjbocjaaGreatDoor.Na
open Go.RowKit Go.Shelf

def bs (l : List UInt8) : ByteArray := ⟨l.toArray⟩
/-- the rules of clerks -/
def clkR : RB := ⟨[bs [66, 80], bs [68, 84], bs [67, 75, 81]], bs [65, 69, 73, 79, 85, 89], 1, 4, 3, 1, 1⟩
/-- the cost, in a form that reckons -/
def cRS (R : RB) (x y : ByteArray) : Nat := Nm.rsS (SW (sndR R) R.al.toNat R.ot.toNat x y) (SA R.soft R.sk.toNat R.ss.toNat R.db.toNat x) (SA R.soft R.sk.toNat R.ss.toNat R.db.toNat y) x.size y.size x.size y.size
theorem cR_S (R : RB) (x y : ByteArray) : cR R x y 0 0 = cRS R x y := by
  unfold cR csD Nm.cs cRS
  rw [Nm.rs_rsS, Nat.sub_zero, Nat.sub_zero]
def nmK : ByteArray := bs [75, 65, 84, 69]
def nmC : ByteArray := bs [67, 65, 68, 69]
theorem ev1 : cR clkR nmK nmC 0 0 = 2 := by rw [cR_S]; kernel_rfl
theorem ev2 : chkN clkR [nmK, nmC] = 0 := by kernel_rfl
theorem ev3 : keyR clkR nmC.data.toList = [67, 68] := by kernel_rfl
end Go.Proofs.YtdfebccmjbocjaaGreatDoor.Na
namespace Go.Proofs.YtdfebccmjbocjaaGreatDoor.Na
open Go.RowKit Go.Shelf

theorem skL {W : World} {b : Nat} {l : List ByteArray} {t : TypeId} (h : Blk W b (l.map Value.string).toArray t) : SK W (some ⟨b, 0, none⟩) b 0 l := ⟨fun _ => rfl, fun i s e => by
  rw [Nat.zero_add, h.cell i]; simp [e], fun _ => h.lt⟩
end Go.Proofs.YtdfebccmjbocjaaGreatDoor.Na
namespace Go.Proofs.YtdfebccmjbocjaaGreatDoor.Na
open Go.RowKit Go.Shelf

def IK (W : World) (a : Option Addr) (g o n : Nat) (xs : List Int) : Prop := xs.length = n ∧ (xs ≠ [] → a = some ⟨g, o, none⟩) ∧ IntsAt W g o xs ∧ (xs ≠ [] → g < W.heap.size)
theorem IK.cell {W W' : World} {a : Option Addr} {g o n : Nat} {xs : List Int} (h : IK W a g o n xs) (hb : Below W.heap.size W W') {i : Nat} {x : Int} (hi : xs[i]? = some x) : W'.cell? ⟨g, o + i, none⟩ = some (.int .i64 x) := by
  have hne : xs ≠ [] := by rintro rfl; simp at hi
  exact (hb.cell (p := ⟨g, _, none⟩) (h.2.2.2 hne)).trans (h.2.2.1 i x hi)
end Go.Proofs.YtdfebccmjbocjaaGreatDoor.Na
namespace Go.Proofs.YtdfebccmjbocjaaGreatDoor.Na
open Go.RowKit Go.Shelf

def four4 : List ByteArray := [nmK, nmC, bs [77, 65, 82, 89], bs [75, 65, 84, 89]]
def tab4 : List (List Nat) := [[0, 2, 10, 2], [2, 0, 10, 4], [10, 10, 0, 8], [2, 4, 8, 0]]
theorem tab4_eq : tabL clkR four4 four4 = tab4 := by
  have h : tabL clkR four4 four4 = four4.map fun x => four4.map fun y => cRS clkR x y := by
    unfold tabL costsL
    simp only [cR_S]
  have k : (four4.map fun x => four4.map fun y => cRS clkR x y) = tab4 := by kernel_rfl
  exact h.trans k
theorem costs4 : costsL clkR nmK four4 = [0, 2, 10, 2] := by
  have h : costsL clkR nmK four4 = four4.map fun y => cRS clkR nmK y := by
    unfold costsL
    simp only [cR_S]
  have k : (four4.map fun y => cRS clkR nmK y) = [0, 2, 10, 2] := by kernel_rfl
  exact h.trans k
theorem lst1 : lstN clkR four4 [nmK] = 0 := by kernel_rfl
theorem lst2 : someN clkR four4 = 0 := by kernel_rfl
theorem near4 : nearV clkR four4 nmK 2 = [0, 1, 3] := by
  have e : nearE clkR four4 nmK 2 = 0 := by unfold nearE; rw [lst1]; rfl
  unfold nearV
  rw [e, if_pos rfl]
  unfold nearL
  rw [costs4]
  have k : Nm.dueL (fun i => ([0, 2, 10, 2] : List Nat).getD i 0) four4.length (2 : Int).toNat = [0, 1, 3] := by kernel_rfl
  exact k
theorem br4 : brN clkR four4 = 8 := by
  unfold brN
  have h : oneG clkR four4 = fun L => decide ((Nm.outer (rT tab4 L) 4 4).1.length = 1) := by
    funext L
    unfold oneG grpL
    rw [tab4_eq]
    rfl
  rw [h]
  have k : brS (fun L => decide ((Nm.outer (rT tab4 L) 4 4).1.length = 1)) 5000 (-1) 5000 = 8 := by kernel_rfl
  exact k
theorem ct4 : ctN clkR four4 = 0 ∧ totN clkR four4 0 = 14 := by
  have h : totN clkR four4 = fun i => (tab4.getD i []).sum := by
    funext i
    unfold totN
    rw [tab4_eq]
  unfold ctN
  rw [h]
  exact ⟨by kernel_rfl, by kernel_rfl⟩
end Go.Proofs.YtdfebccmjbocjaaGreatDoor.Na
namespace Go.Proofs.YtdfebccmjbocjaaGreatDoor.Na
open Go.RowKit Go.Shelf

theorem thn4 : Thn clkR := by
  refine ⟨by decide, ?_, by decide⟩
  decide
abbrev CV (b : Nat) : Value := rulesV (some ⟨b, 0, none⟩) 3 3 clkR.soft clkR.al clkR.ot clkR.sk clkR.ss clkR.db
theorem aw_key (b : Nat) (w : World) (hk : SK w (some ⟨b, 0, none⟩) b 0 clkR.cls) : Calls Tryz.prog 9 #[CV b, .string nmC] w fun e w' => e = .returned (.tuple #[.string ⟨#[67, 68]⟩, .int .i64 0]) ∧ Below w.heap.size w w' := by
  have h := Key_any (some ⟨b, 0, none⟩) b 0 3 3 clkR w rfl hk (Nat.le_refl _) thn4 nmC (by decide)
  have e : chkN clkR [nmC] = 0 := by kernel_rfl
  unfold keyV at h
  rw [e, if_pos rfl, ev3] at h
  exact h
theorem four_le : ∀ y, y ∈ four4 → y.size ≤ 1000 := by decide
end Go.Proofs.YtdfebccmjbocjaaGreatDoor.Na
namespace Go.Proofs.YtdfebccmjbocjaaGreatDoor.Na
open Go.RowKit Go.Shelf

theorem ik_of_row {W : World} {B g c n : Nat} {l : List Nat} (h : W.ownsRow B 3 1 (.slice (some ⟨g, 0, none⟩) n c) n (natsV l)) : IK W (some ⟨g, 0, none⟩) g 0 n (l.map fun (k : Nat) => (k : Int)) := by
  have hl : l.length = n := by simpa [natsV] using h.1
  refine ⟨by simpa using hl, fun _ => rfl, fun i x e => ?_, fun _ => (h.lt g rfl).2⟩
  have hi := (List.getElem?_eq_some_iff.1 e).1
  rw [List.length_map] at hi
  rw [Nat.zero_add, h.cellAt i (by omega), natsV, List.getElem?_map]
  rw [List.getElem?_map] at e
  cases hq : l[i]? with
  | none => rw [hq] at e; simp at e
  | some k => rw [hq] at e; simp at e; subst e; rfl
end Go.Proofs.YtdfebccmjbocjaaGreatDoor.Na
namespace Go.Proofs.YtdfebccmjbocjaaGreatDoor.Na
open Go.RowKit Go.Shelf Go.Joins Go.ChangeShapes Go.WideShapes Go.Deep

section
variable {H : Type} {enc : TypeId × Value → H} {P : Program} {w : World} {base : Nat} {spare : Nat → Bool} {held : Bool}
theorem open_agg7 {r : Reach} {b0 : Nat} {t : TypeId} {f0 f1 f2 f3 f4 f5 f6 : Field} {v : Value} {d : DataW H} {p : List MemPlace} (hs : P.underlying t = some (.struct #[f0, f1, f2, f3, f4, f5, f6])) (hone : oneCellFields P #[f0, f1, f2, f3, f4, f5, f6] = true) (hC : P.cellsOf t = 7)
    (hv : Value.okWide P w r b0 t v) (h : DataW.Trod enc P w base spare held t v d p) :
    ∃ (v0 v1 v2 v3 v4 v5 v6 : Value) (y0 y1 y2 y3 y4 y5 y6 : DataW H × List MemPlace) (n : Nat), v = .agg #[v0, v1, v2, v3, v4, v5, v6] ∧ d = .agg [y0.1, y1.1, y2.1, y3.1, y4.1, y5.1, y6.1] ∧ p = y0.2 ++ (y1.2 ++ (y2.2 ++ (y3.2 ++ (y4.2 ++ (y5.2 ++ y6.2))))) ∧
      DataW.trod enc P w base spare held n f0.type [v0] = some y0 ∧ DataW.trod enc P w base spare held n f1.type [v1] = some y1 ∧ DataW.trod enc P w base spare held n f2.type [v2] = some y2 ∧ DataW.trod enc P w base spare held n f3.type [v3] = some y3 ∧ DataW.trod enc P w base spare held n f4.type [v4] = some y4 ∧ DataW.trod enc P w base spare held n f5.type [v5] = some y5 ∧ DataW.trod enc P w base spare held n f6.type [v6] = some y6 := by
  obtain ⟨cs, rfl, hsz⟩ := okWide_struct hs hv
  obtain ⟨l⟩ := cs
  match l, hsz.trans hC with
  | [c0, c1, c2, c3, c4, c5, c6], _ =>
    obtain ⟨fuel, hf⟩ := h
    obtain ⟨xs, n, _, hx, _, hlen, hg⟩ := DataW.trod_struct hs hf
    obtain ⟨o0, k0⟩ := hone_of hone 0 f0 rfl
    obtain ⟨o1, k1⟩ := hone_of hone 1 f1 rfl
    obtain ⟨o2, k2⟩ := hone_of hone 2 f2 rfl
    obtain ⟨o3, k3⟩ := hone_of hone 3 f3 rfl
    obtain ⟨o4, k4⟩ := hone_of hone 4 f4 rfl
    obtain ⟨o5, k5⟩ := hone_of hone 5 f5 rfl
    obtain ⟨o6, k6⟩ := hone_of hone 6 f6 rfl
    match xs, hlen with
    | [y0, y1, y2, y3, y4, y5, y6], _ =>
      simp only [Prod.mk.injEq] at hx
      exact ⟨c0, c1, c2, c3, c4, c5, c6, y0, y1, y2, y3, y4, y5, y6, n, rfl, by simpa using hx.1, by simpa using hx.2, by simpa [Value.cells, o0, k0] using hg 0 f0 rfl, by simpa [Value.cells, o1, k1] using hg 1 f1 rfl, by simpa [Value.cells, o2, k2] using hg 2 f2 rfl, by simpa [Value.cells, o3, k3] using hg 3 f3 rfl, by simpa [Value.cells, o4, k4] using hg 4 f4 rfl, by simpa [Value.cells, o5, k5] using hg 5 f5 rfl, by simpa [Value.cells, o6, k6] using hg 6 f6 rfl⟩
end
section
variable {H : Type} {enc : TypeId × Value → H} {w : World} {base : Nat} {spare : Nat → Bool} {held : Bool}
theorem row_of_strs {fuel : Nat} {v : Value} {x : DataW H × List MemPlace} (h : DataW.trod enc Tryz.prog w base spare held fuel 22 [v] = some x) :
    ∃ (a : Option Addr) (n c g o : Nat) (l : List ByteArray), v = .slice a n c ∧ SKn w a g o c n l ∧ n ≤ c := by
  rcases open_strings Tryz.underlying22 Tryz.underlying9 (by kernel_rfl) h with ⟨hcs, _⟩ | ⟨x, len, cap, ss, hcs, _, hl, hm, hz, _, hcell, _⟩
  · simp at hcs
    exact ⟨none, 0, 0, 0, 0, [], hcs, skn_nil w, Nat.le_refl _⟩
  · simp at hcs
    subst hcs
    have hzl : len ≤ ss.length := by rw [hz]; split <;> omega
    have hlen : (ss.take len).length = len := by simp; omega
    by_cases h0 : len = 0
    · subst h0
      exact ⟨some x, 0, cap, 0, 0, [], rfl, ⟨rfl, ⟨fun h => absurd rfl h, fun i a e => by simp at e, fun h => absurd rfl h⟩, fun h => by cases h⟩, hl⟩
    · obtain ⟨b, o, sp⟩ := x
      have hc0 := hcell 0 (by omega)
      have hsp : sp = none := by simpa [Addr.add] using World.cell?_spot hc0
      subst hsp
      have hlt := World.block_lt_of_cell? w _ hc0
      refine ⟨_, len, cap, b, o, ss.take len, rfl, ⟨hlen, ⟨fun _ => rfl, fun i s e => ?_, fun _ => by simpa [Addr.add] using hlt⟩, fun h => by cases h⟩, hl⟩
      have hi : i < len := by have := (List.getElem?_eq_some_iff.1 e).1; omega
      have h1 := hcell i (by omega)
      rw [List.getElem?_take, if_pos hi] at e
      rw [List.getD_eq_getElem?_getD, e] at h1
      by_cases hj : i = 0
      · subst hj; simpa [Addr.add] using h1
      · simpa [Addr.add, hj] using h1
set_option maxRecDepth 100000 in
theorem open_rules {r : Reach} {b0 : Nat} {v : Value} {d : DataW H} {p : List MemPlace} (hv : Value.okWide Tryz.prog w r b0 24 v) (h : DataW.Trod enc Tryz.prog w base spare held 24 v d p) :
    ∃ (a : Option Addr) (n c g o : Nat) (R : RB), v = rulesV a n c R.soft R.al R.ot R.sk R.ss R.db ∧ SKn w a g o c n R.cls ∧ n ≤ c := by
  obtain ⟨v0, v1, v2, v3, v4, v5, v6, y0, y1, y2, y3, y4, y5, y6, n, rfl, _, _, h0, h1, h2, h3, h4, h5, h6⟩ := open_agg7 Tryz.underlying24 (by kernel_rfl) (by kernel_rfl : Tryz.prog.cellsOf 24 = 7) hv h
  obtain ⟨a, m, c, g, o, l, rfl, hk, hc⟩ := row_of_strs h0
  obtain ⟨s, e1, _⟩ := DataW.trod_string Tryz.underlying9 h1
  obtain ⟨n2, e2, _⟩ := DataW.trod_int Tryz.underlying3 h2
  obtain ⟨n3, e3, _⟩ := DataW.trod_int Tryz.underlying3 h3
  obtain ⟨n4, e4, _⟩ := DataW.trod_int Tryz.underlying3 h4
  obtain ⟨n5, e5, _⟩ := DataW.trod_int Tryz.underlying3 h5
  obtain ⟨n6, e6, _⟩ := DataW.trod_int Tryz.underlying3 h6
  simp at e1 e2 e3 e4 e5 e6
  subst e1 e2 e3 e4 e5 e6
  exact ⟨a, m, c, g, o, ⟨l, s, n2, n3, n4, n5, n6⟩, rfl, hk, hc⟩
end
/-- no more names, no fewer rules -/
theorem chkN_intro {R : RB} {l : List ByteArray} (hg : Good R) (h : ∀ x, x ∈ l → x.size ≤ 12 ∧ spB x = true) : chkN R l = 0 := by
  unfold chkN
  have h1 : (l.all fun s => decide (s.size ≤ 12)) = true := List.all_eq_true.2 fun x hx => by simpa using (h x hx).1
  have h2 : l.all spB = true := List.all_eq_true.2 fun x hx => (h x hx).2
  have := hg.n8
  rw [h1, h2, hg.rul, if_neg (by simp; omega)]; rfl
theorem chkN_sub {R : RB} {l l' : List ByteArray} (h : chkN R l = 0) (hs : ∀ x, x ∈ l' → x ∈ l) : chkN R l' = 0 := by
  obtain ⟨hg, hl⟩ := chkN_ok h
  exact chkN_intro hg fun x hx => hl x (hs x hx)
theorem ready_parts {R : RB} {l : List ByteArray} (h : readyB R l = true) : Thn R ∧ R.cls.length ≤ 15 ∧ chkN R l = 0 ∧ l.length ≤ 15 ∧ ∀ s, s ∈ l → s.size ≤ 12 := by
  simp only [readyB, Bool.and_eq_true, decide_eq_true_eq] at h
  have h1 := h.1
  simp only [thinB, Bool.and_eq_true] at h1
  exact ⟨thin_thn h.1, (shB_len h1.1).1, h.2, (thin_l h.1).1, fun s hs => ((chkN_ok h.2).2 s hs).1⟩
end Go.Proofs.YtdfebccmjbocjaaGreatDoor.Na
namespace Go.Proofs.YtdfebccmjbocjaaGreatDoor.Na
open Go.RowKit Go.Shelf

/-- the first class that has the letter -/
def sndF : List (List UInt8) → UInt8 → UInt8
  | [], b => b
  | c :: cs, b => if b ∈ c then c.headD 0 else sndF cs b
theorem fold_keep (b : UInt8) : ∀ (cs : List (List UInt8)) (x : UInt8), (∀ c, c ∈ cs → b ∉ c) → cs.foldl (fun x c => if decide (b ∈ c) then c.headD 0 else x) x = x
  | [], _, _ => rfl
  | c :: cs, x, h => by
    rw [List.foldl_cons, decide_eq_false (h c (by simp))]
    exact fold_keep b cs x fun c hc => h c (List.mem_cons_of_mem _ hc)
theorem sndF_fold (b : UInt8) : ∀ (cs : List (List UInt8)), cs.flatten.Nodup → sndF cs b = cs.foldl (fun x c => if decide (b ∈ c) then c.headD 0 else x) b
  | [], _ => rfl
  | c :: cs, h => by
    rw [List.flatten_cons, List.nodup_append] at h
    rw [sndF, List.foldl_cons]
    by_cases hb : b ∈ c
    · rw [if_pos hb, decide_eq_true hb]
      refine (fold_keep b cs _ fun c2 hc2 hb2 => ?_).symm
      exact h.2.2 b hb b (List.mem_flatten.2 ⟨c2, hc2, hb2⟩) rfl
    · rw [if_neg hb, decide_eq_false hb]
      exact sndF_fold b cs h.2.1
theorem sndF_snd {R : RB} (hg : Good R) (b : UInt8) : sndF (R.cls.map (·.data.toList)) b = sndR R b := by
  have hr := hg.rul
  simp only [rulB, distB, Bool.and_eq_true, decide_eq_true_eq] at hr
  exact sndF_fold b _ hr.1.1.1.2
theorem sndF_none {b : UInt8} : ∀ (cs : List (List UInt8)), (∀ c, c ∈ cs → b ∉ c) → sndF cs b = b
  | [], _ => rfl
  | c :: cs, h => by
    rw [sndF, if_neg (h c (by simp))]
    exact sndF_none cs fun c hc => h c (List.mem_cons_of_mem _ hc)
theorem sndF_at {b : UInt8} {c : List UInt8} : ∀ (cs : List (List UInt8)) (k : Nat), cs[k]? = some c → b ∈ c → (∀ j d, j < k → cs[j]? = some d → b ∉ d) → sndF cs b = c.headD 0
  | [], k, h, _, _ => by simp at h
  | d :: cs, 0, h, hb, _ => by simp at h; subst h; rw [sndF, if_pos hb]
  | d :: cs, k+1, h, hb, hn => by
    rw [sndF, if_neg (hn 0 d (by omega) (by simp))]
    exact sndF_at cs k (by simpa using h) hb fun j e hj he => hn (j + 1) e (by omega) (by simpa using he)
end Go.Proofs.YtdfebccmjbocjaaGreatDoor.Na
namespace Go.Proofs.YtdfebccmjbocjaaGreatDoor.Na
open Go.RowKit Go.Shelf

theorem bytes_app (x z : ByteArray) : (x ++ z).data.toList = x.data.toList ++ z.data.toList := by simp
theorem getD_app_lt {x z : List UInt8} {i : Nat} (h : i < x.length) : (x ++ z).getD i 0 = x.getD i 0 := by
  simp [List.getD_eq_getElem?_getD, List.getElem?_append_left h]
theorem getD_sz (x : ByteArray) {i : Nat} (h : i < x.size) : i < x.data.toList.length := by simpa using h
theorem SW_app (sn : UInt8 → UInt8) (al ot : Nat) (x y z u : ByteArray) {i j : Nat} (hi : i < x.size) (hj : j < y.size) : SW sn al ot (x ++ z) (y ++ u) i j = SW sn al ot x y i j := by
  unfold SW
  rw [bytes_app, bytes_app, getD_app_lt (getD_sz x hi), getD_app_lt (getD_sz y hj)]
theorem SW_appL (sn : UInt8 → UInt8) (al ot : Nat) (x y z : ByteArray) {i j : Nat} (hi : i < x.size) : SW sn al ot (x ++ z) y i j = SW sn al ot x y i j := by
  unfold SW
  rw [bytes_app, getD_app_lt (getD_sz x hi)]
theorem SA_app (s : ByteArray) (sk ss db : Nat) (x z : ByteArray) {i : Nat} (hi : i < x.size) : SA s sk ss db (x ++ z) i = SA s sk ss db x i := by
  unfold SA skN
  rw [bytes_app, getD_app_lt (getD_sz x hi), getD_app_lt (getD_sz x (by omega : i - 1 < x.size))]
theorem size_app1 (x z : ByteArray) (hz : z.size = 1) : (x ++ z).size = x.size + 1 := by
  rw [ByteArray.size_append, hz]
/-- a letter appended to one name -/
theorem cR_longer (R : RB) (x y z : ByteArray) (hz : z.size = 1) : cR R (x ++ z) y 0 0 ≤ cR R x y 0 0 + SA R.soft R.sk.toNat R.ss.toNat R.db.toNat (x ++ z) x.size := by
  rw [cR_pf, cR_pf, size_app1 x z hz]
  refine Nat.le_trans (Nm.pf_sa _ _) ?_
  rw [Nm.pf_congr x.size y.size (sw' := SW (sndR R) R.al.toNat R.ot.toNat x y) (sa' := SA R.soft R.sk.toNat R.ss.toNat R.db.toNat x) (sb' := SA R.soft R.sk.toNat R.ss.toNat R.db.toNat y) (fun i j hi _ => SW_appL _ _ _ _ _ _ hi) (fun i hi => SA_app _ _ _ _ _ _ hi) (fun _ _ => rfl)]
  exact Nat.le_refl _
theorem getD_last (x z : ByteArray) : (x ++ z).data.toList.getD x.size 0 = z.data.toList.getD 0 0 := by
  rw [bytes_app, List.getD_eq_getElem?_getD, List.getElem?_append_right (by simp)]
  simp [List.getD_eq_getElem?_getD]
/-- the same letter appended to both -/
theorem cR_both (R : RB) (x y z : ByteArray) (hz : z.size = 1) : cR R (x ++ z) (y ++ z) 0 0 ≤ cR R x y 0 0 := by
  rw [cR_pf, cR_pf, size_app1 x z hz, size_app1 y z hz]
  refine Nat.le_trans (Nm.pf_sw _ _) ?_
  rw [Nm.pf_congr x.size y.size (sw' := SW (sndR R) R.al.toNat R.ot.toNat x y) (sa' := SA R.soft R.sk.toNat R.ss.toNat R.db.toNat x) (sb' := SA R.soft R.sk.toNat R.ss.toNat R.db.toNat y) (fun i j hi hj => SW_app _ _ _ _ _ _ _ hi hj) (fun i hi => SA_app _ _ _ _ _ _ hi) (fun i hi => SA_app _ _ _ _ _ _ hi)]
  have h : SW (sndR R) R.al.toNat R.ot.toNat (x ++ z) (y ++ z) x.size y.size = 0 := by
    unfold SW swN
    rw [getD_last, getD_last, if_pos rfl]
  rw [h]; exact Nat.le_refl _
/-- no cost is higher -/
theorem cR_mono (R R' : RB) (hc : R'.cls = R.cls) (hs : R'.soft = R.soft) (h1 : R'.al.toNat ≤ R.al.toNat) (h2 : R'.ot.toNat ≤ R.ot.toNat) (h3 : R'.sk.toNat ≤ R.sk.toNat) (h4 : R'.ss.toNat ≤ R.ss.toNat) (h5 : R'.db.toNat ≤ R.db.toNat) (x y : ByteArray) :
    cR R' x y 0 0 ≤ cR R x y 0 0 := by
  have hsn : sndR R' = sndR R := by funext b; unfold sndR; rw [hc]
  have ha : ∀ (t : ByteArray) i, SA R'.soft R'.sk.toNat R'.ss.toNat R'.db.toNat t i ≤ SA R.soft R.sk.toNat R.ss.toNat R.db.toNat t i := fun t i => by
    unfold SA skN
    rw [hs]
    split
    · exact h5
    · split
      · exact h4
      · exact h3
  rw [cR_pf, cR_pf, hsn]
  refine Nm.pf_mono (fun i j => ?_) (fun i => ha x i) (fun i => ha y i) _ _
  unfold SW swN
  split
  · exact Nat.le_refl _
  · split
    · exact h1
    · exact h2
def difN (x y : List UInt8) : Nat → Nat
  | 0 => 0
  | k+1 => difN x y k + if x.getD k 0 = y.getD k 0 then 0 else 1
theorem difN_le (x y : List UInt8) : ∀ k, difN x y k ≤ k
  | 0 => Nat.le_refl _
  | k+1 => by
    have := difN_le x y k
    rw [difN]; split <;> omega
/-- names of one length -/
theorem cR_differ (R : RB) (h : R.al.toNat ≤ R.ot.toNat) (x y : ByteArray) (hs : x.size = y.size) : cR R x y 0 0 ≤ difN x.data.toList y.data.toList x.size * R.ot.toNat := by
  rw [cR_pf, ← hs]
  refine Nm.pf_diag _ _ _ (fun k => difN x.data.toList y.data.toList k * R.ot.toNat) (fun i => ?_) (fun i => ?_) (by simp [difN]) _
  · unfold SW swN
    rw [difN]
    split
    · exact Nat.zero_le _
    · rw [Nat.add_mul, Nat.one_mul, Nat.add_sub_cancel_left]
      split
      · exact h
      · exact Nat.le_refl _
  · rw [difN, Nat.add_mul]; exact Nat.le_add_right _ _

/-! ### totals -/
def toX (R : RB) (x : ByteArray) (ys : List ByteArray) : Nat := (ys.map fun y => cR R x y 0 0).sum
theorem totN_get {R : RB} {ys : List ByteArray} {i : Nat} {x : ByteArray} (h : ys[i]? = some x) : totN R ys i = toX R x ys := by
  unfold totN tabL
  rw [List.getD_eq_getElem?_getD, List.getElem?_map, h]; rfl
theorem toX_perm {R : RB} {x : ByteArray} {ys zs : List ByteArray} (h : ys.Perm zs) : toX R x ys = toX R x zs := (h.map _).sum_nat
theorem ctN_lt {R : RB} {ys : List ByteArray} (h : ys ≠ []) : ctN R ys < ys.length := Nm.best_lt _ _ (List.length_pos_iff.2 h)
theorem ctN_le {R : RB} {ys : List ByteArray} {x : ByteArray} (h : x ∈ ys) : totN R ys (ctN R ys) ≤ toX R x ys := by
  obtain ⟨i, hi, e⟩ := List.mem_iff_getElem.1 h
  rw [← totN_get (i := i) (by rw [List.getElem?_eq_getElem hi, e])]
  exact Nm.best_le _ _ _ hi
theorem ctN_is {R : RB} {ys : List ByteArray} (h : ys ≠ []) : ∃ x, x ∈ ys ∧ totN R ys (ctN R ys) = toX R x ys :=
  ⟨ys[ctN R ys]'(ctN_lt h), List.getElem_mem _, totN_get (List.getElem?_eq_getElem (ctN_lt h))⟩
theorem tot_perm {R : RB} {ys zs : List ByteArray} (h : ys.Perm zs) (hn : ys ≠ []) : totN R ys (ctN R ys) = totN R zs (ctN R zs) := by
  have hz : zs ≠ [] := fun e => hn (by rw [e] at h; exact h.eq_nil)
  obtain ⟨x, hx, ex⟩ := ctN_is (R := R) hn
  obtain ⟨y, hy, ey⟩ := ctN_is (R := R) hz
  have h1 := ctN_le (R := R) (h.mem_iff.1 hx)
  have h2 := ctN_le (R := R) (h.mem_iff.2 hy)
  rw [← toX_perm h] at h1
  rw [toX_perm h] at h2
  omega

/-! ### groups -/
def wjR (R : RB) (ys : List ByteArray) (L : Nat) : Nat → Nat → Bool := Nm.wj (rT (tabL R ys ys) L) ys.length
theorem grpL_classes (R : RB) (ys : List ByteArray) (L : Nat) : grpL R ys L = Nm.classes (wjR R ys L) ys.length :=
  (Nm.outer_inv (r := rT (tabL R ys ys) L) (n := ys.length) (fun i => rT_refl R ys L i) (fun i k => rT_comm R ys L i k) ys.length (Nat.le_refl _)).2.2
theorem wjR_refl (R : RB) (ys : List ByteArray) (L i : Nat) : wjR R ys L i i = true := Nm.wj_refl (fun i => rT_refl R ys L i) _ i
theorem wjR_symm (R : RB) (ys : List ByteArray) (L i k : Nat) : wjR R ys L i k = wjR R ys L k i := Nm.wj_symm (fun i k => rT_comm R ys L i k) _ i k
theorem wjR_trans (R : RB) (ys : List ByteArray) (L : Nat) {i m k : Nat} (hm : m < ys.length) (h : wjR R ys L i m = true) (h2 : wjR R ys L m k = true) : wjR R ys L i k = true := Nm.wj_trans _ _ _ _ hm h h2
theorem rT_mono {tab : List (List Nat)} {L L' : Nat} (h : L ≤ L') (i k : Nat) (e : rT tab L i k = true) : rT tab L' i k = true := by
  unfold rT at *
  simp only [decide_eq_true_eq] at *
  omega
theorem wjR_mono (R : RB) (ys : List ByteArray) {L L' : Nat} (h : L ≤ L') {i k : Nat} (e : wjR R ys L i k = true) : wjR R ys L' i k = true := Nm.wj_mono (fun i k => rT_mono h i k) _ _ _ e
theorem wjR_base (R : RB) (ys : List ByteArray) (L : Nat) {i k : Nat} (e : rT (tabL R ys ys) L i k = true) : wjR R ys L i k = true := Nm.wj_base _ _ _ e
theorem rT_cost {R : RB} {ys : List ByteArray} {i k : Nat} {x y : ByteArray} (hi : ys[i]? = some x) (hk : ys[k]? = some y) (L : Nat) : rT (tabL R ys ys) L i k = decide (cR R x y 0 0 ≤ L) := by
  unfold rT
  rw [tabL_get, hi, hk]
/-- one group: all names hang together with the first -/
theorem classes_one (c : Nat → Nat → Bool) (n : Nat) (hr : ∀ i, c i i = true) (hs : ∀ i k, c i k = c k i) (ht : ∀ i m k, m < n → c i m = true → c m k = true → c i k = true) (h0 : 0 < n) :
    (Nm.classes c n).length = 1 ↔ ∀ k, k < n → c 0 k = true := by
  unfold Nm.classes
  rw [List.length_map]
  have hz : (List.range n).filter (fun i => (List.range i).all fun k => !c i k) = 0 :: ((List.range n).tail.filter fun i => (List.range i).all fun k => !c i k) := by
    obtain ⟨m, rfl⟩ : ∃ m, n = m + 1 := ⟨n - 1, by omega⟩
    rw [List.range_succ_eq_map, List.tail_cons, List.filter_cons_of_pos (by simp)]
  rw [hz, List.length_cons]
  constructor
  · intro h k hk
    have he : ((List.range n).tail.filter fun i => (List.range i).all fun k => !c i k) = [] := List.eq_nil_of_length_eq_zero (by omega)
    rw [List.filter_eq_nil_iff] at he
    -- the least member of k's class
    have hmin : ∀ m, ∀ k, k ≤ m → k < n → c 0 k = true := by
      intro m
      induction m with
      | zero => intro k hk _; obtain rfl : k = 0 := by omega
                exact hr 0
      | succ m ih =>
        intro k hkm hkn
        by_cases hk0 : k = 0
        · subst hk0; exact hr 0
        · have := he k (by
            obtain ⟨q, rfl⟩ : ∃ q, n = q + 1 := ⟨n - 1, by omega⟩
            rw [List.range_succ_eq_map, List.tail_cons, List.mem_map]
            exact ⟨k - 1, by rw [List.mem_range]; omega, by simp; omega⟩)
          rw [Bool.not_eq_true] at this
          obtain ⟨j, hj, hjk⟩ := List.all_eq_false.1 this
          rw [List.mem_range] at hj
          have hjk : c k j = true := by simpa using hjk
          rw [hs] at hjk
          exact ht 0 j k (by omega) (ih j (by omega) (by omega)) hjk
    exact hmin k k (Nat.le_refl _) hk
  · intro h
    have he : ((List.range n).tail.filter fun i => (List.range i).all fun k => !c i k) = [] := by
      rw [List.filter_eq_nil_iff]
      intro k hk
      obtain ⟨q, rfl⟩ : ∃ q, n = q + 1 := ⟨n - 1, by omega⟩
      rw [List.range_succ_eq_map, List.tail_cons, List.mem_map] at hk
      obtain ⟨a, ha, rfl⟩ := hk
      rw [List.mem_range] at ha
      have : ((List.range a.succ).all fun k => !c a.succ k) = false := List.all_eq_false.2 ⟨0, by simp, by rw [hs, h _ (by simp; omega)]; simp⟩
      rw [this]; simp
    rw [he]; rfl
theorem oneG_iff (R : RB) (ys : List ByteArray) (L : Nat) (h0 : ys ≠ []) : oneG R ys L = true ↔ ∀ k, k < ys.length → wjR R ys L 0 k = true := by
  unfold oneG
  rw [decide_eq_true_eq, grpL_classes]
  exact classes_one _ _ (wjR_refl R ys L) (wjR_symm R ys L) (fun i m k hm => wjR_trans R ys L hm) (List.length_pos_iff.2 h0)
theorem oneG_mono (R : RB) (ys : List ByteArray) (h0 : ys ≠ []) {L L' : Nat} (h : L ≤ L') (e : oneG R ys L = true) : oneG R ys L' = true := by
  rw [oneG_iff R ys _ h0] at *
  exact fun k hk => wjR_mono R ys h (e k hk)
theorem oneG_all {R : RB} {ys : List ByteArray} (hg : Good R) (hn : NmsOk ys) (h0 : ys ≠ []) {L : Nat} (hL : 2400 ≤ L) : oneG R ys L = true := by
  rw [oneG_iff R ys _ h0]
  intro k hk
  refine wjR_base R ys L ?_
  have h00 : 0 < ys.length := List.length_pos_iff.2 h0
  rw [rT_cost (List.getElem?_eq_getElem h00) (List.getElem?_eq_getElem hk), decide_eq_true_eq]
  exact Nat.le_trans (cR_le hg (hn _ (List.getElem_mem _)).1 (hn _ (List.getElem_mem _)).1 0 0) hL
/-- groups of a list that is not empty: at least one -/
theorem grpL_pos (R : RB) (ys : List ByteArray) (L : Nat) (h0 : ys ≠ []) : 0 < (grpL R ys L).length := by
  rw [grpL_classes]
  unfold Nm.classes
  rw [List.length_map]
  obtain ⟨m, hm⟩ : ∃ m, ys.length = m + 1 := ⟨ys.length - 1, by have := List.length_pos_iff.2 h0; omega⟩
  rw [hm, List.range_succ_eq_map]; simp
/-- the search's answer -/
theorem brS_spec (p : Nat → Bool) : ∀ (k : Nat) (low high : Int), -1 ≤ low → low < high → high - low ≤ k + 1 → p high.toNat = true → (low = -1 ∨ p low.toNat = false) →
    0 ≤ brS p k low high ∧ p (brS p k low high).toNat = true ∧ (brS p k low high = 0 ∨ p ((brS p k low high) - 1).toNat = false)
  | 0, low, high, h1, h2, h3, h4, h5 => by
    rw [brS]
    obtain rfl : high = low + 1 := by omega
    refine ⟨by omega, h4, ?_⟩
    rcases h5 with rfl | h5
    · exact .inl rfl
    · right; rwa [Int.add_sub_cancel]
  | k+1, low, high, h1, h2, h3, h4, h5 => by
    rw [brS]
    by_cases hg : high - low > 1
    · rw [if_pos hg]
      have hm1 : low < (low + high) / 2 := by omega
      have hm2 : (low + high) / 2 < high := by omega
      cases hp : p ((low + high) / 2).toNat with
      | true =>
        rw [if_pos rfl]
        exact brS_spec p k low _ h1 hm1 (by omega) hp h5
      | false =>
        rw [if_neg (by simp)]
        exact brS_spec p k _ high (by omega) hm2 (by omega) h4 (.inr hp)
    · rw [if_neg hg]
      obtain rfl : high = low + 1 := by omega
      refine ⟨by omega, h4, ?_⟩
      rcases h5 with rfl | h5
      · exact .inl rfl
      · right; rwa [Int.add_sub_cancel]
theorem brN_spec {R : RB} {ys : List ByteArray} (hg : Good R) (hn : NmsOk ys) (h0 : ys ≠ []) :
    ∃ b : Nat, brN R ys = (b : Int) ∧ b ≤ 2400 ∧ oneG R ys b = true ∧ ∀ L, L < b → oneG R ys L = false := by
  obtain ⟨h1, h2, h3⟩ := brS_spec (oneG R ys) 5000 (-1) 5000 (by omega) (by omega) (by omega) (oneG_all hg hn h0 (by decide)) (.inl rfl)
  change 0 ≤ brN R ys at h1
  change oneG R ys (brN R ys).toNat = true at h2
  change brN R ys = 0 ∨ oneG R ys (brN R ys - 1).toNat = false at h3
  generalize brN R ys = v at *
  obtain ⟨b, rfl⟩ := Int.eq_ofNat_of_zero_le h1
  have hlow : ∀ L, L < b → oneG R ys L = false := by
    intro L hL
    rcases h3 with h3 | h3
    · omega
    · cases e : oneG R ys L with
      | false => rfl
      | true =>
        have := oneG_mono R ys h0 (by omega : L ≤ ((b : Int) - 1).toNat) e
        rw [h3] at this; cases this
  refine ⟨b, rfl, ?_, h2, hlow⟩
  rcases Nat.lt_or_ge 2400 b with h | h
  · have := hlow 2400 h
    rw [oneG_all hg hn h0 (Nat.le_refl _)] at this; cases this
  · exact h
end Go.Proofs.YtdfebccmjbocjaaGreatDoor.Na
namespace Go.Proofs.YtdfebccmjbocjaaGreatDoor.Na
open Go.RowKit Go.Shelf

theorem skn_of_row {W : World} {B n : Nat} {v : Value} {l : List ByteArray} (h : W.ownsRow B 9 1 v n (strsV l)) : ∃ a g c, v = .slice a n c ∧ SKn W a g 0 c n l ∧ n ≤ c := by
  obtain ⟨a, g, c, rfl, h2, h3⟩ := sk_of_row h
  refine ⟨a, g, c, rfl, ⟨h3, h2, fun ha => ?_⟩, own_le h⟩
  subst ha
  rcases Joins.ownsRow_forms h with ⟨e, _⟩ | ⟨g2, c2, e⟩
  · cases e; rfl
  · cases e
theorem list28' (a : Option Addr) (g o c n : Nat) (l : List ByteArray) (w : World) (h : SKn w a g o c n l) (hn : n ≤ 900) : Calls Tryz.prog 30 #[.slice a n c] w fun e w' => ∃ a' g' c', e = .returned (.slice a' n c') ∧ SKn w' a' g' 0 c' n l ∧ n ≤ c' ∧ Below w.heap.size w w' :=
  (list28 a g o c n l w h hn).mono fun e w' ⟨v, he, hv, hb⟩ => by
    obtain ⟨a', g', c', rfl, h2, h3⟩ := skn_of_row hv
    exact ⟨a', g', c', he, h2, h3, hb⟩
end Go.Proofs.YtdfebccmjbocjaaGreatDoor.Na
namespace Go.Proofs.YtdfebccmjbocjaaGreatDoor.Na
open Go.RowKit Go.Shelf

def oneK (b : UInt8) : ByteArray := ⟨#[b]⟩
theorem conv_oneK (b : UInt8) (W : World) : (convert 87 9 (.slice (some ⟨W.heap.size, 0, none⟩) 1 1)).run Tryz.prog (W.alloc (.cells #[.int .u8 (b.toNat : Int)] 5)) = .ok (.string (oneK b)) (W.alloc (.cells #[.int .u8 (b.toNat : Int)] 5)) :=
  conv_key (l := [b]) (World.ownsRow_lit (base := W.heap.size) (e := 5) (size := 1) W #[.int .u8 (b.toNat : Int)] 1 (Nat.le_refl _) (by unfold maxLen; omega) rfl)
theorem take_one {s : ByteArray} (h : 0 < s.size) : s.data.toList.take 1 = [s[0]] := by
  have := take_snoc (get_u8 h)
  simpa using this
theorem ext_list {x : ByteArray} {l : List UInt8} (h : x.data.toList = l) : x = ⟨l.toArray⟩ := by
  cases x; simp at h; subst h; simp
theorem last_get {K : ByteArray} (h : 0 < K.size) : K.data.toList.getLast? = some (K[K.size - 1]'(by omega)) := by
  rw [List.getLast?_eq_getElem?, show K.data.toList.length = K.size by simp, List.getElem?_eq_getElem (by simp; omega)]; rfl
theorem bytes_appK (x z : ByteArray) : (x ++ z).data.toList = x.data.toList ++ z.data.toList := by simp
/-- what the loop has: the key of the letters so far -/
def KeyI (R : RB) (s : ByteArray) (i : Nat) (K : ByteArray) : Prop := K.data.toList = keyR R (s.data.toList.take i) ∧ 0 < K.size ∧ K.size ≤ 6
theorem keyI_one {R : RB} {s : ByteArray} (h : 0 < s.size) : KeyI R s 1 (oneK (sndR R s[0])) := by
  refine ⟨?_, by rw [show (oneK (sndR R s[0])).size = 1 from rfl]; omega, by rw [show (oneK (sndR R s[0])).size = 1 from rfl]; omega⟩
  rw [take_one h]; rfl
theorem keyI_snoc {R : RB} {s : ByteArray} {i : Nat} (hi : i < s.size) (h1 : 1 ≤ i) : keyR R (s.data.toList.take (i + 1)) = Nm.kst (sndR R) (inS R.soft) (keyR R (s.data.toList.take i)) s[i] := by
  rw [take_snoc (get_u8 hi), keyR_snoc, if_neg]
  intro e
  have h2 : (s.data.toList.take i).length = 0 := by rw [e]; rfl
  rw [List.length_take] at h2
  have : s.data.toList.length = s.size := by simp
  omega
theorem keyI_same {R : RB} {s : ByteArray} {i : Nat} {K : ByteArray} (h : KeyI R s i K) (hi : i < s.size) (h1 : 1 ≤ i) (hk : inS R.soft s[i] = true ∨ sndR R s[i] = K[K.size - 1]'(by have := h.2.1; omega)) : KeyI R s (i + 1) K := by
  refine ⟨?_, h.2⟩
  rw [keyI_snoc hi h1, ← h.1]
  unfold Nm.kst
  by_cases h6 : K.data.toList.length = 6
  · rw [if_pos h6]
  · rw [if_neg h6, if_pos]
    rcases hk with hk | hk
    · exact .inl hk
    · right; rw [last_get h.2.1, hk]
theorem keyI_more {R : RB} {s : ByteArray} {i : Nat} {K : ByteArray} (h : KeyI R s i K) (hi : i < s.size) (h1 : 1 ≤ i) (h6 : K.size < 6) (hs : inS R.soft s[i] = false) (hk : sndR R s[i] ≠ K[K.size - 1]'(by have := h.2.1; omega)) : KeyI R s (i + 1) (K ++ oneK (sndR R s[i])) := by
  have hl : K.data.toList.length = K.size := by simp
  refine ⟨?_, by rw [ByteArray.size_append]; have := h.2.1; omega, by rw [ByteArray.size_append]; show K.size + 1 ≤ 6; omega⟩
  rw [keyI_snoc hi h1, ← h.1, bytes_appK]
  unfold Nm.kst
  rw [if_neg (by omega), if_neg]
  · rfl
  · rintro (h2 | h2)
    · rw [hs] at h2; cases h2
    · rw [last_get h.2.1] at h2
      exact hk (Option.some.inj h2).symm
theorem keyI_end {R : RB} {s : ByteArray} {i : Nat} {K : ByteArray} (h : KeyI R s i K) (he : s.size ≤ i ∨ K.size = 6) : K = ⟨(keyR R s.data.toList).toArray⟩ := by
  refine ext_list ?_
  rw [h.1]
  rcases he with he | he
  · rw [List.take_of_length_le (by simp; omega)]
  · have h6 : (keyR R (s.data.toList.take i)).length = 6 := by rw [← h.1]; simpa using he
    have := keyR_stop R (s.data.toList.drop i) _ h6
    rw [List.take_append_drop] at this
    exact this.symm
end Go.Proofs.YtdfebccmjbocjaaGreatDoor.Na
namespace Go.Proofs.YtdfebccmjbocjaaGreatDoor.Na
open Go.RowKit Go.Shelf

theorem sndF_mem {b : UInt8} {c : List UInt8} : ∀ (cs : List (List UInt8)), cs.flatten.Nodup → c ∈ cs → b ∈ c → sndF cs b = c.headD 0
  | [], _, h, _ => by cases h
  | d :: cs, hn, hc, hb => by
    rw [List.flatten_cons, List.nodup_append] at hn
    rw [sndF]
    by_cases hd : b ∈ d
    · rw [if_pos hd]
      rcases List.mem_cons.1 hc with rfl | hc
      · rfl
      · exact absurd rfl (hn.2.2 b hd b (List.mem_flatten.2 ⟨c, hc, hb⟩))
    · rw [if_neg hd]
      rcases List.mem_cons.1 hc with rfl | hc
      · exact absurd hb hd
      · exact sndF_mem cs hn.2.1 hc hb
theorem good_nodup {R : RB} (hg : Good R) : ((R.cls.map (·.data.toList)).flatten).Nodup := by
  have hr := hg.rul
  simp only [rulB, distB, Bool.and_eq_true, decide_eq_true_eq] at hr
  exact hr.1.1.1.2
theorem snd_in {R : RB} (hg : Good R) {cl : ByteArray} (hcl : cl ∈ R.cls) {b : UInt8} (hb : b ∈ cl.data.toList) : sndR R b = cl.data.toList.headD 0 := by
  rw [← sndF_snd hg]
  exact sndF_mem _ (good_nodup hg) (List.mem_map.2 ⟨cl, hcl, rfl⟩) hb
theorem snd_out {R : RB} (hg : Good R) {b : UInt8} (h : ∀ cl, cl ∈ R.cls → b ∉ cl.data.toList) : sndR R b = b := by
  rw [← sndF_snd hg]
  refine sndF_none _ fun c hc => ?_
  obtain ⟨cl, hcl, rfl⟩ := List.mem_map.1 hc
  exact h cl hcl
theorem cl_soft {R : RB} (hg : Good R) {cl : ByteArray} (hcl : cl ∈ R.cls) {b : UInt8} (hb : b ∈ cl.data.toList) : inS R.soft b = inS R.soft (cl.data.toList.headD 0) := by
  have hr := hg.rul
  simp only [rulB, Bool.and_eq_true, List.all_eq_true] at hr
  have he := hr.1.2 cl hcl
  simp only [evB, Bool.and_eq_true, List.all_eq_true, beq_iff_eq] at he
  exact he.2 b hb
theorem head_in {cl : ByteArray} {b : UInt8} (hb : b ∈ cl.data.toList) : cl.data.toList.headD 0 ∈ cl.data.toList := by
  cases h : cl.data.toList with
  | nil => rw [h] at hb; cases hb
  | cons x t => simp
theorem snd_cases {R : RB} (hg : Good R) (b : UInt8) : (∃ cl, cl ∈ R.cls ∧ b ∈ cl.data.toList ∧ sndR R b = cl.data.toList.headD 0) ∨ sndR R b = b := by
  by_cases h : ∀ cl, cl ∈ R.cls → b ∉ cl.data.toList
  · exact .inr (snd_out hg h)
  · left
    obtain ⟨cl, h2⟩ : ∃ cl, ¬ (cl ∈ R.cls → b ∉ cl.data.toList) := Classical.byContradiction fun hn => h fun cl => Classical.byContradiction fun hc => hn ⟨cl, hc⟩
    have hcl : cl ∈ R.cls := Classical.byContradiction fun hn => h2 fun hc => absurd hc hn
    have hb : b ∈ cl.data.toList := Classical.byContradiction fun hn => h2 fun _ => hn
    exact ⟨cl, hcl, hb, snd_in hg hcl hb⟩
theorem snd_idem {R : RB} (hg : Good R) (b : UInt8) : sndR R (sndR R b) = sndR R b := by
  rcases snd_cases hg b with ⟨cl, hcl, hb, e⟩ | e
  · rw [e]; exact snd_in hg hcl (head_in hb)
  · rw [e, e]
theorem snd_soft {R : RB} (hg : Good R) (b : UInt8) : inS R.soft (sndR R b) = inS R.soft b := by
  rcases snd_cases hg b with ⟨cl, hcl, hb, e⟩ | e
  · rw [e]; exact (cl_soft hg hcl hb).symm
  · rw [e]
theorem isL_snd {R : RB} (hg : Good R) {b : UInt8} (h : isL b = true) : isL (sndR R b) = true := by
  rcases snd_cases hg b with ⟨cl, hcl, hb, e⟩ | e
  · rw [e]
    have hr := hg.rul
    simp only [rulB, distB, Bool.and_eq_true, List.all_eq_true] at hr
    exact hr.1.1.1.1 _ (by unfold fl; rw [List.mem_flatten]; exact ⟨cl.data.toList, List.mem_map.2 ⟨cl, hcl, rfl⟩, head_in hb⟩)
  · rw [e]; exact h
/-- a key, further letters behind -/
theorem keyR_append (R : RB) (q : List UInt8) (hq : q ≠ []) : ∀ t : List UInt8, keyR R (q ++ t) = t.foldl (Nm.kst (sndR R) (inS R.soft)) (keyR R q)
  | [] => by simp
  | b :: t => by
    have h := keyR_append R (q ++ [b]) (by simp) t
    rw [List.append_assoc] at h
    rw [show q ++ b :: t = q ++ ([b] ++ t) from rfl, h, keyR_snoc, if_neg hq]; rfl
/-- the key behind q decides -/
theorem keyR_same (R : RB) {q q' : List UInt8} (h1 : q ≠ []) (h2 : q' ≠ []) (h : keyR R q = keyR R q') (t : List UInt8) : keyR R (q ++ t) = keyR R (q' ++ t) := by
  rw [keyR_append R q h1, keyR_append R q' h2, h]
theorem keyR_one (R : RB) (b : UInt8) : keyR R [b] = [sndR R b] := rfl
/-- a letter repeated -/
theorem keyR_twice (R : RB) (p : List UInt8) (b : UInt8) : keyR R (p ++ [b] ++ [b]) = keyR R (p ++ [b]) := by
  rw [keyR_snoc, if_neg (by simp)]
  by_cases hp : p = []
  · subst hp
    rw [List.nil_append, keyR_one]
    unfold Nm.kst
    rw [if_neg (by simp), if_pos (.inr rfl)]
  · rw [keyR_snoc, if_neg hp]
    exact Nm.kst_twice _ _
/-- a letter that sounds alike -/
theorem keyR_alike (R : RB) (p : List UInt8) {b x : UInt8} (h1 : sndR R x = sndR R b) (h2 : inS R.soft x = inS R.soft b) : keyR R (p ++ [x]) = keyR R (p ++ [b]) := by
  rw [keyR_snoc, keyR_snoc]
  by_cases hp : p = []
  · rw [if_pos hp, if_pos hp, h1]
  · rw [if_neg hp, if_neg hp]
    exact Nm.kst_congr _ h1 h2
/-- a letter of Soft inserted -/
theorem keyR_soft (R : RB) {p : List UInt8} (hp : p ≠ []) {z : UInt8} (h : inS R.soft z = true) : keyR R (p ++ [z]) = keyR R p := by
  rw [keyR_snoc, if_neg hp]
  exact Nm.kst_soft _ h
/-- a key's key -/
theorem keyR_keyR {R : RB} (hg : Good R) {l : List UInt8} (hl : l ≠ []) : keyR R (keyR R l) = keyR R l := by
  cases l with
  | nil => exact absurd rfl hl
  | cons a t =>
    have hp := keyR_pos R (a :: t) (by simp)
    cases e : keyR R (a :: t) with
    | nil => exact absurd e hp
    | cons k0 kt => exact Nm.key_key (snd_idem hg) (snd_soft hg) a t k0 kt e
theorem keyR_le6 (R : RB) : ∀ l : List UInt8, (keyR R l).length ≤ 6 := by
  intro l
  cases l with
  | nil => simp [keyR]
  | cons a t =>
    have h := keyR_append R [a] (by simp) t
    rw [List.singleton_append] at h
    rw [h, keyR_one]
    have : ∀ (t : List UInt8) (k : List UInt8), k.length ≤ 6 → (t.foldl (Nm.kst (sndR R) (inS R.soft)) k).length ≤ 6 := by
      intro t
      induction t with
      | nil => intro k hk; exact hk
      | cons b t ih => intro k hk; exact ih _ (Nm.kst_len _ _ hk)
    exact this t _ (by simp)
theorem keyR_isL {R : RB} (hg : Good R) : ∀ (t k : List UInt8), (∀ b, b ∈ t → isL b = true) → (∀ b, b ∈ k → isL b = true) → ∀ b, b ∈ t.foldl (Nm.kst (sndR R) (inS R.soft)) k → isL b = true
  | [], k, _, hk => hk
  | a :: t, k, ht, hk => by
    refine keyR_isL hg t _ (fun b hb => ht b (List.mem_cons_of_mem _ hb)) fun b hb => ?_
    unfold Nm.kst at hb
    split at hb
    · exact hk b hb
    · split at hb
      · exact hk b hb
      · rcases List.mem_append.1 hb with h | h
        · exact hk b h
        · simp at h; rw [h]; exact isL_snd hg (ht a (by simp))
theorem keyR_letters {R : RB} (hg : Good R) {l : List UInt8} (h : ∀ b, b ∈ l → isL b = true) : ∀ b, b ∈ keyR R l → isL b = true := by
  cases l with
  | nil => intro b hb; simp [keyR] at hb
  | cons a t =>
    have e := keyR_append R [a] (by simp) t
    rw [List.singleton_append] at e
    rw [e, keyR_one]
    exact keyR_isL hg t _ (fun b hb => h b (List.mem_cons_of_mem _ hb)) (fun b hb => by simp at hb; rw [hb]; exact isL_snd hg (h a (by simp)))
end Go.Proofs.YtdfebccmjbocjaaGreatDoor.Na
namespace Go.Proofs.YtdfebccmjbocjaaGreatDoor.Na
open Go.RowKit Go.Shelf

/-- a valid name with the key of x -/
def OKv (R : RB) (x z : ByteArray) : Prop := spB z = true ∧ z.size ≤ 12 ∧ keyR R z.data.toList = keyR R x.data.toList
theorem ex_take (x : ByteArray) (i : Nat) : (x.extract 0 i).data.toList = x.data.toList.take i := by simp
theorem ex_drop (x : ByteArray) (i : Nat) : (x.extract i x.size).data.toList = x.data.toList.drop i := by
  have e : (x.extract i x.size).data = x.data.extract i x.size := by simp
  rw [e, Array.toList_extract, List.extract_eq_take_drop, List.take_of_length_le]
  rw [List.length_drop]
  have h : x.data.toList.length = x.size := by simp
  omega
theorem sp_intro {z : ByteArray} (h0 : z.data.toList ≠ []) (h : ∀ b, b ∈ z.data.toList → isL b = true) : spB z = true := by
  unfold spB
  rw [Bool.and_eq_true, Bool.not_eq_true', List.all_eq_true]
  refine ⟨?_, h⟩
  cases e : z.data.toList with
  | nil => exact absurd e h0
  | cons a t => rfl
theorem sp_let {x : ByteArray} (h : spB x = true) : ∀ b, b ∈ x.data.toList → isL b = true := by
  unfold spB at h
  rw [Bool.and_eq_true, List.all_eq_true] at h
  exact h.2
theorem split3 {x : ByteArray} {i : Nat} (hi : i < x.size) : x.data.toList = x.data.toList.take i ++ [x[i]] ++ x.data.toList.drop (i + 1) := by
  rw [← take_snoc (get_u8 hi), List.take_append_drop]
theorem len_list (z : ByteArray) : z.data.toList.length = z.size := by simp
/-- a letter repeated -/
theorem v_twice {R : RB} {x : ByteArray} {i : Nat} (hsp : spB x = true) (h11 : x.size ≤ 11) (hi : i < x.size) : OKv R x (x.extract 0 (i + 1) ++ x.extract i x.size) := by
  have hl : (x.extract 0 (i + 1) ++ x.extract i x.size).data.toList = x.data.toList.take (i + 1) ++ x.data.toList.drop i := by rw [bytes_appK, ex_take, ex_drop]
  refine ⟨sp_intro ?_ ?_, ?_, ?_⟩
  · rw [hl, take_snoc (get_u8 hi)]; simp
  · rw [hl]
    intro b hb
    rcases List.mem_append.1 hb with h | h
    · exact sp_let hsp b (List.mem_of_mem_take h)
    · exact sp_let hsp b (List.mem_of_mem_drop h)
  · rw [← len_list, hl, List.length_append, List.length_take, List.length_drop, len_list]; omega
  · rw [hl]
    have hd : x.data.toList.drop i = [x[i]] ++ x.data.toList.drop (i + 1) := by
      rw [List.drop_eq_getElem_cons (by rw [len_list]; exact hi)]; rfl
    rw [hd, take_snoc (get_u8 hi), ← List.append_assoc]
    conv => rhs; rw [split3 hi]
    exact keyR_same R (by simp) (by simp) (keyR_twice R _ _) _
/-- a letter that sounds alike -/
theorem v_alike {R : RB} (hg : Good R) {x cl : ByteArray} {i : Nat} {y : UInt8} (hsp : spB x = true) (h12 : x.size ≤ 12) (hi : i < x.size) (hcl : cl ∈ R.cls) (hb : x[i] ∈ cl.data.toList) (hy : y ∈ cl.data.toList) : OKv R x (x.extract 0 i ++ oneK y ++ x.extract (i + 1) x.size) := by
  have hl : (x.extract 0 i ++ oneK y ++ x.extract (i + 1) x.size).data.toList = x.data.toList.take i ++ [y] ++ x.data.toList.drop (i + 1) := by rw [bytes_appK, bytes_appK, ex_take, ex_drop]; rfl
  have hyl : isL y = true := by
    have hr := hg.rul
    simp only [rulB, distB, Bool.and_eq_true, List.all_eq_true] at hr
    exact hr.1.1.1.1 _ (by unfold fl; rw [List.mem_flatten]; exact ⟨cl.data.toList, List.mem_map.2 ⟨cl, hcl, rfl⟩, hy⟩)
  refine ⟨sp_intro (by rw [hl]; simp) ?_, ?_, ?_⟩
  · rw [hl]
    intro b hb
    rcases List.mem_append.1 hb with h | h
    · rcases List.mem_append.1 h with h | h
      · exact sp_let hsp b (List.mem_of_mem_take h)
      · simp at h; rw [h]; exact hyl
    · exact sp_let hsp b (List.mem_of_mem_drop h)
  · rw [← len_list, hl, List.length_append, List.length_append, List.length_take, List.length_drop, len_list]; simp only [List.length_cons, List.length_nil]; omega
  · rw [hl]
    conv => rhs; rw [split3 hi]
    exact keyR_same R (by simp) (by simp) (keyR_alike R _ (by rw [snd_in hg hcl hy, snd_in hg hcl hb]) (by rw [cl_soft hg hcl hy, cl_soft hg hcl hb])) _
/-- a letter of Soft inserted -/
theorem v_soft {R : RB} (hg : Good R) {x : ByteArray} {i : Nat} {z : UInt8} (hsp : spB x = true) (h11 : x.size ≤ 11) (hi : i < x.size) (hz : z ∈ R.soft.data.toList) : OKv R x (x.extract 0 (i + 1) ++ oneK z ++ x.extract (i + 1) x.size) := by
  have hl : (x.extract 0 (i + 1) ++ oneK z ++ x.extract (i + 1) x.size).data.toList = x.data.toList.take (i + 1) ++ [z] ++ x.data.toList.drop (i + 1) := by rw [bytes_appK, bytes_appK, ex_take, ex_drop]; rfl
  have hzl : isL z = true := by
    have hr := hg.rul
    simp only [rulB, distB, Bool.and_eq_true, List.all_eq_true] at hr
    exact hr.1.1.2.1 z hz
  refine ⟨sp_intro (by rw [hl]; simp) ?_, ?_, ?_⟩
  · rw [hl]
    intro b hb
    rcases List.mem_append.1 hb with h | h
    · rcases List.mem_append.1 h with h | h
      · exact sp_let hsp b (List.mem_of_mem_take h)
      · simp at h; rw [h]; exact hzl
    · exact sp_let hsp b (List.mem_of_mem_drop h)
  · rw [← len_list, hl, List.length_append, List.length_append, List.length_take, List.length_drop, len_list]; simp only [List.length_cons, List.length_nil]; omega
  · rw [hl]
    have hne : x.data.toList.take (i + 1) ≠ [] := by rw [take_snoc (get_u8 hi)]; simp
    conv => rhs; rw [← List.take_append_drop (i + 1) x.data.toList]
    exact keyR_same R (by simp) hne (keyR_soft R hne (decide_eq_true hz)) _
end Go.Proofs.YtdfebccmjbocjaaGreatDoor.Na
