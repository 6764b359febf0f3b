/- Texts of this seat, merged. -/
import Derived.Test.YtdfebccmjbocjaaGreatDoorB
import Derived.Test.YtdfebccmjbocjaaGreatDoorMiG1
import Derived.WalkKit
import Derived.WalkSpells
import Derived.WalkLawsBesides
import Derived.Maps.OwnOps
import Derived.DeepKeys4
import Derived.BigQuiet
import Derived.Deep.QuietTactic
import Derived.Deep.RegionHeld3
import Derived.Lib.Hide
import Derived.Laws.EntriesVeiled
import Derived.Lib.Mul64
import Derived.Laws.Bits64b
set_option linter.unusedVariables false
set_option linter.unusedSimpArgs false
namespace Go.Proofs.YtdfebccmjbocjaaGreatDoor.Mi
open Go.RowKit

def inB (n lo hi : Int) : Bool := decide (lo ≤ n ∧ n ≤ hi)
theorem inB_iff {n lo hi : Int} : inB n lo hi = true ↔ lo ≤ n ∧ n ≤ hi := by simp [inB]
theorem inB_no {n lo hi : Int} : inB n lo hi = false ↔ ¬ (lo ≤ n ∧ n ≤ hi) := by simp [inB]

set_option maxHeartbeats 400000 in
theorem within_any (n lo hi : Int) (w : World) : Calls Tryz.prog 54 #[.int .i64 n, .int .i64 lo, .int .i64 hi] w fun e w' => e = .returned (.bool (inB n lo hi)) ∧ w = w' := by
  by_cases h1 : lo ≤ n
  · by_cases h2 : n ≤ hi
    · have h : inB n lo hi = true := inB_iff.2 ⟨h1, h2⟩
      rw [h]
      go_enter Tryz.func54, Tryz.ntmps54
      go_wp2
      go_ret
      exact ⟨rfl, rfl⟩
    · have h : inB n lo hi = false := inB_no.2 (fun h => h2 h.2)
      rw [h]
      go_enter Tryz.func54, Tryz.ntmps54
      go_wp2
      go_ret
      exact ⟨rfl, rfl⟩
  · have h : inB n lo hi = false := inB_no.2 (fun h => h1 h.1)
    rw [h]
    go_enter Tryz.func54, Tryz.ntmps54
    go_wp2
    go_ret
    exact ⟨rfl, rfl⟩

/-- can there be so many persons? -/
def perB (l m : Int) : Bool := inB l 0 50 && inB m 0 (50 - l)
set_option maxHeartbeats 400000 in
theorem persons_any (l m : Int) (w : World) : Calls Tryz.prog 124 #[.int .i64 l, .int .i64 m] w fun e w' => e = .returned (.bool (perB l m)) ∧ w = w' := by
  cases h1 : inB l 0 50 with
  | true =>
    have hb := inB_iff.1 h1
    have h : perB l m = inB m 0 (50 - l) := by simp [perB, h1]
    rw [h]
    obtain ⟨hb1, hb2⟩ := hb
    go_enter Tryz.func124, Tryz.ntmps124
    go_wp2_with (go_at_call 54; refine (within_any _ _ _ _).mono ?_; rintro e w' ⟨rfl, rfl⟩)
    go_ret
    exact ⟨rfl, rfl⟩
  | false =>
    have h : perB l m = false := by simp [perB, h1]
    rw [h]
    go_enter Tryz.func124, Tryz.ntmps124
    go_wp2_with (go_at_call 54; refine (within_any _ _ _ _).mono ?_; rintro e w' ⟨rfl, rfl⟩)
    go_ret
    exact ⟨rfl, rfl⟩

/-- an area as a value -/
abbrev areaV (l m s f : Int) : Value := .agg #[.int .i64 l, .int .i64 m, .int .i64 s, .int .i64 f]
abbrev fracV (n d : Int) : Value := .agg #[.int .i64 n, .int .i64 d]
/-- is an area valid? -/
def areaB (l m s f : Int) : Bool := perB l m && inB s 0 l && inB f 0 s
set_option maxHeartbeats 400000 in
theorem valid_any (l m s f : Int) (w : World) : Calls Tryz.prog 86 #[areaV l m s f] w fun e w' => e = .returned (.bool (areaB l m s f)) ∧ Below w.heap.size w w' := by
  cases h1 : perB l m with
  | false =>
    have h : areaB l m s f = false := by simp [areaB, h1]
    rw [h]
    go_enter Tryz.func86, Tryz.ntmps86
    go_wp2_with (first | (go_at_call 54; refine (within_any _ _ _ _).mono ?_; rintro e w' ⟨rfl, rfl⟩) | (go_at_call 124; refine (persons_any _ _ _).mono ?_; rintro e w' ⟨rfl, rfl⟩))
    go_ret
    exact ⟨rfl, (Below.refl _ _).alloc (Nat.le_refl _) _⟩
  | true =>
    cases h2 : inB s 0 l with
    | false =>
      have h : areaB l m s f = false := by simp [areaB, h1, h2]
      rw [h]
      go_enter Tryz.func86, Tryz.ntmps86
      go_wp2_with (first | (go_at_call 54; refine (within_any _ _ _ _).mono ?_; rintro e w' ⟨rfl, rfl⟩) | (go_at_call 124; refine (persons_any _ _ _).mono ?_; rintro e w' ⟨rfl, rfl⟩))
      go_ret
      exact ⟨rfl, (Below.refl _ _).alloc (Nat.le_refl _) _⟩
    | true =>
      have h : areaB l m s f = inB f 0 s := by simp [areaB, h1, h2]
      rw [h]
      go_enter Tryz.func86, Tryz.ntmps86
      go_wp2_with (first | (go_at_call 54; refine (within_any _ _ _ _).mono ?_; rintro e w' ⟨rfl, rfl⟩) | (go_at_call 124; refine (persons_any _ _ _).mono ?_; rintro e w' ⟨rfl, rfl⟩))
      go_ret
      exact ⟨rfl, (Below.refl _ _).alloc (Nat.le_refl _) _⟩

end Go.Proofs.YtdfebccmjbocjaaGreatDoor.Mi
namespace Go.Proofs.YtdfebccmjbocjaaGreatDoor.Mi
open Go.RowKit
theorem tLaidOut : laidOutB Tryz.prog = true := by kernel_rfl
theorem tRow133 : (221 : TypeId) < Tryz.prog.types.size := of_decide_eq_true (by kernel_rfl)
theorem tWide133 : (match Tryz.prog.underlying 221 with | some (.array _ _) | some (.struct _) => true | _ => false) = true := by rw [Tryz.underlying221]
theorem tKey2 : Tryz.prog.keyTypeAt 2 221 = true := by kernel_rfl
theorem tKeyType : Tryz.prog.keyType 221 = true := by kernel_rfl
theorem tCells133 : Tryz.prog.cellsOf 221 = 2 := by kernel_rfl
theorem tCells3 : Tryz.prog.cellsOf 3 = 1 := by kernel_rfl
set_option maxRecDepth 100000 in
theorem law133 : Maps.Keyed Tryz.prog 221 := Maps.Keyed.of_law (deep_law_laid tLaidOut (m := 2) (by omega) tRow133 tKey2 tWide133)
abbrev pickV (n k : Int) : Value := .agg #[.int .i64 n, .int .i64 k]
theorem tSize : ∃ D, Tryz.prog.types.size = D + 1 := ⟨239, by kernel_rfl⟩
theorem key_pick (n k : Int) (hn : (Lit.int .i64 n).wf = true) (hk : (Lit.int .i64 k).wf = true) : ∃ kl, keyOf Tryz.prog 221 (pickV n k) = some kl := by
  obtain ⟨D, hs⟩ := tSize
  unfold keyOf
  rw [Tryz.underlying221]
  simp only [tKeyType, Bool.true_and]
  have hf : (pickV n k).formed Tryz.prog 221 = true := by simp [Value.formed, Tryz.underlying221, tCells133]
  rw [if_pos hf, hs]
  simp [Program.keyLits, Tryz.underlying221, tCells133, tCells3, Value.cells, Tryz.underlying3, hn, hk]

open Go.WideElems (Fit)
open Go.MapKept Go.ChangeMaps
open Mis (ch)
theorem wf64 {n : Int} (h1 : -9223372036854775808 ≤ n) (h2 : n ≤ 9223372036854775807) : (Lit.int .i64 n).wf = true := WalkArith.wf_i64 ⟨h1, h2⟩
theorem ch60 (n k : Nat) (h : n ≤ 60) : ch n k ≤ 1152921504606846976 :=
  Nat.le_trans (Mis.ch_le_pow n k) (Nat.le_trans (Nat.pow_le_pow_right (by omega) h) (by decide))

/-- BLOCK b IS A MAP OF NUMBERS OF WAYS, ALL OF THEM RIGHT. -/
def Memo (w : World) (b : Nat) : Prop :=
  ∃ es clock, w.heap[b]? = some (.map es clock) ∧ Fit Tryz.prog 221 (plainElem (H := Unit) Tryz.prog 3) es clock ∧ ∀ x, x ∈ es.toList → ∃ n k : Nat, n ≤ 60 ∧ k ≤ n ∧ x.key = pickV n k ∧ x.val = .int .i64 (ch n k)
theorem Memo.lt {w : World} {b : Nat} (h : Memo w b) : b < w.heap.size := by
  obtain ⟨es, clock, hb, _⟩ := h
  exact (Array.getElem?_eq_some_iff.1 hb).1
theorem Memo.kept {w w' : World} {row : Option Nat} {b : Nat} (h : Memo w b) (hg : w.grownBy w' row) (hne : some b ≠ row) : Memo w' b := by
  have hlt := h.lt
  obtain ⟨es, clock, hb, F, hv⟩ := h
  exact ⟨es, clock, (hg.block b hlt hne).trans hb, F, hv⟩
theorem Memo.alloc {w : World} {b : Nat} (h : Memo w b) (o : Obj) : Memo (w.alloc o) b := h.kept (World.grownBy_alloc w o none) (by simp)
theorem Memo.made (w : World) : Memo (w.alloc (.map #[] 0)) w.heap.size :=
  ⟨#[], 0, (MapKept.heap_alloc w _).1, ⟨by simp, stamped_empty 0, by simp⟩, by simp⟩
theorem Memo.ne_cell {w : World} {b : Nat} (h : Memo w b) {a : Addr} {v : Value} (hc : w.cell? a = some v) : a.block ≠ b := by
  rintro rfl
  obtain ⟨es, clock, hb, _⟩ := h
  simp [World.cell?, hb] at hc
theorem nodup_len {l : List Nat} {n : Nat} (h : l.Nodup) (hl : ∀ x, x ∈ l → x < n) : l.length ≤ n := by
  have hp : l.Perm ((List.range n).filter fun x => decide (x ∈ l)) := by
    refine (List.perm_ext_iff_of_nodup h (List.Nodup.sublist List.filter_sublist List.nodup_range)).2 fun x => ?_
    simp only [List.mem_filter, List.mem_range, decide_eq_true_eq]
    exact ⟨fun hx => ⟨hl x hx, hx⟩, fun hx => hx.2⟩
  have h1 := hp.length_eq
  have h2 := List.length_filter_le (fun x => decide (x ∈ l)) (List.range n)
  rw [List.length_range] at h2
  omega
/-- the number that stands for a key -/
def codeOf (v : Value) : Nat :=
  match v with
  | .agg cs => match cs.toList with
    | [.int _ n, .int _ k] => n.toNat * 61 + k.toNat
    | _ => 0
  | _ => 0
theorem codeOf_pick (n k : Nat) : codeOf (pickV n k) = n * 61 + k := rfl
theorem memo_room {es : Array MapEntry} {clock : Nat} (F : Fit Tryz.prog 221 (plainElem (H := Unit) Tryz.prog 3) es clock) (hv : ∀ x, x ∈ es.toList → ∃ n k : Nat, n ≤ 60 ∧ k ≤ n ∧ x.key = pickV n k ∧ x.val = .int .i64 (ch n k)) : es.size < maxLen := by
  have hn : es.toList.Pairwise (fun x y => x.key ≠ y.key) := ((stamped_iff es clock).1 F.stamped).2.2
  have h1 : (es.toList.map fun x => codeOf x.key).Nodup := by
    unfold List.Nodup
    rw [List.pairwise_map]
    refine List.Pairwise.imp_of_mem ?_ hn
    intro a b ha hb hne e
    obtain ⟨n, k, h1, h2, h3, _⟩ := hv a ha
    obtain ⟨n', k', h1', h2', h3', _⟩ := hv b hb
    rw [h3, h3', codeOf_pick, codeOf_pick] at e
    rw [h3, h3'] at hne
    obtain rfl : n = n' := by omega
    obtain rfl : k = k' := by omega
    exact hne rfl
  have h2 := nodup_len (n := 3721) h1 (fun x hx => by
    obtain ⟨y, hy, rfl⟩ := List.mem_map.1 hx
    obtain ⟨n, k, h1, h2, h3, _⟩ := hv y hy
    rw [h3, codeOf_pick]; omega)
  rw [List.length_map, Array.length_toList] at h2
  unfold maxLen; omega
theorem Memo.look {w : World} {b : Nat} (h : Memo w b) (n k : Nat) (hn : n ≤ 60) (hk : k ≤ n) :
    (Instr.lookup 147 (.map (some b)) (pickV n k) true).run Tryz.prog w = .ok (.tuple #[.int .i64 0, .bool false]) w ∨
    (Instr.lookup 147 (.map (some b)) (pickV n k) true).run Tryz.prog w = .ok (.tuple #[.int .i64 (ch n k), .bool true]) w := by
  obtain ⟨es, clock, hb, F, hv⟩ := h
  obtain ⟨kl, hkl⟩ := key_pick n k (wf64 (by omega) (by omega)) (wf64 (by omega) (by omega))
  rcases Maps.fit_look true law133 Tryz.underlying147 (Tryz.zeroValue3 _) hb F hkl with ⟨h1, _, _⟩ | ⟨e0, y, hm, hkey, h1, _, _, _⟩
  · exact .inl h1
  · obtain ⟨n', k', _, _, h3, h4⟩ := hv e0 hm
    rw [hkey] at h3
    simp only [pickV, Value.agg.injEq, Array.mk.injEq, List.cons.injEq, Value.int.injEq, true_and, and_true] at h3
    obtain ⟨ha, hb'⟩ := h3
    obtain rfl : n = n' := by omega
    obtain rfl : k = k' := by omega
    rw [h4] at h1
    exact .inr h1
theorem Memo.store {w : World} {b : Nat} (h : Memo w b) (n k : Nat) (hn : n ≤ 60) (hk : k ≤ n) :
    ∃ w', (Instr.mapUpdate 147 (.map (some b)) (pickV n k) (.int .i64 (ch n k))).run Tryz.prog w = .ok () w' ∧ Memo w' b ∧ w.grownBy w' (some b) := by
  obtain ⟨es, clock, hb, F, hv⟩ := h
  obtain ⟨kl, hkl⟩ := key_pick n k (wf64 (by omega) (by omega)) (wf64 (by omega) (by omega))
  have hc := ch60 n k hn
  obtain ⟨es', clock', hrun, F', _, _, _, hmem⟩ := Maps.fit_store (R' := plainElem (H := Unit) Tryz.prog 3) law133 Tryz.underlying147 hb F (memo_room F hv) (fun _ _ _ _ hz => hz) hkl (plainElem_int (H := Unit) Tryz.underlying3 (wf64 (n := (ch n k : Int)) (by omega) (by omega)))
  refine ⟨_, hrun, ⟨es', clock', heap_setBlock_same hb _, F', fun x hx => ?_⟩, ⟨rfl, rfl, rfl, by simp [setBlock], fun i _ hi => heap_setBlock_other hb _ (fun e => hi (by rw [e]))⟩⟩
  rcases hmem x hx with ⟨h1, _⟩ | ⟨h1, h2⟩
  · exact hv x h1
  · exact ⟨n, k, hn, hk, h1, h2⟩
/-- A STORE, AT THE OPERATION, FOR THE WALK. -/
theorem wpList_memo_store (w : World) {ops : Array Oper} {rest : List Oper} {o : Oper} {a : Act} {Q : Exit → Act → World → Prop}
    (hg : o.guard = none) (m x v : Operand) (hop : o.op = Op.mapUpdate 147 m x v) (b n k : Nat) (hm : a.eval m = .map (some b)) (hmemo : Memo w b) (hn : n ≤ 60) (hk : k ≤ n)
    (hx : a.eval x = pickV n k) (hv : a.eval v = .int .i64 (ch n k)) (hK : ∀ w', Memo w' b → w.grownBy w' (some b) → wpList Tryz.prog ops Q rest (a.put o.dst undef) w') :
    wpList Tryz.prog ops Q (o :: rest) a w := by
  refine wpList_plain hg fun K' hK' => ?_
  obtain ⟨w', hrun, r1, r2⟩ := hmemo.store n k hn hk
  unfold Oper.wp
  simp [execOp, hop, hm, hx, hv, hrun, Result.andThen]
  exact hK' _ _ (hK w' r1 r2)
end Go.Proofs.YtdfebccmjbocjaaGreatDoor.Mi
namespace Go.Proofs.YtdfebccmjbocjaaGreatDoor.Mi
open Go.RowKit
open Mis (ch)

/-- what the closure captures: the box of the book, the box of the closure itself -/
structure Caps (w : World) (mb bb fb : Nat) : Prop where
  memo : Memo w mb
  book : w.cell? ⟨bb, 0, none⟩ = some (.map (some mb))
  self : w.cell? ⟨fb, 0, none⟩ = some (.func (.func 165) #[] #[.pointer (some ⟨bb, 0, none⟩), .pointer (some ⟨fb, 0, none⟩)])

theorem Caps.after {w w' : World} {mb bb fb : Nat} (h : Caps w mb bb fb) (hm : Memo w' mb) (hg : w.grownBy w' (some mb)) : Caps w' mb bb fb :=
  ⟨hm, hg.cell h.book (by have := h.memo.ne_cell h.book; simpa using this), hg.cell h.self (by have := h.memo.ne_cell h.self; simpa using this)⟩

theorem Caps.alloc {w : World} {mb bb fb : Nat} (h : Caps w mb bb fb) (o : Obj) : Caps (w.alloc o) mb bb fb :=
  ⟨h.memo.alloc o, (World.grownBy_alloc w o none).cell h.book (by simp), (World.grownBy_alloc w o none).cell h.self (by simp)⟩
theorem Caps.drew {w : World} {mb bb fb : Nat} (h : Caps w mb bb fb) : Caps w.drew mb bb fb := ⟨h.memo, h.book, h.self⟩

def FromPost (mb n k : Nat) (w : World) (e : Ending) (w' : World) : Prop := e = .returned (.int .i64 (ch n k)) ∧ Memo w' mb ∧ w.grownBy w' (some mb)

set_option maxHeartbeats 400000 in
theorem from_gt (mb bb fb n k : Nat) (w : World) (h : n < k) (_hk : k ≤ 60) (hc : Caps w mb bb fb) : Calls Tryz.prog 165 #[pickV n k, .pointer (some ⟨bb, 0, none⟩), .pointer (some ⟨fb, 0, none⟩)] w (FromPost mb n k w) := by
  have hch : ch n k = 0 := Mis.ch_lt n k h
  unfold FromPost
  rw [hch]
  clear hch
  go_enter Tryz.func165, Tryz.ntmps165
  go_wp2
  go_ret
  exact ⟨rfl, hc.memo.alloc _, World.grownBy_alloc _ _ _⟩

set_option maxHeartbeats 400000 in
theorem from_end (mb bb fb n k : Nat) (w : World) (h : k = 0 ∨ k = n) (hk : k ≤ 60) (hkn : k ≤ n) (hc : Caps w mb bb fb) : Calls Tryz.prog 165 #[pickV n k, .pointer (some ⟨bb, 0, none⟩), .pointer (some ⟨fb, 0, none⟩)] w (FromPost mb n k w) := by
  have hch : ch n k = 1 := by
    rcases h with rfl | rfl
    · exact Mis.ch_zero _
    · exact Mis.ch_self _
  unfold FromPost
  rw [hch]
  clear hch
  by_cases h0 : k = 0
  · subst h0
    go_enter Tryz.func165, Tryz.ntmps165
    go_wp2
    go_ret
    exact ⟨rfl, hc.memo.alloc _, World.grownBy_alloc _ _ _⟩
  · obtain rfl : k = n := by omega
    have h1 : ((k : Int) == 0) = false := by simp; omega
    go_enter Tryz.func165, Tryz.ntmps165
    go_wp2
    go_ret
    exact ⟨rfl, hc.memo.alloc _, World.grownBy_alloc _ _ _⟩

set_option maxRecDepth 100000 in
set_option maxHeartbeats 400000 in
theorem from_known (mb bb fb n k : Nat) (w : World) (h0 : 0 < k) (hkn : k < n) (hc : Caps w mb bb fb)
    (hl : (Instr.lookup 147 (.map (some mb)) (pickV n k) true).run Tryz.prog (w.alloc (.cells #[.int .i64 n, .int .i64 k] 221)) = .ok (.tuple #[.int .i64 (ch n k), .bool true]) (w.alloc (.cells #[.int .i64 n, .int .i64 k] 221))) :
    Calls Tryz.prog 165 #[pickV n k, .pointer (some ⟨bb, 0, none⟩), .pointer (some ⟨fb, 0, none⟩)] w (FromPost mb n k w) := by
  have h1 : ((k : Int) == 0) = false := by simp; omega
  have h2 : ((k : Int) == (n : Int)) = false := by simp; omega
  have hm := hc.memo.alloc (.cells #[.int .i64 n, .int .i64 k] 221)
  unfold FromPost
  generalize ch n k = c at *
  have HM := Lib.hid hm
  clear hm
  obtain ⟨_, hbk, _⟩ := hc
  have lb := World.block_lt_of_cell? w _ hbk
  have d1 : decide ((k : Int) < 0) = false := by simp
  have d2 : decide (n < k) = false := by simp; omega
  go_enter Tryz.func165, Tryz.ntmps165
  go_wp2
  go_ret
  exact ⟨rfl, HM.out, World.grownBy_alloc _ _ _⟩

def SubPost (mb : Nat) (c : Int) (w : World) (e : Ending) (w' : World) : Prop := e = .returned (.int .i64 c) ∧ Memo w' mb ∧ w.grownBy w' (some mb)

set_option maxRecDepth 100000 in
set_option maxHeartbeats 400000 in
theorem from_sum (mb bb fb n k : Nat) (c1 c2 : Int) (w : World) (h0 : 0 < k) (hkn : k < n) (hn : n ≤ 60) (hc : Caps w mb bb fb) (hc1 : 0 ≤ c1) (hc2 : 0 ≤ c2) (hcs : c1 + c2 ≤ 1152921504606846976)
    (ih1 : ∀ (w : World), Caps w mb bb fb → Calls Tryz.prog 165 #[pickV ((n : Int) - 1) ((k : Int) - 1), .pointer (some ⟨bb, 0, none⟩), .pointer (some ⟨fb, 0, none⟩)] w (SubPost mb c1 w))
    (ih2 : ∀ (w : World), Caps w mb bb fb → Calls Tryz.prog 165 #[pickV ((n : Int) - 1) (k : Int), .pointer (some ⟨bb, 0, none⟩), .pointer (some ⟨fb, 0, none⟩)] w (SubPost mb c2 w))
    (hst : ∀ (ch' : Int), ch' = c1 + c2 → ∀ (w : World) {ops : Array Oper} {rest : List Oper} {o : Oper} {a : Act} {Q : Exit → Act → World → Prop}
      (_ : o.guard = none) (m x v : Operand) (_ : o.op = Op.mapUpdate 147 m x v) (_ : a.eval m = .map (some mb)) (_ : Memo w mb)
      (_ : a.eval x = pickV n k) (_ : a.eval v = .int .i64 ch') (_ : ∀ w', Memo w' mb → w.grownBy w' (some mb) → wpList Tryz.prog ops Q rest (a.put o.dst undef) w'),
      wpList Tryz.prog ops Q (o :: rest) a w)
    (hl : (Instr.lookup 147 (.map (some mb)) (pickV n k) true).run Tryz.prog (w.alloc (.cells #[.int .i64 n, .int .i64 k] 221)) = .ok (.tuple #[.int .i64 0, .bool false]) (w.alloc (.cells #[.int .i64 n, .int .i64 k] 221))) :
    Calls Tryz.prog 165 #[pickV n k, .pointer (some ⟨bb, 0, none⟩), .pointer (some ⟨fb, 0, none⟩)] w (SubPost mb (c1 + c2) w) := by
  have h1 : ((k : Int) == 0) = false := by simp; omega
  have h2 : ((k : Int) == (n : Int)) = false := by simp; omega
  have HC := Lib.hid (hc.alloc (.cells #[.int .i64 n, .int .i64 k] 221))
  have hne : (w.heap.size : Nat) ≠ mb := by have := hc.memo.lt; omega
  obtain ⟨hm, hbk, hsf⟩ := hc
  have lb := World.block_lt_of_cell? w _ hbk
  have lf := World.block_lt_of_cell? w _ hsf
  have d1 : decide ((k : Int) < 0) = false := by simp
  have d2 : decide (n < k) = false := by simp; omega
  have hone : some w.heap.size ≠ some mb := by simpa using hne
  have HO := Lib.hid hone
  have w0 : (w.alloc (.cells #[.int .i64 n, .int .i64 k] 221)).cell? ⟨w.heap.size, 0, none⟩ = some (.int .i64 n) := by simp
  have w1' : (w.alloc (.cells #[.int .i64 n, .int .i64 k] 221)).cell? ⟨w.heap.size, 1, none⟩ = some (.int .i64 k) := by simp
  have H0 := Lib.hid w0
  have H1 := Lib.hid w1'
  have IH1 := Lib.hid ih1
  have IH2 := Lib.hid ih2
  have HST := Lib.hid hst
  clear w0 w1' hone hne ih1 ih2 hst
  go_enter Tryz.func165, Tryz.ntmps165
  go_wp2_with fail
  clear hl
  have e1 : IntKind.i64.wrap ((n : Int) - 1) = (n : Int) - 1 := IntWalk.i64_in _ (by omega)
  have e2 : IntKind.i64.wrap ((k : Int) - 1) = (k : Int) - 1 := IntWalk.i64_in _ (by omega)
  have e3 : IntKind.i64.wrap (c1 + c2) = c1 + c2 := IntWalk.i64_in _ (by omega)
  go_region_held3 (fun w' => w'.cell? ⟨fb, 0, none⟩ = some (.func (.func 165) #[] #[.pointer (some ⟨bb, 0, none⟩), .pointer (some ⟨fb, 0, none⟩)]) ∧ w'.cell? ⟨w.heap.size, 0, none⟩ = some (.int .i64 n) ∧ w'.cell? ⟨w.heap.size, 1, none⟩ = some (.int .i64 k))
    (first | exact ⟨s2, p0, p1⟩ | exact ⟨s1, o0, o1⟩ | go_keep)
    (first | (go_at_call 165; ((with_reducible refine (IH1.out _ ?_).mono ?_); (exact HC.out.drew); rintro e w1 ⟨rfl, hm1, hg1⟩; have c1 : Caps w1 mb bb fb := HC.out.drew.after hm1 hg1; have s1 := c1.self; have o0 : w1.cell? ⟨w.heap.size, 0, none⟩ = some (.int .i64 n) := hg1.cell H0.out HO.out; have o1 : w1.cell? ⟨w.heap.size, 1, none⟩ = some (.int .i64 k) := hg1.cell H1.out HO.out; have HM1 := Lib.hid hm1; have HG1 := Lib.hid hg1; have C1 := Lib.hid c1; clear hm1 hg1 c1)) | (go_at_call 165; ((with_reducible refine (IH2.out _ ?_).mono ?_); (exact C1.out); rintro e w2 ⟨rfl, hm2, hg2⟩; have c2 : Caps w2 mb bb fb := C1.out.after hm2 hg2; have s2 := c2.self; have p0 : w2.cell? ⟨w.heap.size, 0, none⟩ = some (.int .i64 n) := hg2.cell o0 HO.out; have p1 : w2.cell? ⟨w.heap.size, 1, none⟩ = some (.int .i64 k) := hg2.cell o1 HO.out; have HM2 := Lib.hid hm2; have HG2 := Lib.hid hg2; have C2 := Lib.hid c2; clear hm2 hg2 c2)))
  clear e1 e2 e3
  have b2 := C2.out.book
  go_wp2_with (at_mapUpdate; refine HST.out _ rfl _ rfl _ _ _ rfl rfl HM2.out rfl rfl ?_; intro w3 hm3 hg3)
  go_ret
  exact ⟨rfl, hm3, (((World.grownBy_alloc w _ _).trans' (World.grownBy.drew' HG1.out)).trans' HG2.out).trans' hg3⟩

theorem from_any (mb bb fb : Nat) : ∀ (n : Nat), n ≤ 60 → ∀ (k : Nat) (w : World), k ≤ 60 → Caps w mb bb fb → Calls Tryz.prog 165 #[pickV n k, .pointer (some ⟨bb, 0, none⟩), .pointer (some ⟨fb, 0, none⟩)] w (FromPost mb n k w) := by
  intro n
  induction n with
  | zero =>
    intro _ k w hk hc
    by_cases h : k = 0
    · exact from_end mb bb fb 0 k w (.inl h) hk (by omega) hc
    · exact from_gt mb bb fb 0 k w (by omega) hk hc
  | succ n ih =>
    intro hn k w hk hc
    by_cases h1 : n + 1 < k
    · exact from_gt mb bb fb (n+1) k w h1 hk hc
    by_cases h2 : k = 0 ∨ k = n + 1
    · exact from_end mb bb fb (n+1) k w h2 hk (by omega) hc
    rcases (hc.memo.alloc (.cells #[.int .i64 (n+1 : Nat), .int .i64 k] 221)).look (n+1) k hn (by omega) with hl | hl
    · have e : (ch n (k-1) : Int) + (ch n k : Int) = (ch (n+1) k : Int) := by
        obtain ⟨j, rfl⟩ : ∃ j, k = j + 1 := ⟨k - 1, by omega⟩
        rw [Mis.ch_succ]; simp
      have b := ch60 (n+1) k hn
      have r := from_sum mb bb fb (n+1) k (ch n (k-1)) (ch n k) w (by omega) (by omega) hn hc (by omega) (by omega) (by omega)
        (fun w hc => by
          have := ih (by omega) (k-1) w (by omega) hc
          rw [show (((k - 1 : Nat)) : Int) = (k : Int) - 1 by omega] at this
          rw [show (((n + 1 : Nat)) : Int) - 1 = (n : Int) by omega]
          exact this)
        (fun w hc => by
          have := ih (by omega) k w hk hc
          rw [show (((n + 1 : Nat)) : Int) - 1 = (n : Int) by omega]
          exact this)
        (fun c hch w _ _ _ _ _ hg m x v hop hm hmemo hx hv hK => wpList_memo_store w hg m x v hop mb (n+1) k hm hmemo hn (by omega) hx (by rw [hv, hch, e]) hK) hl
      rw [e] at r
      exact r
    · exact from_known mb bb fb (n+1) k w (by omega) (by omega) hc hl

end Go.Proofs.YtdfebccmjbocjaaGreatDoor.Mi
namespace Go.Proofs.YtdfebccmjbocjaaGreatDoor.Mi
open Go.RowKit
open Mis (ch)
set_option maxHeartbeats 400000 in
/-- book.ways, by its map -/
theorem ways_any (mb n k : Nat) (w : World) (hn : n ≤ 60) (hk : k ≤ 60) (hm : Memo w mb) :
    Calls Tryz.prog 153 #[.agg #[.map (some mb)], .int .i64 n, .int .i64 k] w fun e w' => e = .returned (.int .i64 (ch n k)) ∧ Memo w' mb ∧ w.grownBy w' (some mb) := by
  go_enter Tryz.func153, Tryz.ntmps153
  go_wp2_with fail
  refine (from_any mb w.heap.size (w.heap.size + 1) n hn k _ hk ⟨((hm.alloc _).alloc _), ?_, ?_⟩).mono ?_
  · simp
  · simp
  rintro e w1 ⟨rfl, hm1, hg1⟩
  go_wp2
  go_ret
  exact ⟨rfl, hm1, ((World.grownBy_alloc w _ _).trans' (World.grownBy_alloc _ _ _)).trans' hg1⟩

end Go.Proofs.YtdfebccmjbocjaaGreatDoor.Mi
namespace Go.Proofs.YtdfebccmjbocjaaGreatDoor.Mi
open Go.RowKit
open Mis (ch)

end Go.Proofs.YtdfebccmjbocjaaGreatDoor.Mi
namespace Go.Proofs.YtdfebccmjbocjaaGreatDoor.Mi
open Go.RowKit

/-- BLOCK b OF W HOLDS cs, of type t; nothing in it is frozen. -/
def Blk (W : World) (b : Nat) (cs : Array Value) (t : TypeId) : Prop := W.heap[b]? = some (.cells cs t (0, 0))
section
variable {W W' : World} {b : Nat} {cs : Array Value} {t : TypeId}
theorem Blk.lt (h : Blk W b cs t) : b < W.heap.size := (Array.getElem?_eq_some_iff.1 h).1
theorem Blk.cell (h : Blk W b cs t) (i : Nat) : W.cell? ⟨b, i, none⟩ = cs[i]? := by simp [World.cell?, show W.heap[b]? = _ from h]
theorem Blk.frozen (h : Blk W b cs t) (i : Nat) : W.frozen? ⟨b, i, none⟩ = false := by simp [World.frozen?, show W.heap[b]? = _ from h]
theorem Blk.new (W : World) (cs : Array Value) (t : TypeId) : Blk (W.alloc (.cells cs t)) W.heap.size cs t := (MapKept.heap_alloc W _).1
theorem Blk.kept {row : Option Nat} (h : Blk W b cs t) (hg : W.grownBy W' row) (hne : some b ≠ row) : Blk W' b cs t := (hg.block b h.lt hne).trans h
theorem Blk.alloc (h : Blk W b cs t) (o : Obj) : Blk (W.alloc o) b cs t := h.kept (World.grownBy_alloc W o none) (by simp)
theorem Blk.below {B : Nat} (h : Blk W b cs t) (hb : Below B W W') (hlt : b < B) : Blk W' b cs t := (hb.block b hlt).trans h
theorem Blk.drew (h : Blk W b cs t) : Blk W.drew b cs t := h
theorem Blk.drewN (h : Blk W b cs t) (q : Nat) : Blk (W.drewN q) b cs t := h
theorem Blk.set (h : Blk W b cs t) (i : Nat) (v : Value) : Blk (W.setCell ⟨b, i, none⟩ v) b (cs.setIfInBounds i v) t := by
  obtain ⟨hlt, hk⟩ := Array.getElem?_eq_some_iff.1 h
  show (W.heap.modify b _)[b]? = _
  rw [Array.getElem?_eq_getElem (by rw [Array.size_modify]; exact hlt), Array.getElem_modify_self, hk]
  rfl
theorem Blk.other (h : Blk W b cs t) {a : Addr} (hne : b ≠ a.block) (v : Value) : Blk (W.setCell a v) b cs t := (Below.heap_setCell W a v b hne).trans h
theorem Blk.c1 {x0 : Value} (h : Blk W b #[x0] t) : W.cell? ⟨b, 0, none⟩ = some x0 ∧ W.frozen? ⟨b, 0, none⟩ = false := ⟨h.cell 0, h.frozen 0⟩
theorem Blk.c2 {x0 x1 : Value} (h : Blk W b #[x0, x1] t) : W.cell? ⟨b, 0, none⟩ = some x0 ∧ W.cell? ⟨b, 1, none⟩ = some x1 ∧ W.frozen? ⟨b, 0, none⟩ = false ∧ W.frozen? ⟨b, 1, none⟩ = false :=
  ⟨h.cell 0, h.cell 1, h.frozen 0, h.frozen 1⟩
theorem Blk.c4 {x0 x1 x2 x3 : Value} (h : Blk W b #[x0, x1, x2, x3] t) : W.cell? ⟨b, 0, none⟩ = some x0 ∧ W.cell? ⟨b, 1, none⟩ = some x1 ∧ W.cell? ⟨b, 2, none⟩ = some x2 ∧ W.cell? ⟨b, 3, none⟩ = some x3 :=
  ⟨h.cell 0, h.cell 1, h.cell 2, h.cell 3⟩
theorem Blk.c5 {x0 x1 x2 x3 x4 : Value} (h : Blk W b #[x0, x1, x2, x3, x4] t) : W.cell? ⟨b, 0, none⟩ = some x0 ∧ W.cell? ⟨b, 1, none⟩ = some x1 ∧ W.cell? ⟨b, 2, none⟩ = some x2 ∧ W.cell? ⟨b, 3, none⟩ = some x3 ∧ W.cell? ⟨b, 4, none⟩ = some x4 :=
  ⟨h.cell 0, h.cell 1, h.cell 2, h.cell 3, h.cell 4⟩
theorem Blk.c7 {x0 x1 x2 x3 x4 x5 x6 : Value} (h : Blk W b #[x0, x1, x2, x3, x4, x5, x6] t) : W.cell? ⟨b, 0, none⟩ = some x0 ∧ W.cell? ⟨b, 1, none⟩ = some x1 ∧ W.cell? ⟨b, 2, none⟩ = some x2 ∧ W.cell? ⟨b, 3, none⟩ = some x3 ∧ W.cell? ⟨b, 4, none⟩ = some x4 ∧ W.cell? ⟨b, 5, none⟩ = some x5 ∧ W.cell? ⟨b, 6, none⟩ = some x6 :=
  ⟨h.cell 0, h.cell 1, h.cell 2, h.cell 3, h.cell 4, h.cell 5, h.cell 6⟩
end
/-- two new blocks -/
theorem two_new (w : World) (c1 c2 : Array Value) (t1 t2 : TypeId) : Blk ((w.alloc (.cells c1 t1)).alloc (.cells c2 t2)) w.heap.size c1 t1 ∧ Blk ((w.alloc (.cells c1 t1)).alloc (.cells c2 t2)) (w.heap.size + 1) c2 t2 ∧
    Below w.heap.size w ((w.alloc (.cells c1 t1)).alloc (.cells c2 t2)) ∧ ((w.alloc (.cells c1 t1)).alloc (.cells c2 t2)).heap.size = w.heap.size + 2 :=
  ⟨(Blk.new w c1 t1).alloc _, by have := Blk.new (w.alloc (.cells c1 t1)) c2 t2; rwa [World.size_alloc] at this, ((Below.refl _ _).alloc (Nat.le_refl _) _).alloc (by simp) _, by simp⟩
theorem one_new (w : World) (c1 : Array Value) (t1 : TypeId) : Blk (w.alloc (.cells c1 t1)) w.heap.size c1 t1 ∧ Below w.heap.size w (w.alloc (.cells c1 t1)) ∧ (w.alloc (.cells c1 t1)).heap.size = w.heap.size + 1 :=
  ⟨Blk.new w c1 t1, (Below.refl _ _).alloc (Nat.le_refl _) _, by simp⟩
theorem three_new (w : World) (c1 c2 c3 : Array Value) (t1 t2 t3 : TypeId) : Blk (((w.alloc (.cells c1 t1)).alloc (.cells c2 t2)).alloc (.cells c3 t3)) w.heap.size c1 t1 ∧ Blk (((w.alloc (.cells c1 t1)).alloc (.cells c2 t2)).alloc (.cells c3 t3)) (w.heap.size + 1) c2 t2 ∧
    Blk (((w.alloc (.cells c1 t1)).alloc (.cells c2 t2)).alloc (.cells c3 t3)) (w.heap.size + 1 + 1) c3 t3 ∧
    Below w.heap.size w (((w.alloc (.cells c1 t1)).alloc (.cells c2 t2)).alloc (.cells c3 t3)) ∧ (((w.alloc (.cells c1 t1)).alloc (.cells c2 t2)).alloc (.cells c3 t3)).heap.size = w.heap.size + 3 := by
  obtain ⟨h1, h2, h3, h4⟩ := two_new w c1 c2 t1 t2
  refine ⟨h1.alloc _, h2.alloc _, ?_, h3.alloc (by rw [h4]; omega) _, by rw [World.size_alloc, h4]⟩
  have := Blk.new ((w.alloc (.cells c1 t1)).alloc (.cells c2 t2)) c3 t3
  rwa [h4] at this
theorem grownBy_setNew {w w' : World} {row : Option Nat} (h : w.grownBy w' row) {a : Addr} (ha : w.heap.size ≤ a.block) (v : Value) : w.grownBy (w'.setCell a v) row :=
  ⟨h.os, h.tape, h.output, Nat.le_trans h.size (by simp [World.setCell]), fun k hk hr => (Below.heap_setCell _ _ _ k (by omega)).trans (h.block k hk hr)⟩
theorem Memo.setCell {w : World} {b : Nat} (h : Memo w b) {a : Addr} (hne : b ≠ a.block) (v : Value) : Memo (w.setCell a v) b := by
  obtain ⟨es, clock, hb, F, hv⟩ := h
  exact ⟨es, clock, (Below.heap_setCell w a v b hne).trans hb, F, hv⟩
theorem Memo.drew {w : World} {b : Nat} (h : Memo w b) : Memo w.drew b := h
theorem Memo.drewN {w : World} {b : Nat} (h : Memo w b) (q : Nat) : Memo (w.drewN q) b := h
theorem Memo.below {w w' : World} {b B : Nat} (h : Memo w b) (hb : Below B w w') (hlt : b < B) : Memo w' b := by
  obtain ⟨es, clock, hb', F, hv⟩ := h
  exact ⟨es, clock, (hb.block b hlt).trans hb', F, hv⟩
/-- a new row may be written besides -/
theorem grownBy_rowNew {w w' w'' : World} {row : Option Nat} {b : Nat} (h : w.grownBy w' row) (k : w'.grownBy w'' (some b)) (hb : w.heap.size ≤ b) : w.grownBy w'' row :=
  ⟨k.os.trans h.os, k.tape.trans h.tape, k.output.trans h.output, Nat.le_trans h.size k.size, fun i hi hr => (k.block i (Nat.lt_of_lt_of_le hi h.size) (by simp; omega)).trans (h.block i hi hr)⟩
/-- nothing that existed has turned: whatever row -/
theorem grownBy_below {w w' : World} (h : Below w.heap.size w w') (row : Option Nat) : w.grownBy w' row := ⟨h.os, h.tape, h.output, h.size, fun k hk _ => h.block k hk⟩
/-- a row that is new -/
theorem below_grownBy {w w' w'' : World} {b : Nat} (h : Below w.heap.size w w') (k : w'.grownBy w'' (some b)) (hb : w.heap.size ≤ b) : Below w.heap.size w w'' :=
  h.grown k h.size (fun j e => by cases e; exact hb)
end Go.Proofs.YtdfebccmjbocjaaGreatDoor.Mi
namespace Go.Proofs.YtdfebccmjbocjaaGreatDoor.Mi
open Go.RowKit
open Mis (ch sets tot)

theorem sets_le (L u S k : Nat) (h : L + u ≤ 50) : sets L u S k ≤ 1125899906842624 := by
  unfold sets
  have h1 := Mis.ch_le_pow L k
  have h2 := Mis.ch_le_pow u (S-k)
  have h3 : 2 ^ L * 2 ^ u ≤ 2 ^ 50 := by rw [← Nat.pow_add]; exact Nat.pow_le_pow_right (by omega) h
  exact Nat.le_trans (Nat.mul_le_mul h1 h2) h3
theorem tot_le (L u S : Nat) (h : L + u ≤ 50) : tot L u S ≤ 1125899906842624 := by
  unfold tot
  exact Nat.le_trans (Mis.ch_le_pow _ _) (Nat.pow_le_pow_right (n := 2) (by omega) h)

open Mis (sm)
/-- lowest terms -/
def lowV (n d : Nat) : Value := fracV ((n / Nat.gcd n d : Nat) : Int) ((d / Nat.gcd n d : Nat) : Int)
end Go.Proofs.YtdfebccmjbocjaaGreatDoor.Mi
namespace Go.Proofs.YtdfebccmjbocjaaGreatDoor.Mi
open Go.RowKit
open Mis (ch sets tot)

set_option maxRecDepth 100000 in
set_option maxHeartbeats 400000 in
theorem lowest_any (n d : Nat) (w : World) (hd : 0 < d) (hn : n ≤ 4611686018427387904) (hd2 : d ≤ 4611686018427387904) :
    Calls Tryz.prog 89 #[fracV n d] w fun e w' => e = .returned (lowV n d) ∧ Below w.heap.size w w' := by
  have hg0 : 0 < Nat.gcd n d := Nat.gcd_pos_of_pos_right _ hd
  unfold lowV
  go_enter Tryz.func89, Tryz.ntmps89
  go_wp2
  go_quiet (fail)
  go_wp2
  obtain ⟨b1, b2, hb0, hsz⟩ := two_new w #[.int .i64 n, .int .i64 d] #[.int .i64 0, .int .i64 0] 70 70
  generalize (w.alloc (.cells #[.int .i64 n, .int .i64 d] 70)).alloc (.cells #[.int .i64 0, .int .i64 0] 70) = W0 at *
  have HZ := Lib.hid hsz
  clear hsz
  go_loopw [3, 4] (fun x y wr => ∃ p q : Nat, x = .int .i64 p ∧ y = .int .i64 q ∧ p ≤ 4611686018427387904 ∧ q ≤ 4611686018427387904 ∧ Nat.gcd p q = Nat.gcd n d ∧ ∃ m, wr = W0.drewN m)
    (fun _ y _ => (intOf y).toNat)
  case atStart => exact ⟨n, d, rfl, rfl, hn, hd2, rfl, _, rfl⟩
  case round =>
    obtain ⟨p, q, rfl, rfl, hp, hq, hg, m, rfl⟩ := hrel
    have HG := Lib.hid hg
    clear hg
    by_cases h0 : q = 0
    · subst h0
      obtain ⟨k0, k1, _, _⟩ := b1.c2
      obtain ⟨r0, r1, f0, f1⟩ := b2.c2
      have hp' : p = Nat.gcd n d := by rw [← HG.out]; simp
      have lt1 := b1.lt
      have lt2 := b2.lt
      have B1 := Lib.hid b1
      have B2 := Lib.hid b2
      clear b1 b2
      rw [← hp'] at hg0
      have HP := Lib.hid hp'
      clear hp'
      have a1 : (1 : Int) ≤ (p : Int) := by omega
      have a2 : (0 : Int) ≤ (n : Int) / (p : Int) ∧ (n : Int) / (p : Int) ≤ 4611686018427387904 := by
        have h1 := Nat.div_le_self n p
        have h2 : (n : Int) / (p : Int) = ((n / p : Nat) : Int) := (Int.natCast_ediv _ _).symm
        rw [h2]; generalize n / p = x at *; omega
      have a3 : (0 : Int) ≤ (d : Int) / (p : Int) ∧ (d : Int) / (p : Int) ≤ 4611686018427387904 := by
        have h1 := Nat.div_le_self d p
        have h2 : (d : Int) / (p : Int) = ((d / p : Nat) : Int) := (Int.natCast_ediv _ _).symm
        rw [h2]; generalize d / p = x at *; omega
      obtain ⟨a2, a4⟩ := a2
      obtain ⟨a3, a5⟩ := a3
      go_wp2
      go_region
      go_wp2
      refine bodyPost_ret (v := fracV ((n / p : Nat) : Int) ((d / p : Nat) : Int)) (by simp [results, Tryz.results89, go_sem, r0, r1]) rfl ⟨by rw [HP.out], ?_⟩
      repeat (first | exact hb0 | (refine Below.setCell ?_ (by simp) _) | (refine Below.alloc ?_ (by simp) _) | refine Below.drewN' ?_ _ | refine Below.drew ?_)
    · have hq0 : 0 < q := by omega
      have hq1 : (0 : Int) < (q : Int) := by omega
      have hq2 : ((q : Int) != 0) = true := by simp; omega
      go_wp2
      go_quiet (fail)
      go_wp2
      go_roundw
      case rel => exact ⟨q, p % q, rfl, by simp, hq, Nat.le_trans (Nat.le_of_lt (Nat.mod_lt _ hq0)) hq, by rw [← HG.out]; conv => rhs; rw [Nat.gcd_comm, Nat.gcd_rec, Nat.gcd_comm], _, World.drewN_drewN _ _ _⟩
      case measure => have := Nat.mod_lt p hq0; simp [intOf]; omega

namespace M64
theorem maskN (a : Nat) (ha : a < 18446744073709551616) : bits .and .u64 (a : Int) 4294967295 = ((a % 4294967296 : Nat) : Int) := by
  have h := bits_and_u64_nat a 4294967295 ha (by omega)
  have e : a &&& 4294967295 = a % 4294967296 := Nat.and_two_pow_sub_one_eq_mod a 32
  rw [e] at h
  exact h
theorem divN (a : Nat) : (a : Int) / 4294967296 = ((a / 4294967296 : Nat) : Int) := by omega
theorem mulN (a b : Nat) : (a : Int) * (b : Int) = ((a * b : Nat) : Int) := (Int.natCast_mul a b).symm
theorem addN (a b : Nat) : (a : Int) + (b : Int) = ((a + b : Nat) : Int) := (Int.natCast_add a b).symm
theorem wrapN (a : Nat) (ha : a < 18446744073709551616) : IntKind.u64.wrap (a : Int) = (a : Int) := by rw [IntKind.wrap_u64]; omega
theorem wrapM (a : Nat) : IntKind.u64.wrap (a : Int) = ((a % 18446744073709551616 : Nat) : Int) := by rw [IntKind.wrap_u64]; omega
end M64
set_option maxHeartbeats 1000000 in
theorem mul64_any (x y : Nat) (hx : x < 18446744073709551616) (hy : y < 18446744073709551616) (w : World) :
    Calls Tryz.prog 166 #[.int .u64 x, .int .u64 y] w fun e w' => e = .returned (.tuple #[.int .u64 ((x * y / 18446744073709551616 : Nat) : Int), .int .u64 ((x * y % 18446744073709551616 : Nat) : Int)]) ∧ w = w' := by
  obtain ⟨bd, bt, bw, hhi⟩ := Lib.mul64_hi x y hx hy
  have ba := Lib.half_mul_le (a := x / 4294967296) (b := y / 4294967296) (by omega) (by omega)
  have bb := Lib.half_mul_le (a := x / 4294967296) (b := y % 4294967296) (by omega) (by omega)
  have bc := Lib.half_mul_le (a := x % 4294967296) (b := y / 4294967296) (by omega) (by omega)
  have ba' : x / 4294967296 * (y / 4294967296) < 18446744073709551616 := by omega
  have bb' : x / 4294967296 * (y % 4294967296) < 18446744073709551616 := by omega
  have bc' : x % 4294967296 * (y / 4294967296) < 18446744073709551616 := by omega
  have bh1 : x / 4294967296 * (y / 4294967296) + (x / 4294967296 * (y % 4294967296) + x % 4294967296 * (y % 4294967296) / 4294967296) / 4294967296 < 18446744073709551616 := by omega
  have bh : x / 4294967296 * (y / 4294967296) + (x / 4294967296 * (y % 4294967296) + x % 4294967296 * (y % 4294967296) / 4294967296) / 4294967296 + ((x / 4294967296 * (y % 4294967296) + x % 4294967296 * (y % 4294967296) / 4294967296) % 4294967296 + x % 4294967296 * (y / 4294967296)) / 4294967296 < 18446744073709551616 := by omega
  go_enter Tryz.func166, Tryz.ntmps166
  go_wp2
  simp only [M64.maskN x hx, M64.maskN y hy, M64.divN, M64.mulN, M64.addN, M64.wrapN _ bd, M64.wrapN _ bb', M64.wrapN _ bt, M64.maskN _ bt, M64.wrapN _ bc', M64.wrapN _ bw, M64.wrapN _ ba', M64.wrapN _ bh1, M64.wrapN _ bh, M64.wrapM (x * y)]
  rw [hhi]
  go_ret2
  exact ⟨rfl, rfl⟩

theorem parts_lt (p q : Nat) : decide (p < q) = (decide (p / 18446744073709551616 < q / 18446744073709551616) || (decide (p / 18446744073709551616 = q / 18446744073709551616) && decide (p % 18446744073709551616 < q % 18446744073709551616))) := by
  rw [Bool.eq_iff_iff]; simp; omega
set_option maxRecDepth 100000 in
set_option maxHeartbeats 400000 in
theorem below_walk (n1 d1 n2 d2 h1 l1 h2 l2 : Nat) (r : Bool) (w : World) (hn1 : n1 ≤ 4611686018427387904) (hd1 : d1 ≤ 4611686018427387904) (hn2 : n2 ≤ 4611686018427387904) (hd2 : d2 ≤ 4611686018427387904)
    (c1 : ∀ w, Calls Tryz.prog 166 #[.int .u64 n1, .int .u64 d2] w fun e w' => e = .returned (.tuple #[.int .u64 h1, .int .u64 l1]) ∧ w = w')
    (c2 : ∀ w, Calls Tryz.prog 166 #[.int .u64 n2, .int .u64 d1] w fun e w' => e = .returned (.tuple #[.int .u64 h2, .int .u64 l2]) ∧ w = w')
    (hr : r = (decide (h1 < h2) || (decide (h1 = h2) && decide (l1 < l2)))) :
    Calls Tryz.prog 156 #[fracV n1 d1, fracV n2 d2] w fun e w' => e = .returned (.bool r) ∧ Below w.heap.size w w' := by
  have C1 := Lib.hid c1
  have C2 := Lib.hid c2
  clear c1 c2
  by_cases g1 : h1 < h2
  · obtain rfl : r = true := by rw [hr]; simp [g1]
    clear hr
    have t1 : decide (h1 < h2) = true := by simp [g1]
    go_enter Tryz.func156, Tryz.ntmps156
    go_wp2_with (first | (go_at_call 166; (with_reducible refine (C1.out _).mono ?_); rintro e w' ⟨rfl, rfl⟩; clear C1) | (go_at_call 166; (with_reducible refine (C2.out _).mono ?_); rintro e w' ⟨rfl, rfl⟩))
    go_ret
    exact ⟨rfl, ((Below.refl _ _).alloc (Nat.le_refl _) _).alloc (by simp) _⟩
  · by_cases g2 : h1 = h2
    · subst g2
      by_cases g3 : l1 < l2
      · obtain rfl : r = true := by rw [hr]; simp [g3]
        clear hr
        go_enter Tryz.func156, Tryz.ntmps156
        go_wp2_with (first | (go_at_call 166; (with_reducible refine (C1.out _).mono ?_); rintro e w' ⟨rfl, rfl⟩; clear C1) | (go_at_call 166; (with_reducible refine (C2.out _).mono ?_); rintro e w' ⟨rfl, rfl⟩))
        go_ret
        exact ⟨rfl, ((Below.refl _ _).alloc (Nat.le_refl _) _).alloc (by simp) _⟩
      · obtain rfl : r = false := by rw [hr]; simp; omega
        clear hr
        have t1 : decide (l1 < l2) = false := by simp; omega
        go_enter Tryz.func156, Tryz.ntmps156
        go_wp2_with (first | (go_at_call 166; (with_reducible refine (C1.out _).mono ?_); rintro e w' ⟨rfl, rfl⟩; clear C1) | (go_at_call 166; (with_reducible refine (C2.out _).mono ?_); rintro e w' ⟨rfl, rfl⟩))
        go_ret
        exact ⟨rfl, ((Below.refl _ _).alloc (Nat.le_refl _) _).alloc (by simp) _⟩
    · obtain rfl : r = false := by rw [hr]; simp [g2]; omega
      clear hr
      have t1 : decide (h1 < h2) = false := by simp; omega
      have t2 : ((h1 : Int) == (h2 : Int)) = false := by simp; omega
      go_enter Tryz.func156, Tryz.ntmps156
      go_wp2_with (first | (go_at_call 166; (with_reducible refine (C1.out _).mono ?_); rintro e w' ⟨rfl, rfl⟩; clear C1) | (go_at_call 166; (with_reducible refine (C2.out _).mono ?_); rintro e w' ⟨rfl, rfl⟩))
      go_ret
      exact ⟨rfl, ((Below.refl _ _).alloc (Nat.le_refl _) _).alloc (by simp) _⟩
theorem below_any (n1 d1 n2 d2 : Nat) (w : World) (hn1 : n1 ≤ 4611686018427387904) (hd1 : d1 ≤ 4611686018427387904) (hn2 : n2 ≤ 4611686018427387904) (hd2 : d2 ≤ 4611686018427387904) :
    Calls Tryz.prog 156 #[fracV n1 d1, fracV n2 d2] w fun e w' => e = .returned (.bool (Mis.lower n1 d1 n2 d2)) ∧ Below w.heap.size w w' :=
  below_walk n1 d1 n2 d2 _ _ _ _ _ w hn1 hd1 hn2 hd2 (fun w => mul64_any n1 d2 (by omega) (by omega) w) (fun w => mul64_any n2 d1 (by omega) (by omega) w) (by unfold Mis.lower; exact parts_lt _ _)
end Go.Proofs.YtdfebccmjbocjaaGreatDoor.Mi
