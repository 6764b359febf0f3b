/- The map in which package miss keeps numbers of ways: what it holds is right; looked up, stored. -/
import Derived.Test.YtkfobnhnehbkeaaA
import Derived.Maps.OwnOps
import Derived.DeepKeys4
namespace Go.Proofs.Ytkfobnhnehbkeaa
open Go.RowKit
theorem tLaidOut : laidOutB Try.prog = true := by kernel_rfl
theorem tRow133 : (133 : TypeId) < Try.prog.types.size := of_decide_eq_true (by kernel_rfl)
theorem tWide133 : (match Try.prog.underlying 133 with | some (.array _ _) | some (.struct _) => true | _ => false) = true := by rw [Try.underlying133]
theorem tKey2 : Try.prog.keyTypeAt 2 133 = true := by kernel_rfl
theorem tKeyType : Try.prog.keyType 133 = true := by kernel_rfl
theorem tCells133 : Try.prog.cellsOf 133 = 2 := by kernel_rfl
theorem tCells3 : Try.prog.cellsOf 3 = 1 := by kernel_rfl
set_option maxRecDepth 100000 in
theorem law133 : Maps.Keyed Try.prog 133 := Maps.Keyed.of_law (deep_law_laid tLaidOut (m := 2) (by omega) tRow133 tKey2 tWide133)
abbrev pickV (n k : Int) : Value := .agg #[.int .i64 n, .int .i64 k]
theorem tSize : ∃ D, Try.prog.types.size = D + 1 := ⟨169, by kernel_rfl⟩
theorem key_pick (n k : Int) (hn : (Lit.int .i64 n).wf = true) (hk : (Lit.int .i64 k).wf = true) : ∃ kl, keyOf Try.prog 133 (pickV n k) = some kl := by
  obtain ⟨D, hs⟩ := tSize
  unfold keyOf
  rw [Try.underlying133]
  simp only [tKeyType, Bool.true_and]
  have hf : (pickV n k).formed Try.prog 133 = true := by simp [Value.formed, Try.underlying133, tCells133]
  rw [if_pos hf, hs]
  simp [Program.keyLits, Try.underlying133, tCells133, tCells3, Value.cells, Try.underlying3, hn, hk]

open Go.WideElems (Fit)
open Go.MapKept Go.ChangeMaps
open Mis (ch)
theorem wf64 {n : Int} (h1 : -9223372036854775808 ≤ n) (h2 : n ≤ 9223372036854775807) : (Lit.int .i64 n).wf = true := WalkArith.wf_i64 ⟨h1, h2⟩
theorem ch60 (n k : Nat) (h : n ≤ 60) : ch n k ≤ 1152921504606846976 :=
  Nat.le_trans (Mis.ch_le_pow n k) (Nat.le_trans (Nat.pow_le_pow_right (by omega) h) (by decide))

/-- BLOCK b IS A MAP OF NUMBERS OF WAYS, ALL OF THEM RIGHT. -/
def Memo (w : World) (b : Nat) : Prop :=
  ∃ es clock, w.heap[b]? = some (.map es clock) ∧ Fit Try.prog 133 (plainElem (H := Unit) Try.prog 3) es clock ∧ ∀ x, x ∈ es.toList → ∃ n k : Nat, n ≤ 60 ∧ k ≤ n ∧ x.key = pickV n k ∧ x.val = .int .i64 (ch n k)
theorem Memo.lt {w : World} {b : Nat} (h : Memo w b) : b < w.heap.size := by
  obtain ⟨es, clock, hb, _⟩ := h
  exact (Array.getElem?_eq_some_iff.1 hb).1
theorem Memo.kept {w w' : World} {row : Option Nat} {b : Nat} (h : Memo w b) (hg : w.grownBy w' row) (hne : some b ≠ row) : Memo w' b := by
  have hlt := h.lt
  obtain ⟨es, clock, hb, F, hv⟩ := h
  exact ⟨es, clock, (hg.block b hlt hne).trans hb, F, hv⟩
theorem Memo.alloc {w : World} {b : Nat} (h : Memo w b) (o : Obj) : Memo (w.alloc o) b := h.kept (World.grownBy_alloc w o none) (by simp)
theorem Memo.made (w : World) : Memo (w.alloc (.map #[] 0)) w.heap.size :=
  ⟨#[], 0, (MapKept.heap_alloc w _).1, ⟨by simp, stamped_empty 0, by simp⟩, by simp⟩
theorem Memo.ne_cell {w : World} {b : Nat} (h : Memo w b) {a : Addr} {v : Value} (hc : w.cell? a = some v) : a.block ≠ b := by
  rintro rfl
  obtain ⟨es, clock, hb, _⟩ := h
  simp [World.cell?, hb] at hc
theorem nodup_len {l : List Nat} {n : Nat} (h : l.Nodup) (hl : ∀ x, x ∈ l → x < n) : l.length ≤ n := by
  have hp : l.Perm ((List.range n).filter fun x => decide (x ∈ l)) := by
    refine (List.perm_ext_iff_of_nodup h (List.Nodup.sublist List.filter_sublist List.nodup_range)).2 fun x => ?_
    simp only [List.mem_filter, List.mem_range, decide_eq_true_eq]
    exact ⟨fun hx => ⟨hl x hx, hx⟩, fun hx => hx.2⟩
  have h1 := hp.length_eq
  have h2 := List.length_filter_le (fun x => decide (x ∈ l)) (List.range n)
  rw [List.length_range] at h2
  omega
/-- the number that stands for a key -/
def codeOf (v : Value) : Nat :=
  match v with
  | .agg cs => match cs.toList with
    | [.int _ n, .int _ k] => n.toNat * 61 + k.toNat
    | _ => 0
  | _ => 0
theorem codeOf_pick (n k : Nat) : codeOf (pickV n k) = n * 61 + k := rfl
theorem memo_room {es : Array MapEntry} {clock : Nat} (F : Fit Try.prog 133 (plainElem (H := Unit) Try.prog 3) es clock) (hv : ∀ x, x ∈ es.toList → ∃ n k : Nat, n ≤ 60 ∧ k ≤ n ∧ x.key = pickV n k ∧ x.val = .int .i64 (ch n k)) : es.size < maxLen := by
  have hn : es.toList.Pairwise (fun x y => x.key ≠ y.key) := ((stamped_iff es clock).1 F.stamped).2.2
  have h1 : (es.toList.map fun x => codeOf x.key).Nodup := by
    unfold List.Nodup
    rw [List.pairwise_map]
    refine List.Pairwise.imp_of_mem ?_ hn
    intro a b ha hb hne e
    obtain ⟨n, k, h1, h2, h3, _⟩ := hv a ha
    obtain ⟨n', k', h1', h2', h3', _⟩ := hv b hb
    rw [h3, h3', codeOf_pick, codeOf_pick] at e
    rw [h3, h3'] at hne
    obtain rfl : n = n' := by omega
    obtain rfl : k = k' := by omega
    exact hne rfl
  have h2 := nodup_len (n := 3721) h1 (fun x hx => by
    obtain ⟨y, hy, rfl⟩ := List.mem_map.1 hx
    obtain ⟨n, k, h1, h2, h3, _⟩ := hv y hy
    rw [h3, codeOf_pick]; omega)
  rw [List.length_map, Array.length_toList] at h2
  unfold maxLen; omega
theorem Memo.look {w : World} {b : Nat} (h : Memo w b) (n k : Nat) (hn : n ≤ 60) (hk : k ≤ n) :
    (Instr.lookup 95 (.map (some b)) (pickV n k) true).run Try.prog w = .ok (.tuple #[.int .i64 0, .bool false]) w ∨
    (Instr.lookup 95 (.map (some b)) (pickV n k) true).run Try.prog w = .ok (.tuple #[.int .i64 (ch n k), .bool true]) w := by
  obtain ⟨es, clock, hb, F, hv⟩ := h
  obtain ⟨kl, hkl⟩ := key_pick n k (wf64 (by omega) (by omega)) (wf64 (by omega) (by omega))
  rcases Maps.fit_look true law133 Try.underlying95 (Try.zeroValue3 _) hb F hkl with ⟨h1, _, _⟩ | ⟨e0, y, hm, hkey, h1, _, _, _⟩
  · exact .inl h1
  · obtain ⟨n', k', _, _, h3, h4⟩ := hv e0 hm
    rw [hkey] at h3
    simp only [pickV, Value.agg.injEq, Array.mk.injEq, List.cons.injEq, Value.int.injEq, true_and, and_true] at h3
    obtain ⟨ha, hb'⟩ := h3
    obtain rfl : n = n' := by omega
    obtain rfl : k = k' := by omega
    rw [h4] at h1
    exact .inr h1
theorem Memo.store {w : World} {b : Nat} (h : Memo w b) (n k : Nat) (hn : n ≤ 60) (hk : k ≤ n) :
    ∃ w', (Instr.mapUpdate 95 (.map (some b)) (pickV n k) (.int .i64 (ch n k))).run Try.prog w = .ok () w' ∧ Memo w' b ∧ w.grownBy w' (some b) := by
  obtain ⟨es, clock, hb, F, hv⟩ := h
  obtain ⟨kl, hkl⟩ := key_pick n k (wf64 (by omega) (by omega)) (wf64 (by omega) (by omega))
  have hc := ch60 n k hn
  obtain ⟨es', clock', hrun, F', _, _, _, hmem⟩ := Maps.fit_store (R' := plainElem (H := Unit) Try.prog 3) law133 Try.underlying95 hb F (memo_room F hv) (fun _ _ _ _ hz => hz) hkl (plainElem_int (H := Unit) Try.underlying3 (wf64 (n := (ch n k : Int)) (by omega) (by omega)))
  refine ⟨_, hrun, ⟨es', clock', heap_setBlock_same hb _, F', fun x hx => ?_⟩, ⟨rfl, rfl, rfl, by simp [setBlock], fun i _ hi => heap_setBlock_other hb _ (fun e => hi (by rw [e]))⟩⟩
  rcases hmem x hx with ⟨h1, _⟩ | ⟨h1, h2⟩
  · exact hv x h1
  · exact ⟨n, k, hn, hk, h1, h2⟩
/-- A STORE, AT THE OPERATION, FOR THE WALK. -/
theorem wpList_memo_store (w : World) {ops : Array Oper} {rest : List Oper} {o : Oper} {a : Act} {Q : Exit → Act → World → Prop}
    (hg : o.guard = none) (m x v : Operand) (hop : o.op = Op.mapUpdate 95 m x v) (b n k : Nat) (hm : a.eval m = .map (some b)) (hmemo : Memo w b) (hn : n ≤ 60) (hk : k ≤ n)
    (hx : a.eval x = pickV n k) (hv : a.eval v = .int .i64 (ch n k)) (hK : ∀ w', Memo w' b → w.grownBy w' (some b) → wpList Try.prog ops Q rest (a.put o.dst undef) w') :
    wpList Try.prog ops Q (o :: rest) a w := by
  refine wpList_plain hg fun K' hK' => ?_
  obtain ⟨w', hrun, r1, r2⟩ := hmemo.store n k hn hk
  unfold Oper.wp
  simp [execOp, hop, hm, hx, hv, hrun, Result.andThen]
  exact hK' _ _ (hK w' r1 r2)
end Go.Proofs.Ytkfobnhnehbkeaa
