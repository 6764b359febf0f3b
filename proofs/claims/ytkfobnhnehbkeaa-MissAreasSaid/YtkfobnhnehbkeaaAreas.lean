/- The walk of Areas of the laws of layer 6. -/
import Derived.Test.YtkfobnhnehbkeaaLow
set_option linter.unusedVariables false
set_option linter.unusedSimpArgs false
namespace Go.Proofs.Ytkfobnhnehbkeaa
open Go.RowKit Go.Shelf

theorem tInfo29 : (Try.prog.info? 29).map (fun i => (i.zero, i.size, i.bytes)) = some (some (areaV 0 0 0 0), 4, 32) := by kernel_rfl
/-- the cells of areas -/
def cellsA (xs : List A4) : List Value := xs.flatMap fun a => [.int .i64 a.L, .int .i64 a.M, .int .i64 a.S, .int .i64 a.F]
theorem cellsA_snoc (xs : List A4) (a : A4) : cellsA (xs ++ [a]) = cellsA xs ++ [.int .i64 a.L, .int .i64 a.M, .int .i64 a.S, .int .i64 a.F] := by simp [cellsA]
theorem cellsA_get : ∀ (xs : List A4) (i : Nat) (a : A4), xs[i]? = some a → (cellsA xs)[i * 4]? = some (.int .i64 a.L) ∧ (cellsA xs)[i * 4 + 1]? = some (.int .i64 a.M) ∧ (cellsA xs)[i * 4 + 2]? = some (.int .i64 a.S) ∧ (cellsA xs)[i * 4 + 3]? = some (.int .i64 a.F)
  | [], _, _, h => by simp at h
  | x :: xs, 0, a, h => by simp at h; subst h; simp [cellsA]
  | x :: xs, i + 1, a, h => by
    have ih := cellsA_get xs i a (by simpa using h)
    have e : ∀ j, (cellsA (x :: xs))[(i + 1) * 4 + j]? = (cellsA xs)[i * 4 + j]? := fun j => by
      rw [show (i + 1) * 4 + j = 4 + (i * 4 + j) by omega]
      show ([Value.int .i64 x.L, .int .i64 x.M, .int .i64 x.S, .int .i64 x.F] ++ cellsA xs)[4 + (i * 4 + j)]? = _
      rw [List.getElem?_append_right (by simp)]
      congr 1
      simp
    have e0 := e 0
    rw [Nat.add_zero, Nat.add_zero] at e0
    rw [e0, e 1, e 2, e 3]
    exact ih
/-- a list of areas as a slice of the call's own -/
def AreasIs (W : World) (v : Value) (xs : List A4) : Prop := ∃ a b c, v = .slice a xs.length c ∧ (xs ≠ [] → a = some ⟨b, 0, none⟩) ∧ AreasAt W b 0 xs ∧ (xs ≠ [] → b < W.heap.size)
theorem areas_is {W : World} {base : Nat} {v : Value} {xs : List A4} (h : W.ownsRow base 29 4 v xs.length (cellsA xs)) : AreasIs W v xs := by
  by_cases hne : xs = []
  · subst hne
    rcases Joins.ownsRow_forms h with ⟨rfl, _⟩ | ⟨g, cap, rfl⟩
    · exact ⟨none, 0, 0, rfl, fun h => absurd rfl h, fun i a h => by simp at h, fun h => absurd rfl h⟩
    · exact ⟨_, 0, cap, rfl, fun h => absurd rfl h, fun i a h => by simp at h, fun h => absurd rfl h⟩
  · rcases Joins.ownsRow_forms h with ⟨rfl, h0⟩ | ⟨g, cap, rfl⟩
    · exact absurd (List.eq_nil_of_length_eq_zero h0) hne
    · refine ⟨_, g, cap, rfl, fun _ => rfl, ?_, fun _ => (h.lt g rfl).2⟩
      intro i a e
      have hi : i < xs.length := (List.getElem?_eq_some_iff.1 e).1
      obtain ⟨q0, q1, q2, q3⟩ := cellsA_get xs i a e
      rw [Nat.zero_add]
      exact ⟨by rw [h.cellAt _ (by omega), q0], by rw [h.cellAt _ (by omega), q1], by rw [h.cellAt _ (by omega), q2], by rw [h.cellAt _ (by omega), q3]⟩
theorem cells_four (w : World) (x0 x1 x2 x3 : Value) (t : TypeId) : ∀ j u, [x0, x1, x2, x3][j]? = some u → (w.alloc (.cells #[x0, x1, x2, x3] t)).cell? ((⟨w.heap.size, 0, none⟩ : Addr).add j) = some u := by
  intro j u hj
  match j, hj with
  | 0, hj => simp at hj; subst hj; simp [Addr.add]
  | 1, hj => simp at hj; subst hj; simp [Addr.add]
  | 2, hj => simp at hj; subst hj; simp [Addr.add]
  | 3, hj => simp at hj; subst hj; simp [Addr.add]

set_option maxRecDepth 100000 in
set_option maxHeartbeats 1000000 in
theorem Areas_any (ad : Option Addr) (b o cap : Nat) (xs : List A4) (w : World) (had : xs ≠ [] → ad = some ⟨b, o, none⟩) (hb : xs ≠ [] → b < w.heap.size) (hn : xs.length ≤ 1000) (ha : AreasAt w b o xs) :
    Calls Try.prog 32 #[.slice ad xs.length cap] w fun e w' => ∃ v, e = .returned v ∧ AreasIs w' v xs ∧ Below w.heap.size w w' := by
  obtain ⟨i0, hi, hz0, hz1, hz2⟩ := info_parts tInfo29
  have HA := Lib.hid ha
  have HAD := Lib.hid had
  have HBL := Lib.hid hb
  obtain ⟨m, hN⟩ : ∃ k, k = xs.length := ⟨_, rfl⟩
  have HN := Lib.hid hN
  rw [← hN] at hn ⊢
  clear had hb ha hN
  go_enter Try.func32, Try.ntmps32
  go_wp2
  go_loopw [3, 4] (fun v x wr => ∃ k : Nat, k ≤ m ∧ x = .int .i64 (k : Int) ∧ wr.ownsRow w.heap.size 29 4 v k (cellsA (xs.take k)) ∧ Below w.heap.size w wr) (fun _ x _ => m - (intOf x).toNat)
  case atStart => exact ⟨0, Nat.zero_le _, rfl, World.ownsRow_nil _ _ _ _, Below.refl _ _⟩
  case round =>
    obtain ⟨k, hk, rfl, hown, hB⟩ := hrel
    have HO := Lib.hid hown
    have HB := Lib.hid hB
    have hs := hB.size
    clear hown hB
    by_cases hlt : k < m
    · obtain ⟨a, hak⟩ : ∃ a, xs[k]? = some a := ⟨xs[k]'(by rw [← HN.out]; exact hlt), by simp⟩
      have hne : xs ≠ [] := by rintro rfl; simp at hak
      have e1 := HAD.out hne
      subst e1
      obtain ⟨k0, k1, k2, k3⟩ := HA.out.below HB.out (HBL.out hne) k a hak
      have HT := Lib.hid (show xs.take (k + 1) = xs.take k ++ [a] by rw [List.take_add_one, hak]; rfl)
      obtain ⟨L, M, S, F⟩ := a
      simp only [] at k0 k1 k2 k3
      clear hak hne
      go_wp2_with (first | (go_at_call 20; (with_reducible refine (Area_any _ _ _ _ _).mono ?_); rintro e w1 ⟨rfl, h1⟩; have H1 := Lib.hid h1; have h1s := h1.size; have HO1 := Lib.hid (HO.out.kept (grownBy_below h1 none) (by rcases Joins.ownsRow_forms HO.out with ⟨e0, _⟩ | ⟨g, c, e0⟩ <;> rw [e0] <;> simp [Value.ownBlock])); clear h1) | (at_builtin; refine wpList_append_own _ rfl _ _ 51 rfl w.heap.size 29 i0 (areaV 0 0 0 0) 4 32 Try.underlying51 hi hz0 hz1 hz2 rfl (by decide) _ _ _ rfl (HO1.out.alloc _) ⟨w1.heap.size, 0, none⟩ 1 1 [.int .i64 L, .int .i64 M, .int .i64 S, .int .i64 F] rfl rfl (cells_four _ _ _ _ _ _) (by simp [Value.oneCell']) (by unfold maxLen; omega) (by omega) (by simp; omega) ?_; intro v' w2 hown' hgrow _; have HO2 := Lib.hid hown'; have HG := Lib.hid hgrow; clear hown' hgrow))
      go_roundw
      case rel =>
        refine ⟨k + 1, by omega, by go_num, ?_, ?_⟩
        · rw [HT.out, cellsA_snoc]; exact HO2.out
        · have hz : Below w.heap.size w w1 := HB.out.trans (H1.out.mono hs)
          exact (hz.alloc hz.size _).grown HG.out (by simp; omega) (fun j e => (HO1.out.lt j e).1)
      case measure => simp [intOf]; omega
    · obtain rfl : k = m := by omega
      go_wp2
      go_ret
      refine ⟨_, rfl, areas_is (base := w.heap.size) ?_, HB.out⟩
      have h := HO.out
      rw [HN.out, List.take_length] at h
      exact h
end Go.Proofs.Ytkfobnhnehbkeaa
