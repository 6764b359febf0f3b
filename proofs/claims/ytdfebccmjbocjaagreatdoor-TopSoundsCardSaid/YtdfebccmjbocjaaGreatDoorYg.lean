/- tithinglaw02: persons: how many different numbers a list has. -/
import Derived.Test.YtdfebccmjbocjaaGreatDoorYf
set_option linter.unusedVariables false
set_option linter.unusedSimpArgs false
namespace Go.Proofs.YtdfebccmjbocjaaGreatDoor
open Go.RowKit Go.Shelf
/-- a slice of numbers that is read -/
structure SlN (W : World) (l : Loc) (xs : List Nat) : Prop where
  at_ : xs ≠ [] → l.a = some ⟨l.b, l.o, none⟩
  lt : xs ≠ [] → l.b < W.heap.size
  cells : ∀ (i x : Nat), xs[i]? = some x → W.cell? ⟨l.b, l.o + i, none⟩ = some (.int .i64 (x : Int))
theorem SlN.below {W W' : World} {l : Loc} {xs : List Nat} (h : SlN W l xs) (hb : Below W.heap.size W W') : SlN W' l xs := ⟨h.at_, fun hn => Nat.lt_of_lt_of_le (h.lt hn) hb.size, fun i x hi => by
  have hn : xs ≠ [] := by rintro rfl; simp at hi
  exact (hb.cell (p := ⟨l.b, l.o + i, none⟩) (h.lt hn)).trans (h.cells i x hi)⟩
theorem SlN.of_own {W : World} {B : Nat} {v : Value} {l : List Nat} (h : OwnN W B v l) : ∃ s : Loc, v = .slice s.a l.length s.c ∧ SlN W s l ∧ (s.a = none ∨ s.a = some ⟨s.b, s.o, none⟩) := by
  rcases Joins.ownsRow_forms h with ⟨hv, h0⟩ | ⟨g, c, hv⟩
  · have e : l = [] := List.eq_nil_of_length_eq_zero h0
    subst e
    exact ⟨⟨none, 0, 0, 0⟩, hv, ⟨fun h => absurd rfl h, fun h => absurd rfl h, fun i p hi => by simp at hi⟩, .inl rfl⟩
  · subst hv
    refine ⟨⟨some ⟨g, 0, none⟩, g, 0, c⟩, rfl, ⟨fun _ => rfl, fun _ => (h.lt g rfl).2, fun i x hi => ?_⟩, .inr rfl⟩
    have hl := (List.getElem?_eq_some_iff.1 hi).1
    rw [Nat.zero_add]
    refine (World.ownsRow.cellAt h i (by omega)).trans ?_
    simp [natV, hi]
def firstB (of : List Nat) (i k : Nat) : Bool := (List.range k).all fun j => !(ofF of j == ofF of i)
theorem firstB_succ (of : List Nat) (i k : Nat) : firstB of i (k + 1) = (firstB of i k && !(ofF of k == ofF of i)) := by
  unfold firstB; rw [List.range_succ, List.all_append]; simp
theorem many_first (of : List Nat) (i : Nat) (h : ofF of i < 10) : Sh.many (i + 1) (ofF of) = Sh.many i (ofF of) + if firstB of i i then 1 else 0 := by
  rw [many_succ i (ofF of) h]
  have e : firstB of i i = !((List.range i).any fun k => ofF of k == ofF of i) := by
    unfold firstB; rw [List.not_any_eq_all_not]
  rw [e]
  cases (List.range i).any fun k => ofF of k == ofF of i <;> rfl
set_option maxRecDepth 100000 in
set_option maxHeartbeats 3200000 in
theorem persons32 (s : Loc) (n : Nat) (of : List Nat) (w : World) (hn : of.length = n) (hS : SlN w s of) (h10 : n ≤ 10) (h9 : ∀ i, i < n → ofF of i < 10) :
    Calls Tryz.prog 32 #[.slice s.a n s.c] w fun e w' => e = .returned (.int .i64 (manyL of : Nat)) ∧ Below w.heap.size w w' := by
  obtain ⟨sa, sb, so, sc⟩ := s
  dsimp only
  have HS := Lib.hid hS
  have HN := Lib.hid hn
  have H9 := Lib.hid h9
  have cellI : Hid (∀ i, i < n → ∀ W, Below w.heap.size w W → W.cell? ⟨sb, so + i, none⟩ = some (.int .i64 (ofF of i : Nat)) ∧ sa = some ⟨sb, so, none⟩ ∧ sb < W.heap.size) := Lib.hid (fun i hi W hb => by
    have hne : of ≠ [] := by rintro rfl; simp at hn; omega
    refine ⟨(hS.below hb).cells i _ ?_, hS.at_ hne, (hS.below hb).lt hne⟩
    unfold ofF
    rw [List.getD_eq_getElem?_getD, List.getElem?_eq_getElem (by omega)]; rfl)
  clear hS h9
  go_enter Tryz.func32, Tryz.ntmps32
  go_wp2_with fail
  go_loopw [4, 3] (fun x v wr => ∃ i : Nat, i ≤ n ∧ x = .int .i64 (i : Int) ∧ v = .int .i64 (Sh.many i (ofF of) : Nat) ∧ Hid (Below w.heap.size w wr)) (fun x _ _ => n - (intOf x).toNat)
  case atStart => exact ⟨0, Nat.zero_le _, rfl, by rw [many_zero]; rfl, Lib.hid (Below.refl _ _)⟩
  case round =>
    obtain ⟨i, hi, rfl, rfl, HB⟩ := hrel
    by_cases hlt : i < n
    · obtain ⟨ci, hsa, hsb⟩ := cellI.out i hlt wr HB.out
      subst hsa
      have b0 : (0 : Int) ≤ (i : Int) := by omega
      have b1 : (i : Int) < (n : Int) := by omega
      have hmi := many_le i (ofF of)
      have HM := Lib.hid (many_first of i (H9.out i hlt))
      have HMI := Lib.hid hmi
      obtain ⟨M, hM⟩ : ∃ M, M = Sh.many i (ofF of) := ⟨_, rfl⟩
      rw [← hM] at HM ⊢
      have hM9 : (M : Int) ≤ 10 := by omega
      have HMM := Lib.hid hM
      clear hmi hM
      go_wp2_with fail
      go_loopw [6, 5] (fun y f wr2 => ∃ k : Nat, k ≤ i ∧ y = .int .i64 (k : Int) ∧ f = .bool (firstB of i k) ∧ Hid (Below w.heap.size w wr2)) (fun y _ _ => i - (intOf y).toNat)
      case atStart => exact ⟨0, Nat.zero_le _, rfl, rfl, HB⟩
      case round =>
        clear ci HB
        obtain ⟨k, hk, rfl, rfl, HB⟩ := hrel
        have ci := (cellI.out i hlt wr HB.out).1
        have hsb := (cellI.out i hlt wr HB.out).2.2
        by_cases hki : k < i
        · obtain ⟨ck, _, _⟩ := cellI.out k (by omega) wr HB.out
          have d0 : (0 : Int) ≤ (k : Int) := by omega
          have d1 : (k : Int) < (i : Int) := by omega
          have d2 : (k : Int) < (n : Int) := by omega
          have HF := Lib.hid (firstB_succ of i k)
          cases hf : firstB of i k with
          | true =>
            rw [hf] at HF
            by_cases he : ofF of k = ofF of i
            · have t1 : (((ofF of k : Nat) : Int) != ((ofF of i : Nat) : Int)) = false := by rw [he]; simp
              have t2 : (ofF of k == ofF of i) = true := by rw [he]; simp
              rw [t2] at HF
              clear he t2 hf
              go_wp2_with fail
              go_quiet (fail)
              go_wp2_with fail
              go_roundw
              case rel => exact ⟨k + 1, by omega, by go_num, by rw [HF.out]; rfl, Lib.hid (HB.out.drewN' _)⟩
              case measure => simp [intOf]; omega
            · have t1 : (((ofF of k : Nat) : Int) != ((ofF of i : Nat) : Int)) = true := by simp; omega
              have t2 : (ofF of k == ofF of i) = false := by simp [he]
              rw [t2] at HF
              clear he t2 hf
              go_wp2_with fail
              go_quiet (fail)
              go_wp2_with fail
              go_roundw
              case rel => exact ⟨k + 1, by omega, by go_num, by rw [HF.out]; rfl, Lib.hid (HB.out.drewN' _)⟩
              case measure => simp [intOf]; omega
          | false =>
            rw [hf] at HF
            clear hf
            go_wp2_with fail
            go_quiet (fail)
            go_wp2_with fail
            go_roundw
            case rel => exact ⟨k + 1, by omega, by go_num, by rw [HF.out]; rfl, Lib.hid (HB.out.drewN' _)⟩
            case measure => simp [intOf]; omega
        · obtain rfl : k = i := by omega
          cases hf : firstB of k k with
          | true =>
            rw [hf] at HM
            clear hf
            go_wp2_with fail
            go_roundw
            case rel => exact ⟨k + 1, by omega, by go_num, by rw [HM.out]; simp, HB⟩
            case measure => simp [intOf]; omega
          | false =>
            rw [hf] at HM
            clear hf
            go_wp2_with fail
            go_roundw
            case rel => exact ⟨k + 1, by omega, by go_num, by rw [HM.out]; simp, HB⟩
            case measure => simp [intOf]; omega
    · obtain rfl : i = n := by omega
      go_wp2_with fail
      go_ret
      exact ⟨by unfold manyL; rw [HN.out]; rfl, HB.out⟩
end Go.Proofs.YtdfebccmjbocjaaGreatDoor
