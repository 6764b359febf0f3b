/- sheet: the list of a set's members. -/
import Derived.Test.YtdfebccmjbocjaaGreatDoorZa
import Derived.Laws.OwnMore
set_option linter.unusedVariables false
set_option linter.unusedSimpArgs false
namespace Go.Proofs.YtdfebccmjbocjaaGreatDoor
open Go.RowKit Go.Shelf

def natV (l : List Nat) : List Value := l.map fun (k : Nat) => Value.int .i64 (k : Int)
theorem Tryz.info3' : (Tryz.prog.info? 3).map (fun i => (i.zero, i.size, i.bytes)) = some (some (.int .i64 0), 1, 8) := by kernel_rfl
theorem news_one' {w : World} {b : Nat} {x : Value} (h : w.cell? ⟨b, 0, none⟩ = some x) : ∀ (j : Nat) (u : Value), [x][j]? = some u → w.cell? ((⟨b, 0, none⟩ : Addr).add j) = some u := by
  intro j u hu
  match j, hu with
  | 0, hu => simp at hu; subst hu; exact h
/-- an own row of numbers -/
def OwnN (W : World) (base : Nat) (v : Value) (l : List Nat) : Prop := W.ownsRow base 3 1 v l.length (natV l)
def ListPost (l : List Nat) (w : World) (e : Ending) (w' : World) : Prop := ∃ v, e = .returned v ∧ OwnN w' w.heap.size v l ∧ Below w.heap.size w w'
theorem and_sub (s : Nat) (h : s < 1024) (h0 : 0 < s) : bits BinOp.and IntKind.u64 (s : Int) ((s : Int) - 1) = ((s &&& (s - 1) : Nat) : Int) := by
  rw [show (s : Int) - 1 = ((s - 1 : Nat) : Int) by omega]
  exact bits_and_u64_nat s (s - 1) (by omega) (by omega)
set_option maxRecDepth 100000 in
set_option maxHeartbeats 800000 in
theorem list_any (s : Nat) (hs : s < 1024) (w : World) (hT : GT w) (h1 : 1 < w.heap.size) : Calls Tryz.prog 46 #[.int .u64 (s : Int)] w (ListPost (Sh.bits s) w) := by
  obtain ⟨i0, hi, hz0, hz1, hz2⟩ := info_parts Tryz.info3'
  have HT := Lib.hid hT
  have HI := Lib.hid (And.intro hi (And.intro hz0 (And.intro hz1 hz2)))
  clear hT hi hz0 hz1 hz2
  unfold ListPost
  generalize hB : Sh.bits s = B
  have HB := Lib.hid hB
  clear hB
  go_enter Tryz.func46, Tryz.ntmps46
  go_wp2_with fail
  go_loopw [0, 2] (fun x v wr => ∃ (s1 : Nat) (pre : List Nat), s1 < 1024 ∧ x = .int .u64 (s1 : Int) ∧ Hid (B = pre ++ Sh.bits s1 ∧ OwnN wr w.heap.size v pre ∧ Below w.heap.size w wr)) (fun x _ _ => (intOf x).toNat)
  case atStart => exact ⟨s, [], hs, rfl, HB.out.symm, ⟨rfl, .inl ⟨rfl, rfl⟩⟩, Below.refl _ _⟩
  case round =>
    obtain ⟨s1, pre, hs1, rfl, H⟩ := hrel
    by_cases h0 : 0 < s1
    · have C := Lib.hid (fun W (hW : Below w.heap.size w W) => tz_any s1 h0 hs1 W (HT.out.below hW h1))
      have hb := Sh.bits_step h0 hs1
      have HS := Lib.hid hb
      have hlen : pre.length ≤ 9 := by
        have h2 := Sh.bits_len s
        rw [HB.out, H.out.1, hb] at h2
        simp at h2; omega
      have b1 : ((s1 : Int) == 0) = false := by simp; omega
      have b2 : ((s1 : Int) != 0) = true := by simp; omega
      have ea := and_sub s1 hs1 h0
      have ew : IntKind.u64.wrap ((s1 : Int) - 1) = (s1 : Int) - 1 := IntWalk.u64_in _ (by omega)
      have hlt : s1 &&& (s1 - 1) ≤ s1 - 1 := Nat.and_le_right
      clear hb
      go_wp2_with (first
        | (go_at_call 78; (with_reducible refine (C.out _ H.out.2.2).mono ?_); rintro e w' ⟨rfl, rfl⟩)
        | (at_builtin; refine wpList_append_own _ rfl _ _ 41 rfl w.heap.size 3 i0 (.int .i64 0) 1 8 Tryz.underlying41 HI.out.1 HI.out.2.1 HI.out.2.2.1 HI.out.2.2.2 rfl (by decide) _ _ _ rfl (H.out.2.1.alloc _) ⟨wr.heap.size, 0, none⟩ 1 1 [.int .i64 ((Lib.ctz 64 s1 : Nat) : Int)] rfl rfl (news_one' ((Blk.new wr #[.int .i64 ((Lib.ctz 64 s1 : Nat) : Int)] 3).cell 0)) (by simp [Value.oneCell']) (by unfold maxLen; omega) (by omega) (by have := H.out.2.2.size; simp; omega) ?_; intro v' w1 hown' hgrow _; have HO := Lib.hid hown'; have HG := Lib.hid (((H.out.2.2.alloc H.out.2.2.size _).grown hgrow (by have := H.out.2.2.size; simp; omega) (fun r e => (H.out.2.1.lt r e).1))); clear hown' hgrow))
      go_roundw
      case rel =>
        refine ⟨s1 &&& (s1 - 1), pre ++ [Lib.ctz 64 s1], by omega, rfl, ?_, ?_, HG.out⟩
        · rw [H.out.1, HS.out]; simp
        · have h2 := HO.out
          unfold OwnN
          rw [List.length_append]
          simpa [natV] using h2
      case measure => simp [intOf]; omega
    · obtain rfl : s1 = 0 := by omega
      go_wp2_with fail
      go_ret
      refine ⟨_, rfl, ?_, H.out.2.2⟩
      rw [H.out.1, Sh.bits_zero, List.append_nil]
      exact H.out.2.1
end Go.Proofs.YtdfebccmjbocjaaGreatDoor
