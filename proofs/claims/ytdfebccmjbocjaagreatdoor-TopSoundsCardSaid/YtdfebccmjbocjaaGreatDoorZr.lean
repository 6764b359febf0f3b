/- sheet: the iterator over the groups of a set, walked. -/
import Derived.Test.YtdfebccmjbocjaaGreatDoorZq
set_option linter.unusedVariables false
set_option linter.unusedSimpArgs false
namespace Go.Proofs.YtdfebccmjbocjaaGreatDoor
open Go.RowKit Go.Shelf
attribute [local go_sem] Oper.semAt_some
set_option maxRecDepth 100000 in
set_option maxHeartbeats 8000000 in
theorem groups_stops (g Bs Bp s : Nat) (one : Nat → Bool) (w : World) (hs : s < 1024) (h1 : Bs ≠ g) (h2 : Bp ≠ g) (hG : GR w g Bs Bp s one) (N : Nat) :
    SeqStopsK Fence.wide N Tryz.prog 143 #[.pointer (some ⟨Bs, 0, none⟩), .pointer (some ⟨Bp, 0, none⟩)] (fun t : GEl one s => #[.int .u64 (t.1 : Int)]) (KpG g) (fun ys => ys.map (·.1) = gSeq one s) (fun _ => True) 1025 w := fun l J Jx W hW hJ _ hY h0 => by
  have hG0 := hG.below hW
  have JB : ∀ pre A B, J pre A → Below A.heap.size A B → J pre B := fun pre A B h hb => hJ pre A B none h (grownBy_below hb none) (fun r e => by cases e)
  have HY := Lib.hid hY
  have HJB := Lib.hid JB
  have HE := Lib.hid (And.intro h1 h2)
  have HG0 := Lib.hid hG0
  have HJ0 := Lib.hid h0
  have e0 := low_key s hs
  obtain ⟨l1, l2, l3⟩ := low_le s hs
  have e2 := andNot_nat s (Sh.low s) hs (by omega) l2
  obtain ⟨f, hf⟩ : ∃ f, f = Sh.low s := ⟨_, rfl⟩
  obtain ⟨r, hr⟩ : ∃ r, r = s ^^^ Sh.low s := ⟨_, rfl⟩
  rw [← hf] at e0
  rw [← hr, ← hf] at e2
  have hf1 : f < 1024 := by omega
  have hr1 : r < 1024 := by unfold restOf at l3; omega
  have k1 := hG0.bs.c1.1
  have k2 := hG0.bp.c1.1
  have HF := Lib.hid hf
  have HR := Lib.hid hr
  have HL := Lib.hid (gSeq_len one s)
  have HM := Lib.hid (fun t (ht : t ∈ gSeq one s) => gSeq_lt hs ht)
  clear hY JB h1 h2 hG0 h0 hJ hW hG hf hr l1 l2 l3
  refine callsIn_of_wp Tryz.func143 rfl trivial ?_ rfl
  simp only [Tryz.ntmps143, List.size_toArray, List.length_cons, List.length_nil, Nat.reduceAdd, Nat.reduceSub, Array.replicate_succ, Array.replicate_zero, List.push_toArray, List.append_toArray, List.nil_append, List.cons_append]
  gi_wp2
  clear e0 e2 k1 k2
  gi_loopw [6] (fun v wr => ∃ (sub k : Nat) (pre : List (GEl one s)), sub < k ∧ sub < 1024 ∧ v = .int .u64 (sub : Int) ∧ Hid (sub &&& r = sub ∧ pre.map (·.1) ++ gFilt one f (subsF r k sub) = gSeq one s ∧ J pre wr ∧ GR wr g Bs Bp s one))
    (fun v _ => (intOf v).toNat)
  case atStart =>
    refine ⟨r, 1025, [], by omega, hr1, rfl, Nat.and_self _, ?_, HJ0.out, HG0.out⟩
    rw [HR.out, HF.out]; rfl
  case round =>
    obtain ⟨sub, k, pre, hk, hsub, rfl, HP⟩ := hrel
    clear HJ0 HG0
    have hor : sub ||| f < 1024 := by
      have := Nat.or_lt_two_pow (n := 10) (show sub < 2 ^ 10 by omega) (show f < 2 ^ 10 by omega)
      omega
    have HO := Lib.hid (HP.out.2.2.2.cell hor)
    have c2 := HP.out.2.2.2.bp.c1.1
    have lg := HP.out.2.2.2.lt
    have eo : bits BinOp.or IntKind.u64 (sub : Int) (f : Int) = ((sub ||| f : Nat) : Int) := bits_or_u64_nat sub f (by omega) (by omega)
    have o0 : (0 : Int) ≤ ((sub ||| f : Nat) : Int) := by omega
    have o1 : ((sub ||| f : Nat) : Int) < 1024 := by omega
    have HST := Lib.hid (subsF_step r k sub hk)
    have c1 := HO.out
    have hpl : pre.length + (gFilt one f (subsF r k sub)).length ≤ 1025 := by
      have h := congrArg List.length HP.out.2.1
      rw [List.length_append, List.length_map] at h
      have := HL.out
      omega
    have HPL := Lib.hid hpl
    clear hpl
    by_cases hz : sub = 0
    · have bz : ((sub : Int) == 0) = true := by simp; omega
      have HZ := Lib.hid hz
      clear hz
      cases hone : one (sub ||| f) with
      | false =>
        rw [hone] at c1
        have HST2 := Lib.hid (show pre.map (·.1) = gSeq one s by
          have h := HP.out.2.1
          rw [HST.out, gFilt_cons, hone, if_pos HZ.out] at h
          simpa [gFilt] using h)
        clear hone
        gi_wp2
        refine ⟨fun _ h => (by cases h), ?_⟩
        gi_wp2
        refine bodyPost_ret (results_none rfl _ _ _) rfl ?_
        exact ⟨⟨_, rfl⟩, .inl ⟨pre, HST2.out, HP.out.2.2.1⟩⟩
      | true =>
        rw [hone] at c1
        have hmem : (sub ||| f) ∈ gSeq one s := by
          rw [← HP.out.2.1, HST.out, gFilt_cons, hone]; simp
        have HST2 := Lib.hid (show (pre ++ [(⟨sub ||| f, hmem⟩ : GEl one s)]).map (·.1) = gSeq one s by
          have h := HP.out.2.1
          rw [HST.out, gFilt_cons, hone, if_pos HZ.out] at h
          rw [List.map_append]; simpa [gFilt] using h)
        have hlt : pre.length < 1025 := by
          have h := HPL.out
          rw [HST.out, gFilt_cons, hone, if_pos HZ.out] at h
          simp [gFilt] at h; omega
        have HLT := Lib.hid hlt
        clear hone hlt
        obtain ⟨fn, tmps, assign, body, hy, hR⟩ := HY.out pre ⟨sub ||| f, hmem⟩ _ HP.out.2.2.1 HLT.out
        dsimp only at hy
        gi_wp2
        refine ⟨fun h => (by cases h), hR.mono ?_⟩
        rintro e W3 (⟨rfl, hJ3, hk3⟩ | ⟨rfl, hJx3⟩)
        · have HJ3 := Lib.hid hJ3
          clear hk3 hJ3 hR hy
          gi_wp2
          refine bodyPost_ret (results_none rfl _ _ _) rfl ?_
          exact ⟨⟨_, rfl⟩, .inl ⟨_, HST2.out, HJ3.out⟩⟩
        · have HJ3 := Lib.hid hJx3
          clear hJx3 hR hy
          gi_wp2
          refine bodyPost_ret (results_none rfl _ _ _) rfl ?_
          exact ⟨⟨_, rfl⟩, .inr ⟨_, trivial, HJ3.out⟩⟩
    · have ew : IntKind.u64.wrap ((sub : Int) - 1) = (sub : Int) - 1 := IntWalk.u64_in _ (by omega)
      have ea : bits BinOp.and IntKind.u64 ((sub : Int) - 1) (r : Int) = (((sub - 1) &&& r : Nat) : Int) := by
        rw [show (sub : Int) - 1 = ((sub - 1 : Nat) : Int) by omega]; exact bits_and_u64_nat (sub - 1) r (by omega) (by omega)
      have hnx : (sub - 1) &&& r ≤ sub - 1 := Nat.and_le_left
      have bz : ((sub : Int) == 0) = false := by simp; omega
      cases hone : one (sub ||| f) with
      | false =>
        rw [hone] at c1
        have HST2 := Lib.hid (show pre.map (·.1) ++ gFilt one f (subsF r (k - 1) ((sub - 1) &&& r)) = gSeq one s by
          have h := HP.out.2.1
          rw [HST.out, gFilt_cons, hone, if_neg hz] at h
          simpa using h)
        clear hone
        gi_wp2
        refine ⟨fun _ h => (by cases h), ?_⟩
        gi_wp2
        go_roundw
        case rel => exact ⟨(sub - 1) &&& r, k - 1, pre, by omega, by omega, rfl, by rw [Nat.and_assoc, Nat.and_self], HST2.out, HP.out.2.2⟩
        case measure => simp [intOf]; omega
      | true =>
        rw [hone] at c1
        have hmem : (sub ||| f) ∈ gSeq one s := by
          rw [← HP.out.2.1, HST.out, gFilt_cons, hone]; simp
        have HST2 := Lib.hid (show (pre ++ [(⟨sub ||| f, hmem⟩ : GEl one s)]).map (·.1) ++ gFilt one f (subsF r (k - 1) ((sub - 1) &&& r)) = gSeq one s by
          have h := HP.out.2.1
          rw [HST.out, gFilt_cons, hone, if_neg hz] at h
          rw [List.map_append]; simpa using h)
        have hlt : pre.length < 1025 := by
          have h := HPL.out
          rw [HST.out, gFilt_cons, hone] at h
          simp at h; omega
        have HLT := Lib.hid hlt
        clear hone hlt
        obtain ⟨fn, tmps, assign, body, hy, hR⟩ := HY.out pre ⟨sub ||| f, hmem⟩ _ HP.out.2.2.1 HLT.out
        dsimp only at hy
        gi_wp2
        refine ⟨fun h => (by cases h), hR.mono ?_⟩
        rintro e W3 (⟨rfl, hJ3, hk3⟩ | ⟨rfl, hJx3⟩)
        · have HJ3 := Lib.hid hJ3
          have HK3 := Lib.hid hk3
          clear hk3 hJ3 hR hy
          gi_wp2
          go_roundw
          case rel => exact ⟨(sub - 1) &&& r, k - 1, _, by omega, by omega, rfl, by rw [Nat.and_assoc, Nat.and_self], HST2.out, HJ3.out, HP.out.2.2.2.kept HK3.out HE.out.1 HE.out.2⟩
          case measure => simp [intOf]; omega
        · have HJ3 := Lib.hid hJx3
          clear hJx3 hR hy
          gi_wp2
          refine bodyPost_ret (results_none rfl _ _ _) rfl ?_
          exact ⟨⟨_, rfl⟩, .inr ⟨_, trivial, HJ3.out⟩⟩
end Go.Proofs.YtdfebccmjbocjaaGreatDoor
