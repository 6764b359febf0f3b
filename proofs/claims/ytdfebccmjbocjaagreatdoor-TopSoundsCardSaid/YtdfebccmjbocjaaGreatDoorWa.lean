/- tithingref02: In, Fits, Sums. -/
import Derived.Test.YtdfebccmjbocjaaGreatDoorYk
set_option linter.unusedVariables false
set_option linter.unusedSimpArgs false
namespace Go.Proofs.YtdfebccmjbocjaaGreatDoor
open Go.RowKit Go.Shelf
theorem In80_any (n low high : Int) (w : World) : Calls Tryz.prog 80 #[.int .i64 n, .int .i64 low, .int .i64 high] w fun e w' => e = .returned (.bool (inB n low high)) ∧ w = w' := by
  unfold inB
  by_cases h : low ≤ n
  · have h1 : decide (low ≤ n) = true := by simp [h]
    rw [h1]
    go_enter Tryz.func80, Tryz.ntmps80
    go_wp2
    go_ret
    exact ⟨rfl, rfl⟩
  · have h1 : decide (low ≤ n) = false := by simp [h]
    rw [h1]
    go_enter Tryz.func80, Tryz.ntmps80
    go_wp2
    go_ret
    exact ⟨rfl, rfl⟩
theorem inB_nat (n lo hi : Nat) : inB (n : Int) (lo : Int) (hi : Int) = (decide (lo ≤ n) && decide (n ≤ hi)) := by
  unfold inB
  congr 1 <;> (rw [decide_eq_decide]; omega)
theorem ov_succ (l1 l2 h2 a : Nat) (h : l1 ≤ a) : decide (max l1 l2 < a + 1 ∧ max l1 l2 ≤ h2) = (decide (max l1 l2 < a ∧ max l1 l2 ≤ h2) || inB (a : Int) (l2 : Int) (h2 : Int)) := by
  rw [inB_nat, Bool.eq_iff_iff]
  simp only [decide_eq_true_eq, Bool.or_eq_true, Bool.and_eq_true]
  omega
set_option maxRecDepth 100000 in
set_option maxHeartbeats 3200000 in
theorem Fits_ok (a b : Ent) (hf : fitE a b = true) (ha : a.lo ≤ a.hi ∧ a.hi ≤ 120) (hb : b.hi ≤ 120) (w : World) : Calls Tryz.prog 81 #[entV a, entV b] w fun e w' => e = .returned (.bool true) ∧ Below w.heap.size w w' := by
  obtain ⟨a0, ax, ak, al, ah⟩ := a
  obtain ⟨b0, bx, bk, bl, bh⟩ := b
  unfold fitE at hf
  simp only [Bool.and_eq_true, Bool.not_eq_true', decide_eq_false_iff_not, decide_eq_true_eq] at hf
  simp only at ha hb
  obtain ⟨f1, f2, f3, f4⟩ := hf
  obtain ⟨ha1, ha2⟩ := ha
  have t1 : ((a0 : Int) != (b0 : Int)) = true := by simp; omega
  have t2 : ((ax : Int) == (bx : Int)) = true := by simp; omega
  have t3 : ((ak : Int) == (bk : Int)) = true := by simp; omega
  have s0 := ((KS.start w).new (entA ⟨a0, ax, ak, al, ah⟩) 47).new (entA ⟨b0, bx, bk, bl, bh⟩) 47
  simp only [World.size_alloc] at s0
  have B0 := s0.blkAt 0 rfl
  have B1 := s0.blkAt 1 rfl
  have c0 := B1.cell 0
  have c1 := B1.cell 1
  have c2 := B1.cell 2
  have c3 := B1.cell 3
  have c4 := B1.cell 4
  have cl := B1.lt
  have d0 := B0.cell 0
  have d1 := B0.cell 1
  have d2 := B0.cell 2
  have d3 := B0.cell 3
  have d4 := B0.cell 4
  have dl := B0.lt
  have HB := Lib.hid s0.bel
  have CI := Lib.hid (fun (n : Nat) W => In80_any (n : Int) (bl : Int) (bh : Int) W)
  have HO := Lib.hid (fun n (h : al ≤ n) => ov_succ al bl bh n h)
  have H4 := Lib.hid f4
  clear s0 B0 B1 f1 f2 f3 f4
  go_enter Tryz.func81, Tryz.ntmps81
  go_wp2_with fail
  go_loopw [6, 5] (fun x v wr => ∃ n : Nat, (al ≤ n ∧ n ≤ ah + 1) ∧ x = .int .i64 (n : Int) ∧ v = .bool (decide (max al bl < n ∧ max al bl ≤ bh)) ∧ wr = ((w.alloc (.cells (entA ⟨a0, ax, ak, al, ah⟩) 47)).alloc (.cells (entA ⟨b0, bx, bk, bl, bh⟩) 47))) (fun x _ _ => ah + 1 - (intOf x).toNat)
  case atStart => exact ⟨al, ⟨Nat.le_refl _, by omega⟩, rfl, by rw [decide_eq_false (by omega)], rfl⟩
  case round =>
    obtain ⟨n, ⟨hn1, hn2⟩, rfl, rfl, rfl⟩ := hrel
    by_cases hlt : n ≤ ah
    · have b1 : (n : Int) ≤ (ah : Int) := by omega
      have HS := Lib.hid (HO.out n hn1)
      have C := Lib.hid (CI.out n)
      obtain ⟨f, hf⟩ : ∃ f, f = decide (max al bl < n ∧ max al bl ≤ bh) := ⟨_, rfl⟩
      obtain ⟨g, hg⟩ : ∃ g, g = inB (n : Int) (bl : Int) (bh : Int) := ⟨_, rfl⟩
      rw [← hf, ← hg] at HS
      rw [← hg] at C
      rw [← hf]
      clear hf hg
      cases f with
      | true =>
        go_wp2_with fail
        go_roundw
        case rel => refine ⟨n + 1, ⟨by omega, by omega⟩, by go_num, ?_⟩; simp [HS.out]
        case measure => simp [intOf]; omega
      | false =>
        go_wp2_with (go_at_call 80; (with_reducible refine (C.out _).mono ?_); rintro e w' ⟨rfl, rfl⟩)
        go_roundw
        case rel => refine ⟨n + 1, ⟨by omega, by omega⟩, by go_num, ?_⟩; simp [HS.out]
        case measure => simp [intOf]; omega
    · have b1 : ¬ (n : Int) ≤ (ah : Int) := by omega
      have e1 : decide (max al bl < n ∧ max al bl ≤ bh) = true := decide_eq_true (by have := H4.out; omega)
      rw [e1]
      go_wp2_with fail
      go_ret
      exact ⟨rfl, HB.out⟩
set_option maxRecDepth 100000 in
set_option maxHeartbeats 3200000 in
theorem Sums_ok (e s a : Loc) (n0 n1 n2 ol oh nl nh P : Nat) (h1 : ol ≤ oh ∧ oh ≤ 100) (h2 : nl ≤ nh ∧ nh ≤ 200) (hP : P ≤ 10) (h3 : nl ≤ P + oh) (h4 : P + ol ≤ nh) (w : World) :
    Calls Tryz.prog 51 #[cenV (.slice e.a n0 e.c) (.slice s.a n1 s.c) (.slice a.a n2 a.c) (ol : Int) (oh : Int) (nl : Int) (nh : Int), .int .i64 (P : Int)] w fun e w' => e = .returned (.bool true) ∧ Below w.heap.size w w' := by
  have b0 := Blk.new w (cenA (.slice e.a n0 e.c) (.slice s.a n1 s.c) (.slice a.a n2 a.c) (ol : Int) (oh : Int) (nl : Int) (nh : Int)) 40
  obtain ⟨c0, c1, c2, c3, c4, c5, c6⟩ := b0.c7
  have cl := b0.lt
  have CI := Lib.hid (fun (z : Nat) W => In80_any (z : Int) (nl : Int) (nh : Int) W)
  obtain ⟨K, hK⟩ : ∃ K, K = max ol (nl - P) := ⟨_, rfl⟩
  have hK1 : ol ≤ K ∧ K ≤ oh ∧ nl ≤ K + P ∧ K + P ≤ nh ∧ (∀ k, ol ≤ k → k < K → k + P < nl) := ⟨by omega, by omega, by omega, by omega, fun k a b => by omega⟩
  have HK := Lib.hid hK1
  clear hK hK1 b0
  go_enter Tryz.func51, Tryz.ntmps51
  go_wp2_with fail
  go_loopw [5] (fun x wr => ∃ k : Nat, (ol ≤ k ∧ k ≤ K) ∧ x = .int .i64 (k : Int) ∧ wr = w.alloc (.cells (cenA (.slice e.a n0 e.c) (.slice s.a n1 s.c) (.slice a.a n2 a.c) (ol : Int) (oh : Int) (nl : Int) (nh : Int)) 40)) (fun x _ => K - (intOf x).toNat)
  case atStart => exact ⟨ol, ⟨Nat.le_refl _, HK.out.1⟩, rfl, rfl⟩
  case round =>
    obtain ⟨k, ⟨hk1, hk2⟩, rfl, rfl⟩ := hrel
    obtain ⟨q1, q2, q3, q4, q5⟩ := HK.out
    have b1 : (k : Int) ≤ (oh : Int) := by omega
    obtain ⟨z, hz⟩ : ∃ z, z = k + P := ⟨_, rfl⟩
    have sz : (k : Int) + (P : Int) = (z : Int) := by omega
    have C := Lib.hid (CI.out z)
    by_cases hlt : k < K
    · have e1 : inB (z : Int) (nl : Int) (nh : Int) = false := by
        rw [inB_nat, decide_eq_false (by have := q5 k hk1 hlt; omega)]; rfl
      rw [e1] at C
      clear q5 hz e1
      go_wp2_with (go_at_call 80; (with_reducible refine (C.out _).mono ?_); rintro e w' ⟨rfl, rfl⟩)
      go_roundw
      case rel => exact ⟨k + 1, ⟨by omega, by omega⟩, by go_num, trivial⟩
      case measure => simp [intOf]; omega
    · have e1 : inB (z : Int) (nl : Int) (nh : Int) = true := by
        rw [inB_nat, decide_eq_true (by omega), decide_eq_true (by omega)]; rfl
      rw [e1] at C
      clear q5 hz e1
      go_wp2_with (go_at_call 80; (with_reducible refine (C.out _).mono ?_); rintro e w' ⟨rfl, rfl⟩)
      go_ret
      exact ⟨rfl, (Below.refl _ _).alloc (Nat.le_refl _) _⟩
end Go.Proofs.YtdfebccmjbocjaaGreatDoor
