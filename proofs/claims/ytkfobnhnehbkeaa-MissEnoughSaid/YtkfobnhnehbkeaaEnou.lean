/- The walk of the statement on large enough samples. -/
import Derived.Test.YtkfobnhnehbkeaaSuff
namespace Go.Proofs.Ytkfobnhnehbkeaa
open Go.RowKit Go.Shelf

set_option maxRecDepth 100000 in
set_option maxHeartbeats 2000000 in
theorem MissEnough_range (L M u n d : Int) (w : World) (h : enoB L M u n d = false) : Calls Try.prog 6 #[.int .i64 L, .int .i64 M, .int .i64 u, fracV n d] w fun e w' => e = .returned (.bool true) ∧ Below w.heap.size w w' := by
  have C37 := Lib.hid (fun w => Enough_range L M u n d w h)
  have C38 := Lib.hid (fun w => rPersons_any L M w)
  have C23 := Lib.hid (fun w => In_any u 0 M w)
  have C33 := Lib.hid (fun w => rIsLevel_any n d w)
  have s0 := (KS.start w).new #[.int .i64 n, .int .i64 d] 36
  obtain ⟨k0, k1, _⟩ := (s0.blkAt 0 rfl).c2
  unfold enoB at h
  have S0 := Lib.hid s0
  clear s0
  cases h1 : perB L M with
  | false =>
    rw [h1] at C38
    clear h h1
    go_enter Try.func6, Try.ntmps6
    go_wp2_with fail
    refine (part_any _ _ _).mono ?_
    rintro e w1 ⟨rfl, h1⟩
    have s1 := S0.out.below h1
    have S1 := Lib.hid s1
    clear h1 s1 k0 k1
    go_wp2_with fail
    refine (C37.out _).mono ?_
    rintro e w2 ⟨rfl, h2⟩
    have s2 := S1.out.below h2
    obtain ⟨k0, k1, _⟩ := (s2.blkAt 0 rfl).c2
    have S2 := Lib.hid s2
    clear h2 s2
    go_wp2_with (first | (go_at_call 38; (with_reducible refine (C38.out _).mono ?_); rintro e w' ⟨rfl, rfl⟩) | (go_at_call 24; (with_reducible refine (awake_any _).mono ?_); rintro e w4 ⟨rfl, h4⟩; have S4 := Lib.hid (S2.out.below h4); clear h4))
    go_ret
    exact ⟨rfl, S4.out.bel⟩
  | true =>
    rw [h1] at C38
    cases h2 : inB u 0 M with
    | false =>
      rw [h2] at C23
      clear h h1 h2
      go_enter Try.func6, Try.ntmps6
      go_wp2_with fail
      refine (part_any _ _ _).mono ?_
      rintro e w1 ⟨rfl, h1⟩
      have s1 := S0.out.below h1
      have S1 := Lib.hid s1
      clear h1 s1 k0 k1
      go_wp2_with fail
      refine (C37.out _).mono ?_
      rintro e w2 ⟨rfl, h2⟩
      have s2 := S1.out.below h2
      obtain ⟨k0, k1, _⟩ := (s2.blkAt 0 rfl).c2
      have S2 := Lib.hid s2
      clear h2 s2
      go_wp2_with (first | (go_at_call 38; (with_reducible refine (C38.out _).mono ?_); rintro e w' ⟨rfl, rfl⟩) | (go_at_call 23; (with_reducible refine (C23.out _).mono ?_); rintro e w' ⟨rfl, rfl⟩) | (go_at_call 24; (with_reducible refine (awake_any _).mono ?_); rintro e w4 ⟨rfl, h4⟩; have S4 := Lib.hid (S2.out.below h4); clear h4))
      go_ret
      exact ⟨rfl, S4.out.bel⟩
    | true =>
      have h3 : levB n d = false := by simpa [h1, h2] using h
      rw [h2] at C23
      rw [h3] at C33
      clear h h1 h2 h3
      go_enter Try.func6, Try.ntmps6
      go_wp2_with fail
      refine (part_any _ _ _).mono ?_
      rintro e w1 ⟨rfl, h1⟩
      have s1 := S0.out.below h1
      have S1 := Lib.hid s1
      clear h1 s1 k0 k1
      go_wp2_with fail
      refine (C37.out _).mono ?_
      rintro e w2 ⟨rfl, h2⟩
      have s2 := S1.out.below h2
      obtain ⟨k0, k1, _⟩ := (s2.blkAt 0 rfl).c2
      have S2 := Lib.hid s2
      clear h2 s2
      go_wp2_with (first | (go_at_call 38; (with_reducible refine (C38.out _).mono ?_); rintro e w' ⟨rfl, rfl⟩) | (go_at_call 23; (with_reducible refine (C23.out _).mono ?_); rintro e w' ⟨rfl, rfl⟩) | (go_at_call 33; (with_reducible refine (C33.out _).mono ?_); rintro e w3 ⟨rfl, h3⟩; have S3 := Lib.hid (S2.out.below h3); clear h3) | (go_at_call 24; (with_reducible refine (awake_any _).mono ?_); rintro e w4 ⟨rfl, h4⟩; have S4 := Lib.hid (S3.out.below h4); clear h4))
      go_ret
      exact ⟨rfl, S4.out.bel⟩

set_option maxRecDepth 100000 in
set_option maxHeartbeats 2000000 in
theorem MissEnough_ok (l M u n d : Nat) (w : World) (hl : l + M ≤ 50) (hu : u ≤ M) (hd1 : 1 ≤ d) (hd : d ≤ 1000) (hn : n ≤ d) :
    Calls Try.prog 6 #[.int .i64 l, .int .i64 M, .int .i64 u, fracV n d] w fun e w' => e = .returned (.bool true) ∧ Below w.heap.size w w' := by
  have C38 := Lib.hid (fun w => rPersons_any l M w)
  have C23 := Lib.hid (fun w => In_any u 0 M w)
  have C33 := Lib.hid (fun w => rIsLevel_any n d w)
  rw [show perB (l : Int) (M : Int) = true by simp [perB, inB]; omega] at C38
  rw [show inB (u : Int) 0 (M : Int) = true by simp [inB]; omega] at C23
  rw [show levB (n : Int) (d : Int) = true by simp [levB, inB]; omega] at C33
  have C39 := Lib.hid (fun (s : Nat) (hs : s ≤ l) (w : World) => rSuff_any l M u s n d w hl hs (by omega) hd1 hd hn)
  obtain ⟨v, r, hvr, C37⟩ : ∃ v r : Nat, (match Mis.first (sufB l M u n d) 0 (l + 1) with | some s => v = s ∧ r = 0 | none => v = 0 ∧ r = 9) ∧ Hid (∀ w, Calls Try.prog 37 #[.int .i64 l, .int .i64 M, .int .i64 u, fracV n d] w fun e w' => e = .returned (.tuple #[.int .i64 v, .int .i64 r]) ∧ Below w.heap.size w w') := by
    cases hf : Mis.first (sufB l M u n d) 0 (l + 1) with
    | none =>
      refine ⟨0, 9, ⟨rfl, rfl⟩, Lib.hid fun w => (Enough_ok l M u n d w hl hu hd1 hd hn).mono ?_⟩
      rintro e w' ⟨⟨v, r, rfl, h⟩, hb⟩
      rw [hf] at h
      obtain ⟨rfl, rfl⟩ := h
      exact ⟨rfl, hb⟩
    | some s =>
      refine ⟨s, 0, ⟨rfl, rfl⟩, Lib.hid fun w => (Enough_ok l M u n d w hl hu hd1 hd hn).mono ?_⟩
      rintro e w' ⟨⟨v, r, rfl, h⟩, hb⟩
      rw [hf] at h
      obtain ⟨rfl, rfl⟩ := h
      exact ⟨rfl, hb⟩
  have s0 := (KS.start w).new #[.int .i64 n, .int .i64 d] 36
  obtain ⟨k0, k1, _⟩ := (s0.blkAt 0 rfl).c2
  have S0 := Lib.hid s0
  have HF := Lib.hid hvr
  have hl50 : l ≤ 50 := by omega
  clear s0 hu hd1 hd hn hvr hl
  go_enter Try.func6, Try.ntmps6
  go_wp2_with fail
  refine (part_any _ _ _).mono ?_
  rintro e w1 ⟨rfl, h1⟩
  have s1 := S0.out.below h1
  have S1 := Lib.hid s1
  clear h1 s1 k0 k1
  go_wp2_with fail
  refine (C37.out _).mono ?_
  rintro e w2 ⟨rfl, h2⟩
  have s2 := S1.out.below h2
  obtain ⟨k0, k1, _⟩ := (s2.blkAt 0 rfl).c2
  have S2 := Lib.hid s2
  clear h2 s2
  go_wp2_with (first | (go_at_call 38; (with_reducible refine (C38.out _).mono ?_); rintro e w' ⟨rfl, rfl⟩) | (go_at_call 23; (with_reducible refine (C23.out _).mono ?_); rintro e w' ⟨rfl, rfl⟩) | (go_at_call 33; (with_reducible refine (C33.out _).mono ?_); rintro e w3 ⟨rfl, h3⟩; have S3 := Lib.hid (S2.out.below h3); clear h3))
  clear k0 k1
  go_loopw [11] (fun x wr => ∃ k : Nat, k ≤ l + 1 ∧ x = .int .i64 k ∧ (∀ t, t < k → sufB l M u n d t = false) ∧ KS w [(w.heap.size, #[.int .i64 n, .int .i64 d], 36)] wr) (fun x _ => l + 1 - (intOf x).toNat)
  case atStart => exact ⟨0, Nat.zero_le _, rfl, fun t h => by omega, S3.out⟩
  case round =>
    obtain ⟨k, hk, rfl, hno, hS⟩ := hrel
    have HN := Lib.hid hno
    obtain ⟨k0, k1, _⟩ := (hS.blkAt 0 rfl).c2
    have S4 := Lib.hid hS
    clear hno hS
    by_cases hlt : k ≤ l
    · have D39 := Lib.hid (fun w => C39.out k hlt w)
      cases hx : sufB l M u n d k with
      | true =>
        have hf := HF.out
        rw [(Mis.first_some _ _ _ k).2 ⟨Nat.zero_le _, by omega, hx, fun t _ h => HN.out t h⟩] at hf
        obtain ⟨rfl, rfl⟩ := hf
        rw [hx] at D39
        clear hx
        go_wp2_with (first | (go_at_call 39; (with_reducible refine (D39.out _).mono ?_); rintro e w5 ⟨rfl, h5⟩; have S5 := Lib.hid (S4.out.below h5); clear h5) | (go_at_call 24; (with_reducible refine (awake_any _).mono ?_); rintro e w6 ⟨rfl, h6⟩; have S6 := Lib.hid (S5.out.below h6); clear h6))
        go_ret
        exact ⟨rfl, S6.out.bel⟩
      | false =>
        rw [hx] at D39
        have HX := Lib.hid hx
        clear hx
        go_wp2_with (first | (go_at_call 39; (with_reducible refine (D39.out _).mono ?_); rintro e w5 ⟨rfl, h5⟩; have S5 := Lib.hid (S4.out.below h5); clear h5))
        go_roundw
        case rel =>
          refine ⟨k + 1, by omega, by go_num, fun t h => ?_, S5.out⟩
          rcases Nat.lt_succ_iff_lt_or_eq.1 h with h | rfl
          · exact HN.out t h
          · exact HX.out
        case measure => simp [intOf]; omega
    · obtain rfl : k = l + 1 := by omega
      have hf := HF.out
      rw [(Mis.first_none _ _ _).2 (fun t _ h => HN.out t (by omega))] at hf
      obtain ⟨rfl, rfl⟩ := hf
      go_wp2_with (first | (go_at_call 24; (with_reducible refine (awake_any _).mono ?_); rintro e w6 ⟨rfl, h6⟩; have S6 := Lib.hid (S4.out.below h6); clear h6))
      go_ret
      exact ⟨rfl, S6.out.bel⟩

theorem MissEnough_walk (L M u n d : Int) (w : World) : Calls Try.prog 6 #[.int .i64 L, .int .i64 M, .int .i64 u, fracV n d] w fun e w' => e = .returned (.bool true) ∧ Below w.heap.size w w' := by
  cases h : enoB L M u n d with
  | false => exact MissEnough_range L M u n d w h
  | true =>
    unfold enoB at h
    rw [Bool.and_eq_true, Bool.and_eq_true] at h
    obtain ⟨⟨h1, h2⟩, h3⟩ := h
    unfold perB at h1
    rw [Bool.and_eq_true] at h1
    obtain ⟨h4, h5⟩ := h1
    have h4 := inB_iff.1 h4
    have h5 := inB_iff.1 h5
    have h2 := inB_iff.1 h2
    obtain ⟨e1, e2, e3, e4, e5⟩ := lev_nat h3
    have e6 : L = (L.toNat : Int) := by omega
    have e7 : M = (M.toNat : Int) := by omega
    have e8 : u = (u.toNat : Int) := by omega
    rw [e1, e2, e6, e7, e8]
    exact MissEnough_ok _ _ _ _ _ w (by omega) (by omega) e3 e4 e5
end Go.Proofs.Ytkfobnhnehbkeaa
