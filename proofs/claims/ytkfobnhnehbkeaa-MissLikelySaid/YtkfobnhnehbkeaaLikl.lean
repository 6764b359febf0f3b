/- The walk of the statement on likely numbers. -/
import Derived.Test.YtkfobnhnehbkeaaLk
namespace Go.Proofs.Ytkfobnhnehbkeaa
open Go.RowKit Go.Shelf
open Mis (ch sets tot sm low up lower)

/-- the likely ones of the first k -/
def dueK (l M s f k : Nat) : List Nat := (List.range k).filter (Mis.likely (numOf l s f) (denOf l s) (M + 1))
theorem dueK_all (l M s f : Nat) : dueK l M s f (M + 1) = dueOf l M s f := rfl
theorem dueK_yes {l M s f k : Nat} (h : Mis.likely (numOf l s f) (denOf l s) (M + 1) k = true) : dueK l M s f (k + 1) = dueK l M s f k ++ [k] := by
  unfold dueK; rw [List.range_succ, List.filter_append]; simp [h]
theorem dueK_no {l M s f k : Nat} (h : Mis.likely (numOf l s f) (denOf l s) (M + 1) k = false) : dueK l M s f (k + 1) = dueK l M s f k := by
  unfold dueK; rw [List.range_succ, List.filter_append]; simp [h]
theorem dueK_len (l M s f k : Nat) : (dueK l M s f k).length ≤ k := by unfold dueK; exact Nat.le_trans (List.length_filter_le _ _) (by simp)
/-- is u likely, against the first o? -/
def likB (l s f u o : Nat) : Bool := decide (0 < numOf l s f u) && (List.range o).all fun x => !lower (numOf l s f u) (denOf l s u) (numOf l s f x) (denOf l s x)
theorem likB_zero (l s f u : Nat) : likB l s f u 0 = decide (0 < numOf l s f u) := by simp [likB]
theorem likB_succ (l s f u o : Nat) : likB l s f u (o + 1) = (likB l s f u o && !lower (numOf l s f u) (denOf l s u) (numOf l s f o) (denOf l s o)) := by
  unfold likB; rw [List.range_succ, List.all_append]; simp [Bool.and_assoc]
theorem likB_all (l M s f u : Nat) : likB l s f u (M + 1) = Mis.likely (numOf l s f) (denOf l s) (M + 1) u := rfl

set_option maxRecDepth 100000 in
set_option maxHeartbeats 4000000 in
theorem MissLikely_arg (L M S F : Int) (w : World) (h : areaB L M S F = false) : Calls Try.prog 4 #[areaV L M S F] w fun e w' => e = .returned (.bool true) ∧ Below w.heap.size w w' := by
  have C28 := Lib.hid (fun w => Likely_arg L M S F w h)
  have C22 := Lib.hid (show ∀ w, Calls Try.prog 22 #[areaV L M S F] w fun e w' => e = .returned (.int .i64 1) ∧ Below w.heap.size w w' from fun w => by have := fault_any L M S F w; unfold faultI at this; rw [h] at this; exact this)
  clear h
  have s0 := (KS.start w).new #[.int .i64 L, .int .i64 M, .int .i64 S, .int .i64 F] 23
  obtain ⟨kb0_0, kb0_1, kb0_2, kb0_3⟩ := (s0.blkAt 0 rfl).c4
  have S0 := Lib.hid s0
  clear s0
  go_enter Try.func4, Try.ntmps4
  go_wp2_with fail
  refine (Area_any _ _ _ _ _).mono ?_
  rintro e w1 ⟨rfl, h1⟩
  clear kb0_0 kb0_1 kb0_2 kb0_3
  have s1 := S0.out.below h1
  obtain ⟨kb0_0, kb0_1, kb0_2, kb0_3⟩ := (s1.blkAt 0 rfl).c4
  have S1 := Lib.hid s1
  clear h1 s1
  go_wp2_with fail
  refine (C28.out _).mono ?_
  rintro e w2 ⟨rfl, h2⟩
  clear kb0_0 kb0_1 kb0_2 kb0_3
  have s2 := S1.out.below h2
  obtain ⟨kb0_0, kb0_1, kb0_2, kb0_3⟩ := (s2.blkAt 0 rfl).c4
  have S2 := Lib.hid s2
  clear h2 s2
  go_wp2_with fail
  refine (C22.out _).mono ?_
  rintro e w3 ⟨rfl, h3⟩
  clear kb0_0 kb0_1 kb0_2 kb0_3
  have s3 := S2.out.below h3
  obtain ⟨kb0_0, kb0_1, kb0_2, kb0_3⟩ := (s3.blkAt 0 rfl).c4
  have S3 := Lib.hid s3
  clear h3 s3
  go_wp2_with (first | (go_at_call 24; (with_reducible refine (awake_any _).mono ?_); rintro e w99 ⟨rfl, h99⟩; have S99 := Lib.hid (S3.out.below h99); clear h99))
  go_ret
  exact ⟨rfl, S99.out.bel⟩
set_option maxRecDepth 100000 in
set_option maxHeartbeats 16000000 in
theorem MissLikely_ok (l M s f : Nat) (w : World) (h : okA l M s f) : Calls Try.prog 4 #[areaV l M s f] w fun e w' => e = .returned (.bool true) ∧ Below w.heap.size w w' := by
  have C22 := Lib.hid (show ∀ w, Calls Try.prog 22 #[areaV l M s f] w fun e w' => e = .returned (.int .i64 0) ∧ Below w.heap.size w w' from fun w => by have := fault_any l M s f w; unfold faultI at this; rw [h.b] at this; exact this)
  obtain ⟨i0, hi, hz0, hz1, hz2⟩ := info_parts tInfo3
  have hM50 : M ≤ 50 := by obtain ⟨h1, _, _⟩ := h; omega
  have C27 := Lib.hid (fun (u : Nat) (hu : u ≤ M) (w : World) => rBetween_point h hu w)
  have C29 := Lib.hid (fun (u x : Nat) (hu : u ≤ M) (hx : x ≤ M) (w : World) => rBelow_any (numOf l s f u) (denOf l s u) (numOf l s f x) (denOf l s x) w (h.pos u) (h.pos x) (h.point hu) (h.big hu) (h.point hx) (h.big hx))
  have C28 := Lib.hid (fun w => Likely_ok l M s f w h.b h.1 h.2.1 h.2.2)
  have s0 := (KS.start w).new #[.int .i64 l, .int .i64 M, .int .i64 s, .int .i64 f] 23
  clear h
  obtain ⟨kb0_0, kb0_1, kb0_2, kb0_3⟩ := (s0.blkAt 0 rfl).c4
  have S0 := Lib.hid s0
  clear s0
  go_enter Try.func4, Try.ntmps4
  go_wp2_with fail
  refine (Area_any _ _ _ _ _).mono ?_
  rintro e w1 ⟨rfl, h1⟩
  clear kb0_0 kb0_1 kb0_2 kb0_3
  have s1 := S0.out.below h1
  obtain ⟨kb0_0, kb0_1, kb0_2, kb0_3⟩ := (s1.blkAt 0 rfl).c4
  have S1 := Lib.hid s1
  clear h1 s1
  go_wp2_with fail
  refine (C28.out _).mono ?_
  rintro e w2 ⟨lv, r, rfl, hl1, hl2, hl3, h2⟩
  have hrow := row_is (ys := intsL (dueOf l M s f)) (by rw [intsL_len, ← intsV_eq]; exact hl3)
  obtain ⟨la, lb, lc, hlv, hl4, hl5, hl6⟩ := hrow
  have s2 := S1.out.below h2
  clear kb0_0 kb0_1 kb0_2 kb0_3
  obtain ⟨kb0_0, kb0_1, kb0_2, kb0_3⟩ := (s2.blkAt 0 rfl).c4
  have S2 := Lib.hid s2
  have HL1 := Lib.hid hl1
  have HL2 := Lib.hid hl2
  have HLV := Lib.hid hlv
  have HL4 := Lib.hid hl4
  have HL5 := Lib.hid hl5
  have HL6 := Lib.hid hl6
  clear s2 h2 hl1 hl2 hl3 hlv hl4 hl5 hl6
  go_wp2_with fail
  refine (C22.out _).mono ?_
  rintro e w3 ⟨rfl, h3⟩
  have hLk : Lk w w3.heap.size (.slice none 0 0) [] lb (intsL (dueOf l M s f)) [(w.heap.size, #[.int .i64 l, .int .i64 M, .int .i64 s, .int .i64 f], 23)] w3 := by
    refine ⟨S2.out.below h3, World.ownsRow_nil _ _ _ _, ?_, fun hne => Nat.lt_of_lt_of_le (HL6.out hne) h3.size, Nat.le_refl _⟩
    by_cases hne : intsL (dueOf l M s f) = []
    · rw [hne]; intro i a h; simp at h
    · exact HL5.out.below h3 (HL6.out hne)
  obtain ⟨B2, hB2⟩ : ∃ B, B = w3.heap.size := ⟨_, rfl⟩
  rw [← hB2] at hLk
  have hwB : w.heap.size < B2 := by rw [hB2]; exact (S2.out.below h3).lt 0 rfl
  clear kb0_0 kb0_1 kb0_2 kb0_3 h3 hB2
  have HLk := Lib.hid hLk
  clear hLk
  go_wp2_with fail
  go_loopw [6, 7] (fun v x wr => ∃ u : Nat, u ≤ M + 1 ∧ x = .int .i64 (u : Int) ∧ Lk w B2 v (dueK l M s f u) lb (intsL (dueOf l M s f)) [(w.heap.size, #[.int .i64 l, .int .i64 M, .int .i64 s, .int .i64 f], 23)] wr) (fun _ x _ => M + 1 - (intOf x).toNat)
  case atStart => exact ⟨0, Nat.zero_le _, rfl, HLk.out⟩
  case round =>
    clear HLk
    obtain ⟨u, hu, rfl, hLk⟩ := hrel
    obtain ⟨k0, k1, k2, k3⟩ := (hLk.ks.blkAt 0 rfl).c4
    have HLk := Lib.hid hLk
    clear hLk
    by_cases hlt : u ≤ M
    · have D27 := Lib.hid (show ∀ w, Calls Try.prog 27 #[areaV l M s f, .int .i64 u, .int .i64 f, .int .i64 f] w fun e w' => e = .returned (fracV (numOf l s f u : Nat) (denOf l s u : Nat)) ∧ Below w.heap.size w w' from fun w => C27.out u hlt w)
      go_wp2_with fail
      refine (D27.out _).mono ?_
      rintro e w4 ⟨rfl, h4⟩
      have hLk4 := (HLk.out.below h4).new #[.int .i64 (numOf l s f u : Nat), .int .i64 (denOf l s u : Nat)] 36
      clear k0 k1 k2 k3 h4
      obtain ⟨k0, k1, k2, k3⟩ := (hLk4.ks.blkAt 1 rfl).c4
      obtain ⟨k4, k5, _⟩ := (hLk4.ks.blkAt 0 rfl).c2
      have HL4k := Lib.hid hLk4
      clear hLk4
      have hp : decide ((0 : Int) < (numOf l s f u : Nat)) = likB l s f u 0 := by rw [likB_zero, decide_eq_decide]; omega
      have hp2 : decide (0 < numOf l s f u) = likB l s f u 0 := (likB_zero l s f u).symm
      go_wp2_with fail
      clear k0 k1 k2 k3 k4 k5 hp hp2
      go_loopw [9, 10] (fun v9 x W => ∃ o : Nat, o ≤ M + 1 ∧ x = .int .i64 (o : Int) ∧ v9 = .bool (likB l s f u o) ∧ Lk w B2 u6 (dueK l M s f u) lb (intsL (dueOf l M s f)) [(w4.heap.size, #[.int .i64 (numOf l s f u : Nat), .int .i64 (denOf l s u : Nat)], 36), (w.heap.size, #[.int .i64 l, .int .i64 M, .int .i64 s, .int .i64 f], 23)] W) (fun _ x _ => M + 1 - (intOf x).toNat)
      case atStart => exact ⟨0, Nat.zero_le _, rfl, rfl, HL4k.out⟩
      case round =>
        clear HL4k HLk
        obtain ⟨o, ho, rfl, rfl, hLk⟩ := hrel
        by_cases hlo : o ≤ M
        · have hst := likB_succ l s f u o
          have E27 := Lib.hid (show ∀ w, Calls Try.prog 27 #[areaV l M s f, .int .i64 o, .int .i64 f, .int .i64 f] w fun e w' => e = .returned (fracV (numOf l s f o : Nat) (denOf l s o : Nat)) ∧ Below w.heap.size w w' from fun w => C27.out o hlo w)
          have E29 := Lib.hid (fun w => C29.out u o hlt hlo w)
          obtain ⟨BS, hBS⟩ : ∃ BS : List (Nat × Array Value × TypeId), BS = [(w4.heap.size, #[.int .i64 (numOf l s f u : Nat), .int .i64 (denOf l s u : Nat)], 36), (w.heap.size, #[.int .i64 l, .int .i64 M, .int .i64 s, .int .i64 f], 23)] := ⟨_, rfl⟩
          have hS : Lk w B2 u6 (dueK l M s f u) lb (intsL (dueOf l M s f)) BS wr := by rw [hBS]; exact hLk
          have K0_0 : ∀ W, Lk w B2 u6 (dueK l M s f u) lb (intsL (dueOf l M s f)) BS W → W.cell? ⟨w4.heap.size, 0, none⟩ = some (.int .i64 (numOf l s f u : Nat)) := fun W h => by rw [hBS] at h; exact (h.ks.blkAt 0 rfl).cell 0
          have K0_1 : ∀ W, Lk w B2 u6 (dueK l M s f u) lb (intsL (dueOf l M s f)) BS W → W.cell? ⟨w4.heap.size, 1, none⟩ = some (.int .i64 (denOf l s u : Nat)) := fun W h => by rw [hBS] at h; exact (h.ks.blkAt 0 rfl).cell 1
          have K1_0 : ∀ W, Lk w B2 u6 (dueK l M s f u) lb (intsL (dueOf l M s f)) BS W → W.cell? ⟨w.heap.size, 0, none⟩ = some (.int .i64 l) := fun W h => by rw [hBS] at h; exact (h.ks.blkAt 1 rfl).cell 0
          have K1_1 : ∀ W, Lk w B2 u6 (dueK l M s f u) lb (intsL (dueOf l M s f)) BS W → W.cell? ⟨w.heap.size, 1, none⟩ = some (.int .i64 M) := fun W h => by rw [hBS] at h; exact (h.ks.blkAt 1 rfl).cell 1
          have K1_2 : ∀ W, Lk w B2 u6 (dueK l M s f u) lb (intsL (dueOf l M s f)) BS W → W.cell? ⟨w.heap.size, 2, none⟩ = some (.int .i64 s) := fun W h => by rw [hBS] at h; exact (h.ks.blkAt 1 rfl).cell 2
          have K1_3 : ∀ W, Lk w B2 u6 (dueK l M s f u) lb (intsL (dueOf l M s f)) BS W → W.cell? ⟨w.heap.size, 3, none⟩ = some (.int .i64 f) := fun W h => by rw [hBS] at h; exact (h.ks.blkAt 1 rfl).cell 3
          have hSS := hS
          have HBS := Lib.hid hBS
          clear hS hBS hLk
          have c1 := K1_1 _ hSS
          cases hb : likB l s f u o with
          | false =>
            rw [hb, Bool.false_and] at hst
            have HST := Lib.hid hst
            clear hst hb
            go_wp2_with fail
            clear c1
            refine wp_region_held_drew (S := Lk w B2 u6 (dueK l M s f u) lb (intsL (dueOf l M s f)) BS) (by kernel_rfl) hSS.drew (fun hHeld => ?_)
            refine wpAnyH_take (i := 0) (v := ?_) rfl (by kernel_rfl) (by kernel_rfl) (by kernel_rfl) (fun _ _ _ h => h) (Or.inl ⟨by rfl, ?h0⟩) hHeld ?_
            case h0 =>
              intro w' hSw
              (try dsimp only at hSw)
              go_simp
              (try with_reducible rfl)
            (try simp only [Act.put, List.setIfInBounds_toArray, List.set_cons_zero, List.set_cons_succ])
            refine wpAnyH_take (i := 1) (v := ?_) rfl (by kernel_rfl) (by kernel_rfl) (by kernel_rfl) (fun _ _ _ h => h) (Or.inl ⟨by rfl, ?h1⟩) hHeld ?_
            case h1 =>
              intro w' hSw
              (try dsimp only at hSw)
              go_simp
              (try with_reducible rfl)
            (try simp only [Act.put, List.setIfInBounds_toArray, List.set_cons_zero, List.set_cons_succ])
            refine wpAnyH_take (i := 2) (v := undef) rfl (by kernel_rfl) (by kernel_rfl) (by kernel_rfl) (fun _ _ _ h => h) (Or.inr ⟨by kernel_rfl, rfl⟩) hHeld ?_
            (try simp only [Act.put, List.setIfInBounds_toArray, List.set_cons_zero, List.set_cons_succ])
            refine wpAnyH_take (i := 3) (v := undef) rfl (by kernel_rfl) (by kernel_rfl) (by kernel_rfl) (fun _ _ _ h => h) (Or.inr ⟨by kernel_rfl, rfl⟩) hHeld ?_
            (try simp only [Act.put, List.setIfInBounds_toArray, List.set_cons_zero, List.set_cons_succ])
            refine wpAnyH_take (i := 4) (v := undef) rfl (by kernel_rfl) (by kernel_rfl) (by kernel_rfl) (fun _ _ _ h => h) (Or.inr ⟨by kernel_rfl, rfl⟩) hHeld ?_
            (try simp only [Act.put, List.setIfInBounds_toArray, List.set_cons_zero, List.set_cons_succ])
            refine wpAnyH_take (i := 5) (v := undef) rfl (by kernel_rfl) (by kernel_rfl) (by kernel_rfl) (fun _ _ _ h => h) (Or.inr ⟨by kernel_rfl, rfl⟩) hHeld ?_
            (try simp only [Act.put, List.setIfInBounds_toArray, List.set_cons_zero, List.set_cons_succ])
            refine wpAnyH_take (i := 6) (v := undef) rfl (by kernel_rfl) (by kernel_rfl) (by kernel_rfl) (fun _ _ _ h => h) (Or.inr ⟨by kernel_rfl, rfl⟩) hHeld ?_
            (try simp only [Act.put, List.setIfInBounds_toArray, List.set_cons_zero, List.set_cons_succ])
            refine wpAnyH_take (i := 7) (v := undef) rfl (by kernel_rfl) (by kernel_rfl) (by kernel_rfl) (fun _ _ _ h => h) (Or.inr ⟨by kernel_rfl, rfl⟩) hHeld ?_
            (try simp only [Act.put, List.setIfInBounds_toArray, List.set_cons_zero, List.set_cons_succ])
            refine wpAnyH_take (i := 8) (v := undef) rfl (by kernel_rfl) (by kernel_rfl) (by kernel_rfl) (fun _ _ _ h => h) (Or.inr ⟨by kernel_rfl, rfl⟩) hHeld ?_
            (try simp only [Act.put, List.setIfInBounds_toArray, List.set_cons_zero, List.set_cons_succ])
            refine wpAnyH_take (i := 9) (v := undef) rfl (by kernel_rfl) (by kernel_rfl) (by kernel_rfl) (fun _ _ _ h => h) (Or.inr ⟨by kernel_rfl, rfl⟩) hHeld ?_
            (try simp only [Act.put, List.setIfInBounds_toArray, List.set_cons_zero, List.set_cons_succ])
            refine wpAnyH_take (i := 10) (v := undef) rfl (by kernel_rfl) (by kernel_rfl) (by kernel_rfl) (fun _ _ _ h => h) (Or.inr ⟨by kernel_rfl, rfl⟩) hHeld ?_
            (try simp only [Act.put, List.setIfInBounds_toArray, List.set_cons_zero, List.set_cons_succ])
            refine wpAnyH_take (i := 11) (v := undef) rfl (by kernel_rfl) (by kernel_rfl) (by kernel_rfl) (fun _ _ _ h => h) (Or.inr ⟨by kernel_rfl, rfl⟩) hHeld ?_
            (try simp only [Act.put, List.setIfInBounds_toArray, List.set_cons_zero, List.set_cons_succ])
            refine wpAnyH_ready (rs := [12]) (by kernel_rfl) (by simp) ?_
            refine AllReadyH.cons rfl (fun K hK => ?_) AllReadyH.nil
            go_simp
            refine hK.out _ _ hHeld (fun hHeld => ?_)
            clear hK K
            (try simp only [Act.put, List.setIfInBounds_toArray, List.set_cons_zero, List.set_cons_succ])
            refine wpAnyH_ready (rs := [13]) (by kernel_rfl) (by simp) ?_
            refine AllReadyH.cons rfl (fun K hK => ?_) AllReadyH.nil
            go_simp
            refine hK.out _ _ hHeld (fun hHeld => ?_)
            clear hK K
            (try simp only [Act.put, List.setIfInBounds_toArray, List.set_cons_zero, List.set_cons_succ])
            refine wpAnyH_done (by kernel_rfl) ?_ _
            go_wp2_with fail
            go_roundw
            case rel => exact ⟨o + 1, by omega, by go_num, by rw [HST.out], by rw [HBS.out] at hHeld; exact hHeld⟩
            case measure => simp [intOf]; omega
          | true =>
            rw [hb, Bool.true_and] at hst
            have HST := Lib.hid hst
            clear hst hb
            generalize lower (numOf l s f u) (denOf l s u) (numOf l s f o) (denOf l s o) = q at *
            go_wp2_with fail
            clear c1
            go_region_held3 (Lk w B2 u6 (dueK l M s f u) lb (intsL (dueOf l M s f)) BS)
              (first | assumption | exact Lk.drew (by assumption) | exact Lk.alloc (by assumption) _ | go_keep)
              (first | (go_at_call 27; (with_reducible refine (E27.out _).mono ?_); rintro e wn ⟨rfl, hb⟩; have hSn := Lk.below (w := w) (B2 := B2) (v := u6) (due := dueK l M s f u) (lb := lb) (ys := intsL (dueOf l M s f)) (bs := BS) (by first | assumption | exact Lk.drew (by assumption)) hb; clear hb) | (go_at_call 29; (with_reducible refine (E29.out _).mono ?_); rintro e wn ⟨rfl, hb⟩; have hSn := Lk.below (w := w) (B2 := B2) (v := u6) (due := dueK l M s f u) (lb := lb) (ys := intsL (dueOf l M s f)) (bs := BS) (by first | assumption | exact Lk.drew (by assumption)) hb; clear hb))
            all_goals
              go_wp2_with fail
              go_roundw
              case rel => exact ⟨o + 1, by omega, by go_num, by rw [HST.out], by have hz := hSn; rw [HBS.out] at hz; exact hz⟩
              case measure => simp [intOf]; omega
        · obtain rfl : o = M + 1 := by omega
          rw [likB_all]
          obtain ⟨k0, k1, k2, k3⟩ := (hLk.ks.blkAt 1 rfl).c4
          have HLk := Lib.hid (hLk.sub (bs' := [(w.heap.size, #[.int .i64 l, .int .i64 M, .int .i64 s, .int .i64 f], 23)]) (fun x hx => List.mem_cons_of_mem _ hx))
          have hB := hLk.2.2.2.2
          have hlen := dueK_len l M s f u
          clear hLk hlo ho
          cases hb : Mis.likely (numOf l s f) (denOf l s) (M + 1) u with
          | false =>
            have HD := Lib.hid (dueK_no hb)
            clear hb
            go_wp2_with fail
            go_roundw
            case rel => exact ⟨u + 1, by omega, by go_num, by rw [HD.out]; exact HLk.out⟩
            case measure => simp [intOf]; omega
          | true =>
            have HD := Lib.hid (dueK_yes hb)
            clear hb
            go_wp2_with (at_builtin; refine wpList_append_own _ rfl _ _ 40 rfl B2 3 i0 (.int .i64 0) 1 8 Try.underlying40 hi hz0 hz1 hz2 rfl (by decide) _ _ _ rfl (HLk.out.2.1.alloc _) ⟨wr.heap.size, 0, none⟩ 1 1 [.int .i64 u] rfl rfl (cell_one_new _ _ _) (by simp [Value.oneCell']) (by unfold maxLen; omega) (by omega) (by simp; omega) ?_; intro v' w5 hown' hgrow _; have HO2 := Lib.hid hown'; have HG := Lib.hid hgrow; clear hown' hgrow)
            go_roundw
            case rel => exact ⟨u + 1, by omega, by go_num, by rw [HD.out]; exact HLk.out.app HO2.out HG.out (fun x hx => by simp at hx; rw [hx]; exact hwB) (by omega)⟩
            case measure => simp [intOf]; omega
    · obtain rfl : u = M + 1 := by omega
      have hrow := HLk.out.2.1
      rw [dueK_all] at hrow
      clear hlt hu
      by_cases hd : dueOf l M s f = []
      · obtain ⟨rfl, rfl⟩ := HL1.out hd
        rw [hd] at hrow
        have hv : ∃ a c, u6 = .slice a 0 c := by
          rcases Joins.ownsRow_forms hrow with ⟨h1, _⟩ | ⟨g, c, h1⟩
          · exact ⟨_, _, h1⟩
          · exact ⟨_, _, h1⟩
        obtain ⟨a6, c6, rfl⟩ := hv
        clear hrow hd
        go_wp2_with (first | (go_at_call 24; (with_reducible refine (awake_any _).mono ?_); rintro e w99 ⟨rfl, h99⟩; have S99 := Lib.hid (HLk.out.ks.below h99); clear h99))
        go_ret
        exact ⟨rfl, S99.out.bel⟩
      · obtain rfl := HL2.out hd
        have hlv := HLV.out
        subst hlv
        have hys := row_is (ys := intsL (dueOf l M s f)) (by rw [intsL_len, ← intsV_eq]; exact hrow)
        obtain ⟨da, db, dc, rfl, hd1, hd2, hd3⟩ := hys
        have hlen : 0 < (intsL (dueOf l M s f)).length := by
          rw [intsL_len]
          rcases Nat.eq_zero_or_pos (dueOf l M s f).length with h | h
          · exact absurd (List.eq_nil_of_length_eq_zero h) hd
          · exact h
        have hmax : (intsL (dueOf l M s f)).length ≤ 1000 := by rw [intsL_len]; have := dueK_len l M s f (M + 1); rw [dueK_all] at this; omega
        have C30 := Lib.hid (ints_any la da lb 0 db 0 lc dc (intsL (dueOf l M s f)) (intsL (dueOf l M s f)) wr HL4.out hd1 hmax HLk.out.2.2.1 hd2)
        rw [decide_eq_true rfl] at C30
        have HKS := Lib.hid HLk.out.ks
        have t1 : (((intsL (dueOf l M s f)).length : Int) == 0) = false := by simp; intro e; rw [e] at hlen; simp at hlen
        have t2 : ((intsL (dueOf l M s f)).length == 0) = false := by simp; intro e; rw [e] at hlen; simp at hlen
        generalize (intsL (dueOf l M s f)).length = n at *
        clear hd1 hd2 hd3 hrow hd hmax
        have hnz : n ≠ 0 := by omega
        go_wp2_with (first | (go_at_call 30; (with_reducible refine (C30.out).mono ?_); rintro e wq ⟨rfl, qn, rfl⟩) | (go_at_call 24; (with_reducible refine (awake_any _).mono ?_); rintro e w99 ⟨rfl, h99⟩; have S99 := Lib.hid ((HKS.out.drewN _).below h99); clear h99))
        go_ret
        exact ⟨rfl, S99.out.bel⟩
theorem MissLikely_walk (L M S F : Int) (w : World) : Calls Try.prog 4 #[areaV L M S F] w fun e w' => e = .returned (.bool true) ∧ Below w.heap.size w w' := by
  cases h : areaB L M S F with
  | false => exact MissLikely_arg L M S F w h
  | true =>
    obtain ⟨l, m, s, f, rfl, rfl, rfl, rfl, hk⟩ := okA.of h
    exact MissLikely_ok l m s f w hk
end Go.Proofs.Ytkfobnhnehbkeaa
