/- The walk of the numbers that a level does not exclude, of package miss. -/
import Derived.Test.YtkfobnhnehbkeaaLikely
namespace Go.Proofs.Ytkfobnhnehbkeaa
open Go.RowKit Go.Shelf
open Mis (ch sets tot sm low up lower)
attribute [local go_sem] Oper.semAt_some

abbrev doubtV (L M S F : Int) (mb : Nat) (n d : Int) : Value := .agg #[.int .i64 L, .int .i64 M, .int .i64 S, .int .i64 F, .map (some mb), .int .i64 n, .int .i64 d]

set_option maxRecDepth 100000 in
set_option maxHeartbeats 2000000 in
set_option linter.unusedSimpArgs false in
theorem excluded_any (M : Int) (l u s f mb n d : Nat) (w : World) (hl : l + u ≤ 50) (hs : s ≤ l) (hf : f ≤ s) (hn : n ≤ 1000) (hd : d ≤ 1000) (hm : Memo w mb) :
    Calls Try.prog 82 #[doubtV l M s f mb n d, .int .i64 u] w fun e w' => e = .returned (.bool (Mis.excl l s f n d u)) ∧ Memo w' mb ∧ w.grownBy w' (some mb) := by
  have hlow : low l u s f ≤ tot l u s := Mis.low_le l u s f hf
  have hup : up l u s f ≤ tot l u s := by
    have e := Mis.sm_add (sets l u s) 0 f (s + 1 - f)
    have e2 := Mis.low_full l u s
    unfold Mis.low at e2
    have e4 : f + (s + 1 - f) = s + 1 := by omega
    rw [e4] at e
    unfold Mis.up
    simp only [Nat.zero_add] at e
    omega
  have htot := tot_le l u s hl
  have C61a := Lib.hid (show ∀ (mb : Nat) (w : World), Memo w mb → Calls Try.prog 61 #[workV l M s f mb, .int .i64 u, .agg #[.func (.func 54) #[] #[]]] w (fun e w' => e = .returned (fracV (low l u s f) (tot l u s)) ∧ Memo w' mb ∧ w.grownBy w' (some mb)) from says_lower M l u s f hl hs hf)
  have C61b := Lib.hid (show ∀ (mb : Nat) (w : World), Memo w mb → Calls Try.prog 61 #[workV l M s f mb, .int .i64 u, .agg #[.func (.func 55) #[] #[]]] w (fun e w' => e = .returned (fracV (up l u s f) (tot l u s)) ∧ Memo w' mb ∧ w.grownBy w' (some mb)) from says_upper M l u s f hl hs hf)
  have C62a := Lib.hid (fun w => below_any (low l u s f) (tot l u s) n d w (by omega) (by omega) (by omega) (by omega))
  have C62b := Lib.hid (fun w => below_any (up l u s f) (tot l u s) n d w (by omega) (by omega) (by omega) (by omega))
  have HE := Lib.hid (show Mis.excl l s f n d u = (lower (low l u s f) (tot l u s) n d || lower (up l u s f) (tot l u s) n d) from rfl)
  generalize low l u s f = A at *
  generalize up l u s f = B at *
  generalize tot l u s = T at *
  have HM := Lib.hid (hm.alloc (.cells #[.int .i64 l, .int .i64 M, .int .i64 s, .int .i64 f, .map (some mb), .int .i64 n, .int .i64 d] 128))
  have hmlt := hm.lt
  clear hlow hup htot hm
  obtain ⟨b1, b2, b3⟩ := one_new w #[.int .i64 l, .int .i64 M, .int .i64 s, .int .i64 f, .map (some mb), .int .i64 n, .int .i64 d] 128
  have B1 := Lib.hid b1
  have B2 := Lib.hid b2
  clear b1 b2 b3
  cases c1 : lower A T n d with
  | true =>
    rw [c1] at C62a HE
    clear c1
    go_enter Try.func82, Try.ntmps82
    go_wp2_with fail
    generalize w.alloc (.cells #[.int .i64 l, .int .i64 M, .int .i64 s, .int .i64 f, .map (some mb), .int .i64 n, .int .i64 d] 128) = W0 at *
    obtain ⟨k0, k1, k2, k3, k4, k5, k6⟩ := B1.out.c7
    refine wp_region_held_drew (S := (fun w' => w'.cell? ⟨w.heap.size, 0, none⟩ = some (.int .i64 l) ∧ w'.cell? ⟨w.heap.size, 1, none⟩ = some (.int .i64 M) ∧ w'.cell? ⟨w.heap.size, 2, none⟩ = some (.int .i64 s) ∧ w'.cell? ⟨w.heap.size, 3, none⟩ = some (.int .i64 f) ∧ w'.cell? ⟨w.heap.size, 4, none⟩ = some (.map (some mb)) ∧ w'.cell? ⟨w.heap.size, 5, none⟩ = some (.int .i64 n) ∧ w'.cell? ⟨w.heap.size, 6, none⟩ = some (.int .i64 d))) (by kernel_rfl) ⟨k0, k1, k2, k3, k4, k5, k6⟩ (fun hHeld => ?_)
    refine wpAnyH_take (i := 0) (v := ?_) rfl (by kernel_rfl) (by kernel_rfl) (by kernel_rfl) (fun _ _ _ h => h) (Or.inl ⟨by rfl, ?h0⟩) hHeld ?_
    case h0 =>
      intro w' hSw
      (try dsimp only at hSw)
      go_simp
      with_reducible rfl
    (try simp only [Act.put, List.setIfInBounds_toArray, List.set_cons_zero, List.set_cons_succ])
    refine wpAnyH_take (i := 1) (v := ?_) rfl (by kernel_rfl) (by kernel_rfl) (by kernel_rfl) (fun _ _ _ h => h) (Or.inl ⟨by rfl, ?h1⟩) hHeld ?_
    case h1 =>
      intro w' hSw
      (try dsimp only at hSw)
      go_simp
      with_reducible rfl
    (try simp only [Act.put, List.setIfInBounds_toArray, List.set_cons_zero, List.set_cons_succ])
    refine wpAnyH_take (i := 2) (v := ?_) rfl (by kernel_rfl) (by kernel_rfl) (by kernel_rfl) (fun _ _ _ h => h) (Or.inl ⟨by rfl, ?h2⟩) hHeld ?_
    case h2 =>
      intro w' hSw
      (try dsimp only at hSw)
      go_simp
      with_reducible rfl
    (try simp only [Act.put, List.setIfInBounds_toArray, List.set_cons_zero, List.set_cons_succ])
    refine wpAnyH_take (i := 3) (v := ?_) rfl (by kernel_rfl) (by kernel_rfl) (by kernel_rfl) (fun _ _ _ h => h) (Or.inl ⟨by rfl, ?h3⟩) hHeld ?_
    case h3 =>
      intro w' hSw
      (try dsimp only at hSw)
      go_simp
      with_reducible rfl
    (try simp only [Act.put, List.setIfInBounds_toArray, List.set_cons_zero, List.set_cons_succ])
    refine wpAnyH_take (i := 5) (v := ?_) rfl (by kernel_rfl) (by kernel_rfl) (by kernel_rfl) (fun _ _ _ h => h) (Or.inl ⟨by rfl, ?h5⟩) hHeld ?_
    case h5 =>
      intro w' hSw
      (try dsimp only at hSw)
      go_simp
      with_reducible rfl
    (try simp only [Act.put, List.setIfInBounds_toArray, List.set_cons_zero, List.set_cons_succ])
    refine wpAnyH_take (i := 6) (v := ?_) rfl (by kernel_rfl) (by kernel_rfl) (by kernel_rfl) (fun _ _ _ h => h) (Or.inl ⟨by rfl, ?h6⟩) hHeld ?_
    case h6 =>
      intro w' hSw
      (try dsimp only at hSw)
      go_simp
      with_reducible rfl
    (try simp only [Act.put, List.setIfInBounds_toArray, List.set_cons_zero, List.set_cons_succ])
    refine wpAnyH_ready (rs := [4]) (by kernel_rfl) (by simp) ?_
    refine AllReadyH.cons rfl (fun K hK => ?_) AllReadyH.nil
    go_simp
    (with_reducible refine (C61a.out _ _ ?_).mono ?_)
    · exact HM.out
    rintro e w1 ⟨rfl, hm1, hg1⟩
    have d1 := B1.out.drew.kept hg1 (by simp; omega)
    have ⟨x0, x1, x2, x3, x4, x5, x6⟩ := d1.c7
    have HM1 := Lib.hid hm1
    have HG1 := Lib.hid hg1
    have D1 := Lib.hid d1
    clear hm1 hg1 d1
    (try go_wp2_with fail)
    refine hK.out _ _ ⟨x0, x1, x2, x3, x4, x5, x6⟩ (fun hHeld => ?_)
    clear hK K
    (try simp only [Act.put, List.setIfInBounds_toArray, List.set_cons_zero, List.set_cons_succ])
    refine wpAnyH_ready (rs := [7]) (by kernel_rfl) (by simp) ?_
    refine AllReadyH.cons rfl (fun K hK => ?_) AllReadyH.nil
    go_simp
    (with_reducible refine (C62a.out _).mono ?_)
    rintro e w2 ⟨rfl, hb2⟩
    have e1 := D1.out.below hb2 D1.out.lt
    have ⟨y0, y1, y2, y3, y4, y5, y6⟩ := e1.c7
    have HB2 := Lib.hid hb2
    have E1 := Lib.hid e1
    clear hb2 e1
    (try go_wp2_with fail)
    refine hK.out _ _ ⟨y0, y1, y2, y3, y4, y5, y6⟩ (fun hHeld => ?_)
    clear hK K
    (try simp only [Act.put, List.setIfInBounds_toArray, List.set_cons_zero, List.set_cons_succ])
    refine wpAnyH_take (i := 8) (v := ?_) rfl (by kernel_rfl) (by kernel_rfl) (by kernel_rfl) (fun _ _ _ h => h) (Or.inl ⟨by rfl, ?h8⟩) hHeld ?_
    case h8 =>
      intro w' hSw
      (try dsimp only at hSw)
      go_simp
      with_reducible rfl
    (try simp only [Act.put, List.setIfInBounds_toArray, List.set_cons_zero, List.set_cons_succ])
    refine wpAnyH_take (i := 9) (v := undef) rfl (by kernel_rfl) (by kernel_rfl) (by kernel_rfl) (fun _ _ _ h => h) (Or.inr ⟨by kernel_rfl, rfl⟩) hHeld ?_
    (try simp only [Act.put, List.setIfInBounds_toArray, List.set_cons_zero, List.set_cons_succ])
    refine wpAnyH_take (i := 10) (v := undef) rfl (by kernel_rfl) (by kernel_rfl) (by kernel_rfl) (fun _ _ _ h => h) (Or.inr ⟨by kernel_rfl, rfl⟩) hHeld ?_
    (try simp only [Act.put, List.setIfInBounds_toArray, List.set_cons_zero, List.set_cons_succ])
    refine wpAnyH_take (i := 11) (v := undef) rfl (by kernel_rfl) (by kernel_rfl) (by kernel_rfl) (fun _ _ _ h => h) (Or.inr ⟨by kernel_rfl, rfl⟩) hHeld ?_
    (try simp only [Act.put, List.setIfInBounds_toArray, List.set_cons_zero, List.set_cons_succ])
    refine wpAnyH_take (i := 12) (v := undef) rfl (by kernel_rfl) (by kernel_rfl) (by kernel_rfl) (fun _ _ _ h => h) (Or.inr ⟨by kernel_rfl, rfl⟩) hHeld ?_
    (try simp only [Act.put, List.setIfInBounds_toArray, List.set_cons_zero, List.set_cons_succ])
    refine wpAnyH_take (i := 13) (v := undef) rfl (by kernel_rfl) (by kernel_rfl) (by kernel_rfl) (fun _ _ _ h => h) (Or.inr ⟨by kernel_rfl, rfl⟩) hHeld ?_
    (try simp only [Act.put, List.setIfInBounds_toArray, List.set_cons_zero, List.set_cons_succ])
    refine wpAnyH_take (i := 14) (v := undef) rfl (by kernel_rfl) (by kernel_rfl) (by kernel_rfl) (fun _ _ _ h => h) (Or.inr ⟨by kernel_rfl, rfl⟩) hHeld ?_
    (try simp only [Act.put, List.setIfInBounds_toArray, List.set_cons_zero, List.set_cons_succ])
    refine wpAnyH_take (i := 15) (v := undef) rfl (by kernel_rfl) (by kernel_rfl) (by kernel_rfl) (fun _ _ _ h => h) (Or.inr ⟨by kernel_rfl, rfl⟩) hHeld ?_
    (try simp only [Act.put, List.setIfInBounds_toArray, List.set_cons_zero, List.set_cons_succ])
    refine wpAnyH_take (i := 16) (v := undef) rfl (by kernel_rfl) (by kernel_rfl) (by kernel_rfl) (fun _ _ _ h => h) (Or.inr ⟨by kernel_rfl, rfl⟩) hHeld ?_
    (try simp only [Act.put, List.setIfInBounds_toArray, List.set_cons_zero, List.set_cons_succ])
    refine wpAnyH_ready (rs := [17]) (by kernel_rfl) (by simp) ?_
    refine AllReadyH.cons rfl (fun K hK => ?_) AllReadyH.nil
    go_simp
    refine hK.out _ _ ⟨y0, y1, y2, y3, y4, y5, y6⟩ (fun hHeld => ?_)
    clear hK K
    (try simp only [Act.put, List.setIfInBounds_toArray, List.set_cons_zero, List.set_cons_succ])
    refine wpAnyH_ready (rs := [18]) (by kernel_rfl) (by simp) ?_
    refine AllReadyH.cons rfl (fun K hK => ?_) AllReadyH.nil
    go_simp
    refine hK.out _ _ ⟨y0, y1, y2, y3, y4, y5, y6⟩ (fun hHeld => ?_)
    clear hK K
    (try simp only [Act.put, List.setIfInBounds_toArray, List.set_cons_zero, List.set_cons_succ])
    refine wpAnyH_done (by kernel_rfl) ?_ _
    go_wp2
    go_ret
    refine ⟨by rw [HE.out]; simp, HM1.out.below HB2.out HM1.out.lt, ?_⟩
    exact ((grownBy_below B2.out (some mb)).trans' (World.grownBy.drew' HG1.out)).trans' (grownBy_below HB2.out _)
  | false =>
    rw [c1] at C62a HE
    clear c1
    go_enter Try.func82, Try.ntmps82
    go_wp2_with fail
    generalize w.alloc (.cells #[.int .i64 l, .int .i64 M, .int .i64 s, .int .i64 f, .map (some mb), .int .i64 n, .int .i64 d] 128) = W0 at *
    obtain ⟨k0, k1, k2, k3, k4, k5, k6⟩ := B1.out.c7
    go_region_held3 (fun w' => w'.cell? ⟨w.heap.size, 0, none⟩ = some (.int .i64 l) ∧ w'.cell? ⟨w.heap.size, 1, none⟩ = some (.int .i64 M) ∧ w'.cell? ⟨w.heap.size, 2, none⟩ = some (.int .i64 s) ∧ w'.cell? ⟨w.heap.size, 3, none⟩ = some (.int .i64 f) ∧ w'.cell? ⟨w.heap.size, 4, none⟩ = some (.map (some mb)) ∧ w'.cell? ⟨w.heap.size, 5, none⟩ = some (.int .i64 n) ∧ w'.cell? ⟨w.heap.size, 6, none⟩ = some (.int .i64 d))
      (first | (with_reducible exact ⟨v0, v1, v2, v3, v4, v5, v6⟩) | (with_reducible exact ⟨z0, z1, z2, z3, z4, z5, z6⟩) | (with_reducible exact ⟨y0, y1, y2, y3, y4, y5, y6⟩) | (with_reducible exact ⟨x0, x1, x2, x3, x4, x5, x6⟩) | (with_reducible exact ⟨k0, k1, k2, k3, k4, k5, k6⟩) | go_keep)
      (first | (go_at_call 61; (with_reducible refine (C61a.out _ _ ?_).mono ?_); (exact HM.out); rintro e w1 ⟨rfl, hm1, hg1⟩; have d1 := B1.out.drew.kept hg1 (by simp; omega); have ⟨x0, x1, x2, x3, x4, x5, x6⟩ := d1.c7; have HM1 := Lib.hid hm1; have HG1 := Lib.hid hg1; have D1 := Lib.hid d1; clear hm1 hg1 d1) | (go_at_call 62; (with_reducible refine (C62a.out _).mono ?_); rintro e w2 ⟨rfl, hb2⟩; have e1 := D1.out.below hb2 D1.out.lt; have ⟨y0, y1, y2, y3, y4, y5, y6⟩ := e1.c7; have HB2 := Lib.hid hb2; have E1 := Lib.hid e1; clear hb2 e1) | (go_at_call 61; (with_reducible refine (C61b.out _ _ ?_).mono ?_); (exact HM1.out.below HB2.out HM1.out.lt); rintro e w3 ⟨rfl, hm1, hg1⟩; have d1 := E1.out.kept hg1 (by simp; omega); have ⟨z0, z1, z2, z3, z4, z5, z6⟩ := d1.c7; have HM3 := Lib.hid hm1; have HG3 := Lib.hid hg1; have D3 := Lib.hid d1; clear hm1 hg1 d1) | (go_at_call 62; (with_reducible refine (C62b.out _).mono ?_); rintro e w4 ⟨rfl, hb2⟩; have e1 := D3.out.below hb2 D3.out.lt; have ⟨v0, v1, v2, v3, v4, v5, v6⟩ := e1.c7; have HB4 := Lib.hid hb2; clear hb2 e1))
    go_wp2
    go_ret
    refine ⟨by rw [HE.out]; simp, HM3.out.below HB4.out HM3.out.lt, ?_⟩
    exact ((((grownBy_below B2.out (some mb)).trans' (World.grownBy.drew' HG1.out)).trans' (grownBy_below HB2.out _)).trans' HG3.out).trans' (grownBy_below HB4.out _)
end Go.Proofs.Ytkfobnhnehbkeaa
