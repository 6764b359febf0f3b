/- The walks of sums, tails, and of work.chance of package miss. -/
import Derived.Test.YtkfobnhnehbkeaaChances
namespace Go.Proofs.Ytkfobnhnehbkeaa
open Go.RowKit
open Mis (ch sets tot sm low up)

theorem sm_part_le (f : Nat → Nat) (a i n : Nat) (h : i ≤ n) : sm f a i ≤ sm f a n := by
  obtain ⟨d, rfl⟩ : ∃ d, n = i + d := ⟨n - i, by omega⟩
  rw [Mis.sm_add]; omega
set_option maxRecDepth 100000 in
set_option maxHeartbeats 400000 in
theorem sum_any (b f n cap : Nat) (g : Nat → Nat) (w : World) (hn : 0 < n) (hn2 : n ≤ 1000) (hc : ∀ i, i < n → w.cell? ⟨b, f + i, none⟩ = some (.int .i64 (g (f + i) : Nat))) (hs : sm g f n ≤ 4611686018427387904) :
    Calls Try.prog 78 #[.slice (some ⟨b, f, none⟩) n cap] w fun e w' => e = .returned (.int .i64 (sm g f n : Nat)) ∧ w = w' := by
  have HC := Lib.hid hc
  have HS := Lib.hid hs
  clear hc hs
  go_enter Try.func78, Try.ntmps78
  go_wp2
  go_loop [2, 7] (fun x y => ∃ i : Nat, i ≤ n ∧ x = .int .i64 (sm g f i : Nat) ∧ y = .int .i64 (i : Int)) (fun _ y => n - (intOf y).toNat)
  case atStart => exact ⟨0, by omega, by simp [Mis.sm_zero], rfl⟩
  case round =>
    obtain ⟨i, hi, rfl, rfl⟩ := hrel
    by_cases hlt : i < n
    · have hcell := HC.out i hlt
      have h1 := sm_part_le g f (i+1) n (by omega)
      have h2 := HS.out
      have h3 : sm g f (i+1) = sm g f i + g (f + i) := Mis.sm_succ _ _ _
      have h4 : sm g f i + g (f + i) ≤ 4611686018427387904 := by omega
      have H3 := Lib.hid h3
      clear h1 h2 h3
      generalize g (f + i) = B at *
      generalize sm g f i = A at *
      go_wp2
      go_round
      case rel => exact ⟨i + 1, by omega, by rw [H3.out]; go_num, by go_num⟩
      case measure => simp [intOf]; omega
    · obtain rfl : i = n := by omega
      go_wp2
      go_ret
      exact ⟨rfl, rfl⟩

set_option maxRecDepth 100000 in
set_option maxHeartbeats 400000 in
theorem point_any (L M S F : Int) (w : World) : Calls Try.prog 53 #[areaV L M S F] w fun e w' => e = .returned (.tuple #[.int .i64 F, .int .i64 F]) ∧ Below w.heap.size w w' := by
  go_enter Try.func53, Try.ntmps53
  go_wp2
  go_quiet (fail)
  go_wp2
  go_ret2
  exact ⟨rfl, ((Below.refl _ _).alloc (Nat.le_refl _) _).drewN' _⟩

set_option maxRecDepth 100000 in
set_option maxHeartbeats 400000 in
theorem lower_any (L M S F : Int) (w : World) : Calls Try.prog 54 #[areaV L M S F] w fun e w' => e = .returned (.tuple #[.int .i64 0, .int .i64 F]) ∧ Below w.heap.size w w' := by
  go_enter Try.func54, Try.ntmps54
  go_wp2
  go_quiet (fail)
  go_wp2
  go_ret2
  exact ⟨rfl, ((Below.refl _ _).alloc (Nat.le_refl _) _).drewN' _⟩

set_option maxRecDepth 100000 in
set_option maxHeartbeats 400000 in
theorem upper_any (L M S F : Int) (w : World) : Calls Try.prog 55 #[areaV L M S F] w fun e w' => e = .returned (.tuple #[.int .i64 F, .int .i64 S]) ∧ Below w.heap.size w w' := by
  go_enter Try.func55, Try.ntmps55
  go_wp2
  go_quiet (fail)
  go_wp2
  go_ret2
  exact ⟨rfl, ((Below.refl _ _).alloc (Nat.le_refl _) _).drewN' _⟩

set_option maxRecDepth 100000 in
set_option maxHeartbeats 400000 in
theorem chance_point (M : Int) (l u s f mb : Nat) (w : World) (hl : l + u ≤ 50) (hs : s ≤ l) (hf : f ≤ s) (hm : Memo w mb) :
    Calls Try.prog 61 #[workV l M s f mb, .int .i64 u, .agg #[.func (.func 53) #[] #[]]] w fun e w' => e = .returned (fracV (sm (sets l u s) f (1) : Nat) (tot l u s)) ∧ Memo w' mb ∧ w.grownBy w' (some mb) := by
  have c77 : ∀ w, Memo w mb → Calls Try.prog 77 #[workV l M s f mb, .int .i64 u] w fun e w' => e = .returned (.tuple #[.agg (chArr l u s (s+1)), .int .i64 (tot l u s)]) ∧ Memo w' mb ∧ w.grownBy w' (some mb) := fun w hm => chances_any l M s f l u s mb rfl rfl w hl hs hm
  have C77 := Lib.hid c77
  have HM0 := Lib.hid (((hm.alloc (.cells #[.int .i64 l, .int .i64 M, .int .i64 s, .int .i64 f, .map (some mb)] 99)).alloc (.cells #[.func (.func 53) #[] #[]] 93)).alloc (.cells #[.int .i64 0, .int .i64 0] 25))
  have hlt := hm.lt
  have hsum : sm (sets l u s) f (1) ≤ 4611686018427387904 := by
    have e := Mis.sm_add (sets l u s) 0 f (1)
    have e2 := sm_part_le (sets l u s) 0 (f + (1)) (s+1) (by omega)
    have e3 : sm (sets l u s) 0 (s+1) = tot l u s := Mis.low_full l u s
    have e4 := tot_le l u s hl
    simp only [Nat.zero_add] at e e2
    omega
  have C78 := Lib.hid (fun (b : Nat) (W : World) (hB : Blk W b (chArr l u s (s+1)) 119) => sum_any b f (1) (51 - f) (sets l u s) W (by omega) (by omega) (fun i hi => by rw [hB.cell, chArr_get _ _ _ _ _ (by omega), if_pos (by omega)]) hsum)
  clear c77 hm hsum
  go_enter Try.func61, Try.ntmps61
  go_wp2_with fail
  obtain ⟨b1, b2, b3, hb0, hsz⟩ := three_new w #[.int .i64 l, .int .i64 M, .int .i64 s, .int .i64 f, .map (some mb)] #[.func (.func 53) #[] #[]] #[.int .i64 0, .int .i64 0] 99 93 25
  generalize ((w.alloc (.cells #[.int .i64 l, .int .i64 M, .int .i64 s, .int .i64 f, .map (some mb)] 99)).alloc (.cells #[.func (.func 53) #[] #[]] 93)).alloc (.cells #[.int .i64 0, .int .i64 0] 25) = W0 at *
  refine (C77.out _ HM0.out).mono ?_
  rintro e w1 ⟨rfl, hm1, hg1⟩
  have c1 := b1.kept hg1 (by simp; omega)
  have c2 := b2.kept hg1 (by simp; omega)
  have c3 := b3.kept hg1 (by simp; omega)
  have hgw := (grownBy_below hb0 (some mb)).trans' hg1
  clear b1 b2 b3 hb0 hg1
  obtain ⟨k0, k1, k2, k3, k4⟩ := c1.c5
  obtain ⟨k5, _⟩ := c2.c1
  obtain ⟨k6, k7, k8, k9⟩ := c3.c2
  have lt1 := c1.lt
  have lt2 := c2.lt
  have lt3 := c3.lt
  have C1 := Lib.hid c1
  have C2 := Lib.hid c2
  have C3 := Lib.hid c3
  have HM1 := Lib.hid hm1
  have HGW := Lib.hid hgw
  have HSZ := Lib.hid hsz
  clear c1 c2 c3 hm1 hgw hsz
  have n1 : w.heap.size ≠ w1.heap.size := by omega
  have n2 : w.heap.size + 1 ≠ w1.heap.size := by omega
  have n3 : w.heap.size + 1 + 1 ≠ w1.heap.size := by omega
  have n4 : mb ≠ w1.heap.size := by have := HM1.out.lt; omega
  have hsl : ∀ W, (Instr.sliceAt 119 (.pointer (some ⟨w1.heap.size, 0, none⟩)) (some (.int .i64 (f : Int))) (some (.int .i64 ((f : Int) + 1))) none).run Try.prog W = .ok (.slice (some ⟨w1.heap.size, f, none⟩) (1) (51 - f)) W := slice119 _ f (1) _ _ (by omega) (by omega) (by omega) (by omega)
  go_wp2_with (first | (refine wpList_store_row rfl 119 _ _ rfl _ rfl 119 _ _ rfl (Blk.new w1 _ 119) tInfo119 (chArr_size _ _ _ _) (chArr_one _ _ _ _) ?_; intro w2 hb2 hg2; have c1 := (C1.out.alloc _).kept hg2 (by simpa using n1); have c2 := (C2.out.alloc _).kept hg2 (by simpa using n2); have c3 := (C3.out.alloc _).kept hg2 (by simpa using n3); have hm2 := (HM1.out.alloc _).kept hg2 (by simpa using n4); have hw2 := grownBy_rowNew (HGW.out.trans' (World.grownBy_alloc _ _ _)) hg2 (by omega); obtain ⟨k0, k1, k2, k3, k4⟩ := c1.c5; obtain ⟨k5, _⟩ := c2.c1; have lt1 := c1.lt; have lt2 := c2.lt; have lt3 := c3.lt; have lt4 := hb2.lt; have C1' := Lib.hid c1; have C3' := Lib.hid c3; have B2 := Lib.hid hb2; have HM2 := Lib.hid hm2; have HW2 := Lib.hid hw2; clear hg2 c1 c2 c3 hb2 hm2 hw2) | (go_at_call 53; (with_reducible refine (point_any _ _ _ _ _).mono ?_); rintro e w3 ⟨rfl, hb3⟩; have c3 := C3'.out.below hb3 C3'.out.lt; have hb4 := B2.out.below hb3 B2.out.lt; obtain ⟨k6, k7, k8, k9⟩ := c3.c2; have lt5 := c3.lt; have C3'' := Lib.hid c3; have B4 := Lib.hid hb4; have H3 := Lib.hid hb3; clear c3 hb4 hb3) | (go_at_call 78; refine (C78.out _ _ B4.out).mono ?_; rintro e w4 ⟨rfl, rfl⟩))
  refine bodyPost_ret (v := fracV (sm (sets l u s) f (1) : Nat) (tot l u s)) (by simp [results, Try.results61, go_sem, k6, k7]) rfl ⟨rfl, ?_, ?_⟩
  · exact ((HM2.out.below H3.out HM2.out.lt).setCell (by simp; omega) _).setCell (by simp; omega) _
  · exact grownBy_setNew (grownBy_setNew (HW2.out.trans' (grownBy_below H3.out _)) (by show w.heap.size ≤ w.heap.size + 1 + 1; omega) _) (by show w.heap.size ≤ w.heap.size + 1 + 1; omega) _

set_option maxRecDepth 100000 in
set_option maxHeartbeats 400000 in
theorem chance_lower (M : Int) (l u s f mb : Nat) (w : World) (hl : l + u ≤ 50) (hs : s ≤ l) (hf : f ≤ s) (hm : Memo w mb) :
    Calls Try.prog 61 #[workV l M s f mb, .int .i64 u, .agg #[.func (.func 54) #[] #[]]] w fun e w' => e = .returned (fracV (sm (sets l u s) 0 (f + 1) : Nat) (tot l u s)) ∧ Memo w' mb ∧ w.grownBy w' (some mb) := by
  have c77 : ∀ w, Memo w mb → Calls Try.prog 77 #[workV l M s f mb, .int .i64 u] w fun e w' => e = .returned (.tuple #[.agg (chArr l u s (s+1)), .int .i64 (tot l u s)]) ∧ Memo w' mb ∧ w.grownBy w' (some mb) := fun w hm => chances_any l M s f l u s mb rfl rfl w hl hs hm
  have C77 := Lib.hid c77
  have HM0 := Lib.hid (((hm.alloc (.cells #[.int .i64 l, .int .i64 M, .int .i64 s, .int .i64 f, .map (some mb)] 99)).alloc (.cells #[.func (.func 54) #[] #[]] 93)).alloc (.cells #[.int .i64 0, .int .i64 0] 25))
  have hlt := hm.lt
  have hsum : sm (sets l u s) 0 (f + 1) ≤ 4611686018427387904 := by
    have e := Mis.sm_add (sets l u s) 0 0 (f + 1)
    have e2 := sm_part_le (sets l u s) 0 (0 + (f + 1)) (s+1) (by omega)
    have e3 : sm (sets l u s) 0 (s+1) = tot l u s := Mis.low_full l u s
    have e4 := tot_le l u s hl
    simp only [Nat.zero_add] at e e2
    omega
  have C78 := Lib.hid (fun (b : Nat) (W : World) (hB : Blk W b (chArr l u s (s+1)) 119) => sum_any b 0 (f + 1) (51 - 0) (sets l u s) W (by omega) (by omega) (fun i hi => by rw [hB.cell, chArr_get _ _ _ _ _ (by omega), if_pos (by omega)]) hsum)
  clear c77 hm hsum
  go_enter Try.func61, Try.ntmps61
  go_wp2_with fail
  obtain ⟨b1, b2, b3, hb0, hsz⟩ := three_new w #[.int .i64 l, .int .i64 M, .int .i64 s, .int .i64 f, .map (some mb)] #[.func (.func 54) #[] #[]] #[.int .i64 0, .int .i64 0] 99 93 25
  generalize ((w.alloc (.cells #[.int .i64 l, .int .i64 M, .int .i64 s, .int .i64 f, .map (some mb)] 99)).alloc (.cells #[.func (.func 54) #[] #[]] 93)).alloc (.cells #[.int .i64 0, .int .i64 0] 25) = W0 at *
  refine (C77.out _ HM0.out).mono ?_
  rintro e w1 ⟨rfl, hm1, hg1⟩
  have c1 := b1.kept hg1 (by simp; omega)
  have c2 := b2.kept hg1 (by simp; omega)
  have c3 := b3.kept hg1 (by simp; omega)
  have hgw := (grownBy_below hb0 (some mb)).trans' hg1
  clear b1 b2 b3 hb0 hg1
  obtain ⟨k0, k1, k2, k3, k4⟩ := c1.c5
  obtain ⟨k5, _⟩ := c2.c1
  obtain ⟨k6, k7, k8, k9⟩ := c3.c2
  have lt1 := c1.lt
  have lt2 := c2.lt
  have lt3 := c3.lt
  have C1 := Lib.hid c1
  have C2 := Lib.hid c2
  have C3 := Lib.hid c3
  have HM1 := Lib.hid hm1
  have HGW := Lib.hid hgw
  have HSZ := Lib.hid hsz
  clear c1 c2 c3 hm1 hgw hsz
  have n1 : w.heap.size ≠ w1.heap.size := by omega
  have n2 : w.heap.size + 1 ≠ w1.heap.size := by omega
  have n3 : w.heap.size + 1 + 1 ≠ w1.heap.size := by omega
  have n4 : mb ≠ w1.heap.size := by have := HM1.out.lt; omega
  have hsl : ∀ W, (Instr.sliceAt 119 (.pointer (some ⟨w1.heap.size, 0, none⟩)) (some (.int .i64 0)) (some (.int .i64 ((f : Int) + 1))) none).run Try.prog W = .ok (.slice (some ⟨w1.heap.size, 0, none⟩) (f + 1) (51 - 0)) W := slice119 _ 0 (f + 1) _ _ (by omega) (by omega) (by omega) (by omega)
  go_wp2_with (first | (refine wpList_store_row rfl 119 _ _ rfl _ rfl 119 _ _ rfl (Blk.new w1 _ 119) tInfo119 (chArr_size _ _ _ _) (chArr_one _ _ _ _) ?_; intro w2 hb2 hg2; have c1 := (C1.out.alloc _).kept hg2 (by simpa using n1); have c2 := (C2.out.alloc _).kept hg2 (by simpa using n2); have c3 := (C3.out.alloc _).kept hg2 (by simpa using n3); have hm2 := (HM1.out.alloc _).kept hg2 (by simpa using n4); have hw2 := grownBy_rowNew (HGW.out.trans' (World.grownBy_alloc _ _ _)) hg2 (by omega); obtain ⟨k0, k1, k2, k3, k4⟩ := c1.c5; obtain ⟨k5, _⟩ := c2.c1; have lt1 := c1.lt; have lt2 := c2.lt; have lt3 := c3.lt; have lt4 := hb2.lt; have C1' := Lib.hid c1; have C3' := Lib.hid c3; have B2 := Lib.hid hb2; have HM2 := Lib.hid hm2; have HW2 := Lib.hid hw2; clear hg2 c1 c2 c3 hb2 hm2 hw2) | (go_at_call 54; (with_reducible refine (lower_any _ _ _ _ _).mono ?_); rintro e w3 ⟨rfl, hb3⟩; have c3 := C3'.out.below hb3 C3'.out.lt; have hb4 := B2.out.below hb3 B2.out.lt; obtain ⟨k6, k7, k8, k9⟩ := c3.c2; have lt5 := c3.lt; have C3'' := Lib.hid c3; have B4 := Lib.hid hb4; have H3 := Lib.hid hb3; clear c3 hb4 hb3) | (go_at_call 78; refine (C78.out _ _ B4.out).mono ?_; rintro e w4 ⟨rfl, rfl⟩))
  refine bodyPost_ret (v := fracV (sm (sets l u s) 0 (f + 1) : Nat) (tot l u s)) (by simp [results, Try.results61, go_sem, k6, k7]) rfl ⟨rfl, ?_, ?_⟩
  · exact ((HM2.out.below H3.out HM2.out.lt).setCell (by simp; omega) _).setCell (by simp; omega) _
  · exact grownBy_setNew (grownBy_setNew (HW2.out.trans' (grownBy_below H3.out _)) (by show w.heap.size ≤ w.heap.size + 1 + 1; omega) _) (by show w.heap.size ≤ w.heap.size + 1 + 1; omega) _

set_option maxRecDepth 100000 in
set_option maxHeartbeats 400000 in
theorem chance_upper (M : Int) (l u s f mb : Nat) (w : World) (hl : l + u ≤ 50) (hs : s ≤ l) (hf : f ≤ s) (hm : Memo w mb) :
    Calls Try.prog 61 #[workV l M s f mb, .int .i64 u, .agg #[.func (.func 55) #[] #[]]] w fun e w' => e = .returned (fracV (sm (sets l u s) f (s + 1 - f) : Nat) (tot l u s)) ∧ Memo w' mb ∧ w.grownBy w' (some mb) := by
  have c77 : ∀ w, Memo w mb → Calls Try.prog 77 #[workV l M s f mb, .int .i64 u] w fun e w' => e = .returned (.tuple #[.agg (chArr l u s (s+1)), .int .i64 (tot l u s)]) ∧ Memo w' mb ∧ w.grownBy w' (some mb) := fun w hm => chances_any l M s f l u s mb rfl rfl w hl hs hm
  have C77 := Lib.hid c77
  have HM0 := Lib.hid (((hm.alloc (.cells #[.int .i64 l, .int .i64 M, .int .i64 s, .int .i64 f, .map (some mb)] 99)).alloc (.cells #[.func (.func 55) #[] #[]] 93)).alloc (.cells #[.int .i64 0, .int .i64 0] 25))
  have hlt := hm.lt
  have hsum : sm (sets l u s) f (s + 1 - f) ≤ 4611686018427387904 := by
    have e := Mis.sm_add (sets l u s) 0 f (s + 1 - f)
    have e2 := sm_part_le (sets l u s) 0 (f + (s + 1 - f)) (s+1) (by omega)
    have e3 : sm (sets l u s) 0 (s+1) = tot l u s := Mis.low_full l u s
    have e4 := tot_le l u s hl
    simp only [Nat.zero_add] at e e2
    omega
  have C78 := Lib.hid (fun (b : Nat) (W : World) (hB : Blk W b (chArr l u s (s+1)) 119) => sum_any b f (s + 1 - f) (51 - f) (sets l u s) W (by omega) (by omega) (fun i hi => by rw [hB.cell, chArr_get _ _ _ _ _ (by omega), if_pos (by omega)]) hsum)
  clear c77 hm hsum
  go_enter Try.func61, Try.ntmps61
  go_wp2_with fail
  obtain ⟨b1, b2, b3, hb0, hsz⟩ := three_new w #[.int .i64 l, .int .i64 M, .int .i64 s, .int .i64 f, .map (some mb)] #[.func (.func 55) #[] #[]] #[.int .i64 0, .int .i64 0] 99 93 25
  generalize ((w.alloc (.cells #[.int .i64 l, .int .i64 M, .int .i64 s, .int .i64 f, .map (some mb)] 99)).alloc (.cells #[.func (.func 55) #[] #[]] 93)).alloc (.cells #[.int .i64 0, .int .i64 0] 25) = W0 at *
  refine (C77.out _ HM0.out).mono ?_
  rintro e w1 ⟨rfl, hm1, hg1⟩
  have c1 := b1.kept hg1 (by simp; omega)
  have c2 := b2.kept hg1 (by simp; omega)
  have c3 := b3.kept hg1 (by simp; omega)
  have hgw := (grownBy_below hb0 (some mb)).trans' hg1
  clear b1 b2 b3 hb0 hg1
  obtain ⟨k0, k1, k2, k3, k4⟩ := c1.c5
  obtain ⟨k5, _⟩ := c2.c1
  obtain ⟨k6, k7, k8, k9⟩ := c3.c2
  have lt1 := c1.lt
  have lt2 := c2.lt
  have lt3 := c3.lt
  have C1 := Lib.hid c1
  have C2 := Lib.hid c2
  have C3 := Lib.hid c3
  have HM1 := Lib.hid hm1
  have HGW := Lib.hid hgw
  have HSZ := Lib.hid hsz
  clear c1 c2 c3 hm1 hgw hsz
  have n1 : w.heap.size ≠ w1.heap.size := by omega
  have n2 : w.heap.size + 1 ≠ w1.heap.size := by omega
  have n3 : w.heap.size + 1 + 1 ≠ w1.heap.size := by omega
  have n4 : mb ≠ w1.heap.size := by have := HM1.out.lt; omega
  have hsl : ∀ W, (Instr.sliceAt 119 (.pointer (some ⟨w1.heap.size, 0, none⟩)) (some (.int .i64 (f : Int))) (some (.int .i64 ((s : Int) + 1))) none).run Try.prog W = .ok (.slice (some ⟨w1.heap.size, f, none⟩) (s + 1 - f) (51 - f)) W := slice119 _ f (s + 1 - f) _ _ (by omega) (by omega) (by omega) (by omega)
  go_wp2_with (first | (refine wpList_store_row rfl 119 _ _ rfl _ rfl 119 _ _ rfl (Blk.new w1 _ 119) tInfo119 (chArr_size _ _ _ _) (chArr_one _ _ _ _) ?_; intro w2 hb2 hg2; have c1 := (C1.out.alloc _).kept hg2 (by simpa using n1); have c2 := (C2.out.alloc _).kept hg2 (by simpa using n2); have c3 := (C3.out.alloc _).kept hg2 (by simpa using n3); have hm2 := (HM1.out.alloc _).kept hg2 (by simpa using n4); have hw2 := grownBy_rowNew (HGW.out.trans' (World.grownBy_alloc _ _ _)) hg2 (by omega); obtain ⟨k0, k1, k2, k3, k4⟩ := c1.c5; obtain ⟨k5, _⟩ := c2.c1; have lt1 := c1.lt; have lt2 := c2.lt; have lt3 := c3.lt; have lt4 := hb2.lt; have C1' := Lib.hid c1; have C3' := Lib.hid c3; have B2 := Lib.hid hb2; have HM2 := Lib.hid hm2; have HW2 := Lib.hid hw2; clear hg2 c1 c2 c3 hb2 hm2 hw2) | (go_at_call 55; (with_reducible refine (upper_any _ _ _ _ _).mono ?_); rintro e w3 ⟨rfl, hb3⟩; have c3 := C3'.out.below hb3 C3'.out.lt; have hb4 := B2.out.below hb3 B2.out.lt; obtain ⟨k6, k7, k8, k9⟩ := c3.c2; have lt5 := c3.lt; have C3'' := Lib.hid c3; have B4 := Lib.hid hb4; have H3 := Lib.hid hb3; clear c3 hb4 hb3) | (go_at_call 78; refine (C78.out _ _ B4.out).mono ?_; rintro e w4 ⟨rfl, rfl⟩))
  refine bodyPost_ret (v := fracV (sm (sets l u s) f (s + 1 - f) : Nat) (tot l u s)) (by simp [results, Try.results61, go_sem, k6, k7]) rfl ⟨rfl, ?_, ?_⟩
  · exact ((HM2.out.below H3.out HM2.out.lt).setCell (by simp; omega) _).setCell (by simp; omega) _
  · exact grownBy_setNew (grownBy_setNew (HW2.out.trans' (grownBy_below H3.out _)) (by show w.heap.size ≤ w.heap.size + 1 + 1; omega) _) (by show w.heap.size ≤ w.heap.size + 1 + 1; omega) _

end Go.Proofs.Ytkfobnhnehbkeaa
