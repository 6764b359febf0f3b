/- The walk of the statement on confidence. -/
import Derived.Test.YtkfobnhnehbkeaaAllL
namespace Go.Proofs.Ytkfobnhnehbkeaa
open Go.RowKit Go.Shelf
open Mis (ch sets tot sm low up lower excl rng)

def covF (l u s n d k : Nat) : Nat := if excl l s k n d u then 0 else sets l u s k
theorem cov_le (l u s n d k : Nat) (h : k ≤ s + 1) : sm (covF l u s n d) 0 k ≤ tot l u s := by
  refine Nat.le_trans (Mis.sm_le fun i _ _ => ?_) (sm_le_tot l u s k h)
  unfold covF; split <;> omega
theorem cov_end (l u s n d : Nat) : d * tot l u s ≤ d * sm (covF l u s n d) 0 (s + 1) + 2 * (n * tot l u s) := Mis.covered l u s n d
theorem in_iff {l M s k n d u : Nat} (h : okA l M s k) (hu : u ≤ M) {r : Nat × Nat} (hr : rangeOf l M s k n d = some r) : excl l s k n d u = false ↔ r.1 ≤ u ∧ u ≤ r.2 := by
  obtain ⟨h6, h7, h8, h9, h10⟩ := rangeOf_some hr
  exact ⟨fun he => h10 u hu he, fun hh => Mis.excl_between h.2.2 h.2.1 hh.1 hh.2 h6 h7⟩

set_option maxRecDepth 100000 in
set_option maxHeartbeats 4000000 in
theorem MissConfident_area (L M S F n d : Int) (b : Int) (w : World) (h : areaB L M S F = false) : Calls Try.prog 9 #[areaV L M S F, .int .u8 b, fracV n d] w fun e w' => e = .returned (.bool true) ∧ Below w.heap.size w w' := by
  have C42 := Lib.hid (fun w => rIsArea_any L M S F w)
  rw [h] at C42
  have C33 := Lib.hid (fun w => rIsLevel_any n d w)
  clear h
  have s0 := ((KS.start w).new #[.int .i64 L, .int .i64 M, .int .i64 S, .int .i64 F] 23).new #[.int .i64 n, .int .i64 d] 36
  rw [World.size_alloc] at s0
  obtain ⟨kb1_0, kb1_1, _⟩ := (s0.blkAt 0 rfl).c2
  obtain ⟨kb0_0, kb0_1, kb0_2, kb0_3⟩ := (s0.blkAt 1 rfl).c4
  have S0 := Lib.hid s0
  clear s0
  go_enter Try.func9, Try.ntmps9
  go_wp2_with fail
  refine (C42.out _).mono ?_
  rintro e w1 ⟨rfl, h1⟩
  clear kb1_0 kb1_1 kb0_0 kb0_1 kb0_2 kb0_3
  have s1 := S0.out.below h1
  obtain ⟨kb1_0, kb1_1, _⟩ := (s1.blkAt 0 rfl).c2
  obtain ⟨kb0_0, kb0_1, kb0_2, kb0_3⟩ := (s1.blkAt 1 rfl).c4
  have S1 := Lib.hid s1
  clear h1 s1
  go_wp2_with (first | (go_at_call 24; (with_reducible refine (awake_any _).mono ?_); rintro e w99 ⟨rfl, h99⟩; have S99 := Lib.hid (S1.out.below h99); clear h99))
  go_ret
  exact ⟨rfl, S99.out.bel⟩
set_option maxRecDepth 100000 in
set_option maxHeartbeats 4000000 in
theorem MissConfident_level (L M S F n d : Int) (b : Int) (w : World) (h : areaB L M S F = true) (hl : levB n d = false) : Calls Try.prog 9 #[areaV L M S F, .int .u8 b, fracV n d] w fun e w' => e = .returned (.bool true) ∧ Below w.heap.size w w' := by
  have C42 := Lib.hid (fun w => rIsArea_any L M S F w)
  rw [h] at C42
  have C33 := Lib.hid (fun w => rIsLevel_any n d w)
  rw [hl] at C33
  clear h hl
  have s0 := ((KS.start w).new #[.int .i64 L, .int .i64 M, .int .i64 S, .int .i64 F] 23).new #[.int .i64 n, .int .i64 d] 36
  rw [World.size_alloc] at s0
  obtain ⟨kb1_0, kb1_1, _⟩ := (s0.blkAt 0 rfl).c2
  obtain ⟨kb0_0, kb0_1, kb0_2, kb0_3⟩ := (s0.blkAt 1 rfl).c4
  have S0 := Lib.hid s0
  clear s0
  go_enter Try.func9, Try.ntmps9
  go_wp2_with fail
  refine (C42.out _).mono ?_
  rintro e w1 ⟨rfl, h1⟩
  clear kb1_0 kb1_1 kb0_0 kb0_1 kb0_2 kb0_3
  have s1 := S0.out.below h1
  obtain ⟨kb1_0, kb1_1, _⟩ := (s1.blkAt 0 rfl).c2
  obtain ⟨kb0_0, kb0_1, kb0_2, kb0_3⟩ := (s1.blkAt 1 rfl).c4
  have S1 := Lib.hid s1
  clear h1 s1
  go_wp2_with fail
  refine (C33.out _).mono ?_
  rintro e w2 ⟨rfl, h2⟩
  clear kb1_0 kb1_1 kb0_0 kb0_1 kb0_2 kb0_3
  have s2 := S1.out.below h2
  obtain ⟨kb1_0, kb1_1, _⟩ := (s2.blkAt 0 rfl).c2
  obtain ⟨kb0_0, kb0_1, kb0_2, kb0_3⟩ := (s2.blkAt 1 rfl).c4
  have S2 := Lib.hid s2
  clear h2 s2
  go_wp2_with (first | (go_at_call 24; (with_reducible refine (awake_any _).mono ?_); rintro e w99 ⟨rfl, h99⟩; have S99 := Lib.hid (S2.out.below h99); clear h99))
  go_ret
  exact ⟨rfl, S99.out.bel⟩
theorem conf_bd {t d n D : Nat} {P R : Int} (g : n ≤ d ∧ 1 ≤ d ∧ d ≤ 1000) (ht : t ≤ 1125899906842624) (hD : D ≤ 1125899906842624) (he : d * D ≤ d * t + 2 * (n * D)) (hP : P = (t : Int) * (d : Int)) (hR : R = ((d : Int) - 2 * (n : Int)) * (D : Int)) :
    0 ≤ P ∧ P ≤ 1125899906842624000 ∧ -1125899906842624000 ≤ R ∧ R ≤ 1125899906842624000 ∧ R ≤ P := by
  obtain ⟨g1, g2, g3⟩ := g
  have e1 : P = ((t * d : Nat) : Int) := by rw [hP, Int.natCast_mul]
  have e2 : R = ((d * D : Nat) : Int) - 2 * ((n * D : Nat) : Int) := by
    rw [hR, Int.natCast_mul, Int.natCast_mul, Int.sub_mul, Int.mul_assoc]
  have b1 : t * d ≤ 1125899906842624 * 1000 := Nat.mul_le_mul ht g3
  have b2 : d * D ≤ 1000 * 1125899906842624 := Nat.mul_le_mul g3 hD
  have b3 : n * D ≤ d * D := Nat.mul_le_mul_right _ g1
  rw [Nat.mul_comm d t] at he
  rw [e1, e2]
  omega
set_option maxRecDepth 100000 in
set_option maxHeartbeats 16000000 in
theorem MissConfident_ok (l M s f n d u : Nat) (b : Int) (w : World) (h : okA l M s f) (hl : levB n d = true) (hb : 0 ≤ b ∧ b ≤ 255) (e1 : b % ((M : Int) + 1) = u) (hu : u ≤ M) : Calls Try.prog 9 #[areaV l M s f, .int .u8 b, fracV n d] w fun e w' => e = .returned (.bool true) ∧ Below w.heap.size w w' := by
  obtain ⟨hb1, hb2⟩ := hb
  have C42 := Lib.hid (fun w => rIsArea_any l M s f w)
  rw [h.b] at C42
  have C33 := Lib.hid (fun w => rIsLevel_any n d w)
  rw [hl] at C33
  obtain ⟨g1, g2, g3⟩ := lev_of hl
  have hd := h
  obtain ⟨h1, h2, h3⟩ := h
  have C43 := Lib.hid (fun w => rAll_any l M s f l u s rfl rfl w (by omega))
  have hD : 0 < tot l u s := hd.pos u
  have hD2 : tot l u s ≤ 1125899906842624 := tot_le l u s (by omega)
  have hM50 : M ≤ 50 := by omega
  have hs50 : s ≤ 50 := by omega
  have hg : (0 : Int) < (M : Int) + 1 := by omega
  clear hd
  have s0 := ((KS.start w).new #[.int .i64 l, .int .i64 M, .int .i64 s, .int .i64 f] 23).new #[.int .i64 n, .int .i64 d] 36
  rw [World.size_alloc] at s0
  obtain ⟨kb1_0, kb1_1, _⟩ := (s0.blkAt 0 rfl).c2
  obtain ⟨kb0_0, kb0_1, kb0_2, kb0_3⟩ := (s0.blkAt 1 rfl).c4
  have S0 := Lib.hid s0
  clear s0
  go_enter Try.func9, Try.ntmps9
  go_wp2_with fail
  refine (C42.out _).mono ?_
  rintro e w1 ⟨rfl, h1⟩
  clear kb1_0 kb1_1 kb0_0 kb0_1 kb0_2 kb0_3
  have s1 := S0.out.below h1
  obtain ⟨kb1_0, kb1_1, _⟩ := (s1.blkAt 0 rfl).c2
  obtain ⟨kb0_0, kb0_1, kb0_2, kb0_3⟩ := (s1.blkAt 1 rfl).c4
  have S1 := Lib.hid s1
  clear h1 s1
  go_wp2_with fail
  refine (C33.out _).mono ?_
  rintro e w2 ⟨rfl, h2⟩
  clear kb1_0 kb1_1 kb0_0 kb0_1 kb0_2 kb0_3
  have s2 := S1.out.below h2
  obtain ⟨kb1_0, kb1_1, _⟩ := (s2.blkAt 0 rfl).c2
  obtain ⟨kb0_0, kb0_1, kb0_2, kb0_3⟩ := (s2.blkAt 1 rfl).c4
  have S2 := Lib.hid s2
  clear h2 s2
  go_wp2_with fail
  refine (C43.out _).mono ?_
  rintro e w3 ⟨rfl, h3⟩
  clear kb1_0 kb1_1 kb0_0 kb0_1 kb0_2 kb0_3
  have s3 := S2.out.below h3
  obtain ⟨kb1_0, kb1_1, _⟩ := (s3.blkAt 0 rfl).c2
  obtain ⟨kb0_0, kb0_1, kb0_2, kb0_3⟩ := (s3.blkAt 1 rfl).c4
  have S3 := Lib.hid s3
  clear h3 s3
  go_wp2_with fail
  clear kb1_0 kb1_1 kb0_0 kb0_1 kb0_2 kb0_3
  go_loopw [9, 10] (fun v x wr => ∃ k : Nat, k ≤ s + 1 ∧ x = .int .i64 (k : Int) ∧ v = .int .i64 (sm (covF l u s n d) 0 k : Nat) ∧ KS w [(w.heap.size + 1, #[.int .i64 n, .int .i64 d], 36), (w.heap.size, #[.int .i64 l, .int .i64 M, .int .i64 s, .int .i64 f], 23)] wr) (fun _ x _ => s + 1 - (intOf x).toNat)
  case atStart => exact ⟨0, Nat.zero_le _, rfl, rfl, S3.out⟩
  case round =>
    obtain ⟨k, hk, rfl, rfl, hS10⟩ := hrel
    have S10 := Lib.hid hS10
    by_cases hlt : k ≤ s
    · have hok : okA l M s k := ⟨h1, h2, hlt⟩
      have D36 := fun w => Missed_ok hok hl w
      have hst : sm (covF l u s n d) 0 (k + 1) = sm (covF l u s n d) 0 k + covF l u s n d k := by rw [Mis.sm_succ, Nat.zero_add]
      have hT : sm (covF l u s n d) 0 k ≤ 1125899906842624 := Nat.le_trans (cov_le l u s n d k hk) hD2
      obtain ⟨kb0_0, kb0_1, kb0_2, kb0_3⟩ := (hS10.blkAt 1 rfl).c4
      obtain ⟨kb1_0, kb1_1, _⟩ := (hS10.blkAt 0 rfl).c2
      have lt0 := hS10.lt 0 rfl
      have lt1 := hS10.lt 1 rfl
      clear hS10
      cases hr : rangeOf l M s k n d with
      | none =>
        have C36 := Lib.hid (show ∀ w, Calls Try.prog 36 #[areaV l M s k, fracV n d] w fun e w' => e = .returned (.tuple #[rangeV 0 0, .int .i64 9]) ∧ Below w.heap.size w w' from fun w => by have h1 := D36 w; unfold MissedPost at h1; rw [hr] at h1; exact h1)
        have hex := rangeOf_none hr u hu
        have hc0 : covF l u s n d k = 0 := by unfold covF; rw [hex]; rfl
        rw [hc0, Nat.add_zero] at hst
        have HST := Lib.hid hst
        clear hst hc0 hex hr D36 hok
        generalize sm (covF l u s n d) 0 k = t at *
        go_wp2_with fail
        have s11 := S10.out.new #[.int .i64 l, .int .i64 M, .int .i64 s, .int .i64 k] 23
        clear kb1_0 kb1_1 kb0_0 kb0_1 kb0_2 kb0_3
        obtain ⟨kb2_0, kb2_1, kb2_2, kb2_3⟩ := (s11.blkAt 0 rfl).c4
        obtain ⟨kb1_0, kb1_1, _⟩ := (s11.blkAt 1 rfl).c2
        obtain ⟨kb0_0, kb0_1, kb0_2, kb0_3⟩ := (s11.blkAt 2 rfl).c4
        have S11 := Lib.hid s11
        clear s11
        clear lt0 lt1
        generalize (wr.alloc (.cells #[.int .i64 l, .int .i64 M, .int .i64 s, .int .i64 k] 23)) = V12 at *
        obtain ⟨BS, hBS⟩ : ∃ BS : List (Nat × Array Value × TypeId), BS = [(wr.heap.size, #[.int .i64 l, .int .i64 M, .int .i64 s, .int .i64 k], 23), (w.heap.size + 1, #[.int .i64 n, .int .i64 d], 36), (w.heap.size, #[.int .i64 l, .int .i64 M, .int .i64 s, .int .i64 f], 23)] := ⟨_, rfl⟩
        have hS : KS w BS V12 := by rw [hBS]; exact S11.out
        have K0_0 : ∀ W, KS w BS W → W.cell? ⟨wr.heap.size, 0, none⟩ = some (.int .i64 l) := fun W h => by rw [hBS] at h; exact (h.blkAt 0 rfl).cell 0
        have K0_1 : ∀ W, KS w BS W → W.cell? ⟨wr.heap.size, 1, none⟩ = some (.int .i64 M) := fun W h => by rw [hBS] at h; exact (h.blkAt 0 rfl).cell 1
        have K0_2 : ∀ W, KS w BS W → W.cell? ⟨wr.heap.size, 2, none⟩ = some (.int .i64 s) := fun W h => by rw [hBS] at h; exact (h.blkAt 0 rfl).cell 2
        have K0_3 : ∀ W, KS w BS W → W.cell? ⟨wr.heap.size, 3, none⟩ = some (.int .i64 k) := fun W h => by rw [hBS] at h; exact (h.blkAt 0 rfl).cell 3
        have K1_0 : ∀ W, KS w BS W → W.cell? ⟨w.heap.size + 1, 0, none⟩ = some (.int .i64 n) := fun W h => by rw [hBS] at h; exact (h.blkAt 1 rfl).cell 0
        have K1_1 : ∀ W, KS w BS W → W.cell? ⟨w.heap.size + 1, 1, none⟩ = some (.int .i64 d) := fun W h => by rw [hBS] at h; exact (h.blkAt 1 rfl).cell 1
        have KZ0 : ∀ W b, KZ w BS b #[.int .i64 0, .int .i64 0] 48 W → W.cell? ⟨b, 0, none⟩ = some (.int .i64 0) := fun W b h => h.c0
        have KZ1 : ∀ W b, KZ w BS b #[.int .i64 0, .int .i64 0] 48 W → W.cell? ⟨b, 1, none⟩ = some (.int .i64 0) := fun W b h => h.c1
        have KF0 : ∀ W b, KZ w BS b #[.int .i64 0, .int .i64 0] 48 W → W.frozen? ⟨b, 0, none⟩ = false := fun W b h => h.f 0
        have KF1 : ∀ W b, KZ w BS b #[.int .i64 0, .int .i64 0] 48 W → W.frozen? ⟨b, 1, none⟩ = false := fun W b h => h.f 1
        have HBS := Lib.hid hBS
        clear hBS kb2_0 kb2_1 kb2_2 kb2_3 kb1_0 kb1_1 kb0_0 kb0_1 kb0_2 kb0_3
        refine wp_join (f := fun a b => ((((((((((a.put (some 46) (.agg #[.int .i64 l, .int .i64 M, .int .i64 s, .int .i64 k])).put (some 47) (.agg #[.int .i64 l, .int .i64 M, .int .i64 s, .int .i64 k])).put (some 48) (.agg #[.int .i64 n, .int .i64 d])).put (some 49) (.agg #[.int .i64 n, .int .i64 d])).put (some 50) (.tuple #[.agg #[.int .i64 0, .int .i64 0], .int .i64 9])).put (some 45) (.tuple #[.agg #[.int .i64 0, .int .i64 0], .int .i64 9])).put (some 51) (.agg #[.int .i64 0, .int .i64 0])).put (some 52) (.int .i64 9)).put (some 13) (.int .i64 9)).put (some 12) (.pointer (some ⟨b, 0, none⟩)))) (mid := fun b W' => KS w ((b, #[.int .i64 0, .int .i64 0], 48) :: BS) W') ?_ ?_
        · go_region_held3 (KS w BS)
            (first | assumption | exact KS.drew (by assumption) | exact KS.alloc (by assumption) _ | exact KS.drew (KS.alloc (by assumption) _) | exact KS.alloc (KS.drew (by assumption)) _ | exact KZ.ks (by assumption) | exact (KZ.new (by assumption) _ _).ks | exact KZ.keep2 (by assumption) | exact (KZ.keep2 (by assumption)).drew | exact (KZ.drew (by assumption)).keep2 | go_keep)
            (first | (go_at_call 20; (with_reducible refine (Area_any _ _ _ _ _).mono ?_); rintro e wn ⟨rfl, hb⟩; have hSn := KS.below (w := w) (bs := BS) (by first | assumption | exact KS.drew (by assumption)) hb; (first | (have hZ := KZ.below (w := w) (bs := BS) (cs := #[.int .i64 0, .int .i64 0]) (t := 48) (by assumption) hb) | (have hZ := KZ.below (w := w) (bs := BS) (KZ.new (by assumption) #[.int .i64 0, .int .i64 0] 48) hb) | (have hZ := KZ.below (w := w) (bs := BS) (KZ.newD (by assumption) #[.int .i64 0, .int .i64 0] 48) hb) | skip); clear hb) | (go_at_call 25; (with_reducible refine (part_any _ _ _).mono ?_); rintro e wn ⟨rfl, hb⟩; have hSn := KS.below (w := w) (bs := BS) (by first | assumption | exact KS.drew (by assumption)) hb; (first | (have hZ := KZ.below (w := w) (bs := BS) (cs := #[.int .i64 0, .int .i64 0]) (t := 48) (by assumption) hb) | (have hZ := KZ.below (w := w) (bs := BS) (KZ.new (by assumption) #[.int .i64 0, .int .i64 0] 48) hb) | (have hZ := KZ.below (w := w) (bs := BS) (KZ.newD (by assumption) #[.int .i64 0, .int .i64 0] 48) hb) | skip); clear hb) | (go_at_call 36; (with_reducible refine (C36.out _).mono ?_); rintro e wn ⟨rfl, hb⟩; have hSn := KS.below (w := w) (bs := BS) (by first | assumption | exact KS.drew (by assumption)) hb; (first | (have hZ := KZ.below (w := w) (bs := BS) (cs := #[.int .i64 0, .int .i64 0]) (t := 48) (by assumption) hb) | (have hZ := KZ.below (w := w) (bs := BS) (KZ.new (by assumption) #[.int .i64 0, .int .i64 0] 48) hb) | (have hZ := KZ.below (w := w) (bs := BS) (KZ.newD (by assumption) #[.int .i64 0, .int .i64 0] 48) hb) | skip); clear hb))
          all_goals first | exact ⟨rfl, _, rfl, KS.new (by assumption) _ _⟩ | exact ⟨rfl, _, rfl, KZ.set2 (by assumption)⟩ | exact ⟨rfl, _, rfl, KZ.set2D (by assumption)⟩ | exact ⟨rfl, _, rfl, (KZ.set2 (by assumption)).drew⟩
        intro nb12 w12 hM
        simp only [Act.put, List.setIfInBounds_toArray, List.set_cons_zero, List.set_cons_succ]
        have s12 : KS w [(nb12, #[.int .i64 0, .int .i64 0], 48), (wr.heap.size, #[.int .i64 l, .int .i64 M, .int .i64 s, .int .i64 k], 23), (w.heap.size + 1, #[.int .i64 n, .int .i64 d], 36), (w.heap.size, #[.int .i64 l, .int .i64 M, .int .i64 s, .int .i64 f], 23)] w12 := by have h := hM; rw [HBS.out] at h; exact h
        clear hS hM HBS KZ0 KZ1 KF0 KF1 K0_0 K0_1 K0_2 K0_3 K1_0 K1_1
        obtain ⟨kb3_0, kb3_1, _⟩ := (s12.blkAt 0 rfl).c2
        obtain ⟨kb2_0, kb2_1, kb2_2, kb2_3⟩ := (s12.blkAt 1 rfl).c4
        obtain ⟨kb1_0, kb1_1, _⟩ := (s12.blkAt 2 rfl).c2
        obtain ⟨kb0_0, kb0_1, kb0_2, kb0_3⟩ := (s12.blkAt 3 rfl).c4
        have S12 := Lib.hid s12
        clear s12
        go_wp2
        go_roundw
        case rel => exact ⟨k + 1, by omega, by go_num, by rw [HST.out]; first | rfl | simp, S12.out.sub (fun x hx => List.mem_cons_of_mem _ (List.mem_cons_of_mem _ hx))⟩
        case measure => simp [intOf]; omega
      | some r =>
        have hin := in_iff hok hu hr
        obtain ⟨lo, hi⟩ := r
        have C36 := Lib.hid (show ∀ w, Calls Try.prog 36 #[areaV l M s k, fracV n d] w fun e w' => e = .returned (.tuple #[rangeV lo hi, .int .i64 0]) ∧ Below w.heap.size w w' from fun w => by have h1 := D36 w; unfold MissedPost at h1; rw [hr] at h1; exact h1)
        simp only [] at hin
        by_cases hlo : u < lo
        · have hc0 : covF l u s n d k = 0 := by
            unfold covF
            cases hex : excl l s k n d u with
            | true => rfl
            | false => have := hin.1 hex; omega
          have z0 : decide ((u : Int) < (lo : Int)) = true := by simp; exact hlo
          have z1 : decide (u < lo) = true := by simp; exact hlo
          rw [hc0, Nat.add_zero] at hst
          have HST := Lib.hid hst
          clear hst hc0 hin hr D36 hok hlo
          generalize sm (covF l u s n d) 0 k = t at *
          go_wp2_with fail
          have s11 := S10.out.new #[.int .i64 l, .int .i64 M, .int .i64 s, .int .i64 k] 23
          clear kb1_0 kb1_1 kb0_0 kb0_1 kb0_2 kb0_3
          obtain ⟨kb2_0, kb2_1, kb2_2, kb2_3⟩ := (s11.blkAt 0 rfl).c4
          obtain ⟨kb1_0, kb1_1, _⟩ := (s11.blkAt 1 rfl).c2
          obtain ⟨kb0_0, kb0_1, kb0_2, kb0_3⟩ := (s11.blkAt 2 rfl).c4
          have S11 := Lib.hid s11
          clear s11
          clear lt0 lt1
          generalize (wr.alloc (.cells #[.int .i64 l, .int .i64 M, .int .i64 s, .int .i64 k] 23)) = V12 at *
          obtain ⟨BS, hBS⟩ : ∃ BS : List (Nat × Array Value × TypeId), BS = [(wr.heap.size, #[.int .i64 l, .int .i64 M, .int .i64 s, .int .i64 k], 23), (w.heap.size + 1, #[.int .i64 n, .int .i64 d], 36), (w.heap.size, #[.int .i64 l, .int .i64 M, .int .i64 s, .int .i64 f], 23)] := ⟨_, rfl⟩
          have hS : KS w BS V12 := by rw [hBS]; exact S11.out
          have K0_0 : ∀ W, KS w BS W → W.cell? ⟨wr.heap.size, 0, none⟩ = some (.int .i64 l) := fun W h => by rw [hBS] at h; exact (h.blkAt 0 rfl).cell 0
          have K0_1 : ∀ W, KS w BS W → W.cell? ⟨wr.heap.size, 1, none⟩ = some (.int .i64 M) := fun W h => by rw [hBS] at h; exact (h.blkAt 0 rfl).cell 1
          have K0_2 : ∀ W, KS w BS W → W.cell? ⟨wr.heap.size, 2, none⟩ = some (.int .i64 s) := fun W h => by rw [hBS] at h; exact (h.blkAt 0 rfl).cell 2
          have K0_3 : ∀ W, KS w BS W → W.cell? ⟨wr.heap.size, 3, none⟩ = some (.int .i64 k) := fun W h => by rw [hBS] at h; exact (h.blkAt 0 rfl).cell 3
          have K1_0 : ∀ W, KS w BS W → W.cell? ⟨w.heap.size + 1, 0, none⟩ = some (.int .i64 n) := fun W h => by rw [hBS] at h; exact (h.blkAt 1 rfl).cell 0
          have K1_1 : ∀ W, KS w BS W → W.cell? ⟨w.heap.size + 1, 1, none⟩ = some (.int .i64 d) := fun W h => by rw [hBS] at h; exact (h.blkAt 1 rfl).cell 1
          have KZ0 : ∀ W b, KZ w BS b #[.int .i64 0, .int .i64 0] 48 W → W.cell? ⟨b, 0, none⟩ = some (.int .i64 0) := fun W b h => h.c0
          have KZ1 : ∀ W b, KZ w BS b #[.int .i64 0, .int .i64 0] 48 W → W.cell? ⟨b, 1, none⟩ = some (.int .i64 0) := fun W b h => h.c1
          have KF0 : ∀ W b, KZ w BS b #[.int .i64 0, .int .i64 0] 48 W → W.frozen? ⟨b, 0, none⟩ = false := fun W b h => h.f 0
          have KF1 : ∀ W b, KZ w BS b #[.int .i64 0, .int .i64 0] 48 W → W.frozen? ⟨b, 1, none⟩ = false := fun W b h => h.f 1
          have HBS := Lib.hid hBS
          clear hBS kb2_0 kb2_1 kb2_2 kb2_3 kb1_0 kb1_1 kb0_0 kb0_1 kb0_2 kb0_3
          refine wp_join (f := fun a b => ((((((((((a.put (some 46) (.agg #[.int .i64 l, .int .i64 M, .int .i64 s, .int .i64 k])).put (some 47) (.agg #[.int .i64 l, .int .i64 M, .int .i64 s, .int .i64 k])).put (some 48) (.agg #[.int .i64 n, .int .i64 d])).put (some 49) (.agg #[.int .i64 n, .int .i64 d])).put (some 50) (.tuple #[.agg #[.int .i64 lo, .int .i64 hi], .int .i64 0])).put (some 45) (.tuple #[.agg #[.int .i64 lo, .int .i64 hi], .int .i64 0])).put (some 51) (.agg #[.int .i64 lo, .int .i64 hi])).put (some 52) (.int .i64 0)).put (some 13) (.int .i64 0)).put (some 12) (.pointer (some ⟨b, 0, none⟩)))) (mid := fun b W' => KS w ((b, #[.int .i64 lo, .int .i64 hi], 48) :: BS) W') ?_ ?_
          · go_region_held3 (KS w BS)
              (first | assumption | exact KS.drew (by assumption) | exact KS.alloc (by assumption) _ | exact KS.drew (KS.alloc (by assumption) _) | exact KS.alloc (KS.drew (by assumption)) _ | exact KZ.ks (by assumption) | exact (KZ.new (by assumption) _ _).ks | exact KZ.keep2 (by assumption) | exact (KZ.keep2 (by assumption)).drew | exact (KZ.drew (by assumption)).keep2 | go_keep)
              (first | (go_at_call 20; (with_reducible refine (Area_any _ _ _ _ _).mono ?_); rintro e wn ⟨rfl, hb⟩; have hSn := KS.below (w := w) (bs := BS) (by first | assumption | exact KS.drew (by assumption)) hb; (first | (have hZ := KZ.below (w := w) (bs := BS) (cs := #[.int .i64 0, .int .i64 0]) (t := 48) (by assumption) hb) | (have hZ := KZ.below (w := w) (bs := BS) (KZ.new (by assumption) #[.int .i64 0, .int .i64 0] 48) hb) | (have hZ := KZ.below (w := w) (bs := BS) (KZ.newD (by assumption) #[.int .i64 0, .int .i64 0] 48) hb) | skip); clear hb) | (go_at_call 25; (with_reducible refine (part_any _ _ _).mono ?_); rintro e wn ⟨rfl, hb⟩; have hSn := KS.below (w := w) (bs := BS) (by first | assumption | exact KS.drew (by assumption)) hb; (first | (have hZ := KZ.below (w := w) (bs := BS) (cs := #[.int .i64 0, .int .i64 0]) (t := 48) (by assumption) hb) | (have hZ := KZ.below (w := w) (bs := BS) (KZ.new (by assumption) #[.int .i64 0, .int .i64 0] 48) hb) | (have hZ := KZ.below (w := w) (bs := BS) (KZ.newD (by assumption) #[.int .i64 0, .int .i64 0] 48) hb) | skip); clear hb) | (go_at_call 36; (with_reducible refine (C36.out _).mono ?_); rintro e wn ⟨rfl, hb⟩; have hSn := KS.below (w := w) (bs := BS) (by first | assumption | exact KS.drew (by assumption)) hb; (first | (have hZ := KZ.below (w := w) (bs := BS) (cs := #[.int .i64 0, .int .i64 0]) (t := 48) (by assumption) hb) | (have hZ := KZ.below (w := w) (bs := BS) (KZ.new (by assumption) #[.int .i64 0, .int .i64 0] 48) hb) | (have hZ := KZ.below (w := w) (bs := BS) (KZ.newD (by assumption) #[.int .i64 0, .int .i64 0] 48) hb) | skip); clear hb))
            all_goals first | exact ⟨rfl, _, rfl, KS.new (by assumption) _ _⟩ | exact ⟨rfl, _, rfl, KZ.set2 (by assumption)⟩ | exact ⟨rfl, _, rfl, KZ.set2D (by assumption)⟩ | exact ⟨rfl, _, rfl, (KZ.set2 (by assumption)).drew⟩
          intro nb12 w12 hM
          simp only [Act.put, List.setIfInBounds_toArray, List.set_cons_zero, List.set_cons_succ]
          have s12 : KS w [(nb12, #[.int .i64 lo, .int .i64 hi], 48), (wr.heap.size, #[.int .i64 l, .int .i64 M, .int .i64 s, .int .i64 k], 23), (w.heap.size + 1, #[.int .i64 n, .int .i64 d], 36), (w.heap.size, #[.int .i64 l, .int .i64 M, .int .i64 s, .int .i64 f], 23)] w12 := by have h := hM; rw [HBS.out] at h; exact h
          clear hS hM HBS KZ0 KZ1 KF0 KF1 K0_0 K0_1 K0_2 K0_3 K1_0 K1_1
          obtain ⟨kb3_0, kb3_1, _⟩ := (s12.blkAt 0 rfl).c2
          obtain ⟨kb2_0, kb2_1, kb2_2, kb2_3⟩ := (s12.blkAt 1 rfl).c4
          obtain ⟨kb1_0, kb1_1, _⟩ := (s12.blkAt 2 rfl).c2
          obtain ⟨kb0_0, kb0_1, kb0_2, kb0_3⟩ := (s12.blkAt 3 rfl).c4
          have S12 := Lib.hid s12
          clear s12
          go_wp2
          go_roundw
          case rel => exact ⟨k + 1, by omega, by go_num, by rw [HST.out]; first | rfl | simp, S12.out.sub (fun x hx => List.mem_cons_of_mem _ (List.mem_cons_of_mem _ hx))⟩
          case measure => simp [intOf]; omega
        · have z0 : decide ((u : Int) < (lo : Int)) = false := by simp; omega
          have z1 : decide (u < lo) = false := by simp; omega
          by_cases hhi : hi < u
          · have hc0 : covF l u s n d k = 0 := by
              unfold covF
              cases hex : excl l s k n d u with
              | true => rfl
              | false => have := hin.1 hex; omega
            have z2 : decide ((hi : Int) < (u : Int)) = true := by simp; exact hhi
            have z3 : decide (hi < u) = true := by simp; exact hhi
            rw [hc0, Nat.add_zero] at hst
            have HST := Lib.hid hst
            clear hst hc0 hin hr D36 hok hlo hhi
            generalize sm (covF l u s n d) 0 k = t at *
            go_wp2_with fail
            have s11 := S10.out.new #[.int .i64 l, .int .i64 M, .int .i64 s, .int .i64 k] 23
            clear kb1_0 kb1_1 kb0_0 kb0_1 kb0_2 kb0_3
            obtain ⟨kb2_0, kb2_1, kb2_2, kb2_3⟩ := (s11.blkAt 0 rfl).c4
            obtain ⟨kb1_0, kb1_1, _⟩ := (s11.blkAt 1 rfl).c2
            obtain ⟨kb0_0, kb0_1, kb0_2, kb0_3⟩ := (s11.blkAt 2 rfl).c4
            have S11 := Lib.hid s11
            clear s11
            clear lt0 lt1
            generalize (wr.alloc (.cells #[.int .i64 l, .int .i64 M, .int .i64 s, .int .i64 k] 23)) = V12 at *
            obtain ⟨BS, hBS⟩ : ∃ BS : List (Nat × Array Value × TypeId), BS = [(wr.heap.size, #[.int .i64 l, .int .i64 M, .int .i64 s, .int .i64 k], 23), (w.heap.size + 1, #[.int .i64 n, .int .i64 d], 36), (w.heap.size, #[.int .i64 l, .int .i64 M, .int .i64 s, .int .i64 f], 23)] := ⟨_, rfl⟩
            have hS : KS w BS V12 := by rw [hBS]; exact S11.out
            have K0_0 : ∀ W, KS w BS W → W.cell? ⟨wr.heap.size, 0, none⟩ = some (.int .i64 l) := fun W h => by rw [hBS] at h; exact (h.blkAt 0 rfl).cell 0
            have K0_1 : ∀ W, KS w BS W → W.cell? ⟨wr.heap.size, 1, none⟩ = some (.int .i64 M) := fun W h => by rw [hBS] at h; exact (h.blkAt 0 rfl).cell 1
            have K0_2 : ∀ W, KS w BS W → W.cell? ⟨wr.heap.size, 2, none⟩ = some (.int .i64 s) := fun W h => by rw [hBS] at h; exact (h.blkAt 0 rfl).cell 2
            have K0_3 : ∀ W, KS w BS W → W.cell? ⟨wr.heap.size, 3, none⟩ = some (.int .i64 k) := fun W h => by rw [hBS] at h; exact (h.blkAt 0 rfl).cell 3
            have K1_0 : ∀ W, KS w BS W → W.cell? ⟨w.heap.size + 1, 0, none⟩ = some (.int .i64 n) := fun W h => by rw [hBS] at h; exact (h.blkAt 1 rfl).cell 0
            have K1_1 : ∀ W, KS w BS W → W.cell? ⟨w.heap.size + 1, 1, none⟩ = some (.int .i64 d) := fun W h => by rw [hBS] at h; exact (h.blkAt 1 rfl).cell 1
            have KZ0 : ∀ W b, KZ w BS b #[.int .i64 0, .int .i64 0] 48 W → W.cell? ⟨b, 0, none⟩ = some (.int .i64 0) := fun W b h => h.c0
            have KZ1 : ∀ W b, KZ w BS b #[.int .i64 0, .int .i64 0] 48 W → W.cell? ⟨b, 1, none⟩ = some (.int .i64 0) := fun W b h => h.c1
            have KF0 : ∀ W b, KZ w BS b #[.int .i64 0, .int .i64 0] 48 W → W.frozen? ⟨b, 0, none⟩ = false := fun W b h => h.f 0
            have KF1 : ∀ W b, KZ w BS b #[.int .i64 0, .int .i64 0] 48 W → W.frozen? ⟨b, 1, none⟩ = false := fun W b h => h.f 1
            have HBS := Lib.hid hBS
            clear hBS kb2_0 kb2_1 kb2_2 kb2_3 kb1_0 kb1_1 kb0_0 kb0_1 kb0_2 kb0_3
            refine wp_join (f := fun a b => ((((((((((a.put (some 46) (.agg #[.int .i64 l, .int .i64 M, .int .i64 s, .int .i64 k])).put (some 47) (.agg #[.int .i64 l, .int .i64 M, .int .i64 s, .int .i64 k])).put (some 48) (.agg #[.int .i64 n, .int .i64 d])).put (some 49) (.agg #[.int .i64 n, .int .i64 d])).put (some 50) (.tuple #[.agg #[.int .i64 lo, .int .i64 hi], .int .i64 0])).put (some 45) (.tuple #[.agg #[.int .i64 lo, .int .i64 hi], .int .i64 0])).put (some 51) (.agg #[.int .i64 lo, .int .i64 hi])).put (some 52) (.int .i64 0)).put (some 13) (.int .i64 0)).put (some 12) (.pointer (some ⟨b, 0, none⟩)))) (mid := fun b W' => KS w ((b, #[.int .i64 lo, .int .i64 hi], 48) :: BS) W') ?_ ?_
            · go_region_held3 (KS w BS)
                (first | assumption | exact KS.drew (by assumption) | exact KS.alloc (by assumption) _ | exact KS.drew (KS.alloc (by assumption) _) | exact KS.alloc (KS.drew (by assumption)) _ | exact KZ.ks (by assumption) | exact (KZ.new (by assumption) _ _).ks | exact KZ.keep2 (by assumption) | exact (KZ.keep2 (by assumption)).drew | exact (KZ.drew (by assumption)).keep2 | go_keep)
                (first | (go_at_call 20; (with_reducible refine (Area_any _ _ _ _ _).mono ?_); rintro e wn ⟨rfl, hb⟩; have hSn := KS.below (w := w) (bs := BS) (by first | assumption | exact KS.drew (by assumption)) hb; (first | (have hZ := KZ.below (w := w) (bs := BS) (cs := #[.int .i64 0, .int .i64 0]) (t := 48) (by assumption) hb) | (have hZ := KZ.below (w := w) (bs := BS) (KZ.new (by assumption) #[.int .i64 0, .int .i64 0] 48) hb) | (have hZ := KZ.below (w := w) (bs := BS) (KZ.newD (by assumption) #[.int .i64 0, .int .i64 0] 48) hb) | skip); clear hb) | (go_at_call 25; (with_reducible refine (part_any _ _ _).mono ?_); rintro e wn ⟨rfl, hb⟩; have hSn := KS.below (w := w) (bs := BS) (by first | assumption | exact KS.drew (by assumption)) hb; (first | (have hZ := KZ.below (w := w) (bs := BS) (cs := #[.int .i64 0, .int .i64 0]) (t := 48) (by assumption) hb) | (have hZ := KZ.below (w := w) (bs := BS) (KZ.new (by assumption) #[.int .i64 0, .int .i64 0] 48) hb) | (have hZ := KZ.below (w := w) (bs := BS) (KZ.newD (by assumption) #[.int .i64 0, .int .i64 0] 48) hb) | skip); clear hb) | (go_at_call 36; (with_reducible refine (C36.out _).mono ?_); rintro e wn ⟨rfl, hb⟩; have hSn := KS.below (w := w) (bs := BS) (by first | assumption | exact KS.drew (by assumption)) hb; (first | (have hZ := KZ.below (w := w) (bs := BS) (cs := #[.int .i64 0, .int .i64 0]) (t := 48) (by assumption) hb) | (have hZ := KZ.below (w := w) (bs := BS) (KZ.new (by assumption) #[.int .i64 0, .int .i64 0] 48) hb) | (have hZ := KZ.below (w := w) (bs := BS) (KZ.newD (by assumption) #[.int .i64 0, .int .i64 0] 48) hb) | skip); clear hb))
              all_goals first | exact ⟨rfl, _, rfl, KS.new (by assumption) _ _⟩ | exact ⟨rfl, _, rfl, KZ.set2 (by assumption)⟩ | exact ⟨rfl, _, rfl, KZ.set2D (by assumption)⟩ | exact ⟨rfl, _, rfl, (KZ.set2 (by assumption)).drew⟩
            intro nb12 w12 hM
            simp only [Act.put, List.setIfInBounds_toArray, List.set_cons_zero, List.set_cons_succ]
            have s12 : KS w [(nb12, #[.int .i64 lo, .int .i64 hi], 48), (wr.heap.size, #[.int .i64 l, .int .i64 M, .int .i64 s, .int .i64 k], 23), (w.heap.size + 1, #[.int .i64 n, .int .i64 d], 36), (w.heap.size, #[.int .i64 l, .int .i64 M, .int .i64 s, .int .i64 f], 23)] w12 := by have h := hM; rw [HBS.out] at h; exact h
            clear hS hM HBS KZ0 KZ1 KF0 KF1 K0_0 K0_1 K0_2 K0_3 K1_0 K1_1
            obtain ⟨kb3_0, kb3_1, _⟩ := (s12.blkAt 0 rfl).c2
            obtain ⟨kb2_0, kb2_1, kb2_2, kb2_3⟩ := (s12.blkAt 1 rfl).c4
            obtain ⟨kb1_0, kb1_1, _⟩ := (s12.blkAt 2 rfl).c2
            obtain ⟨kb0_0, kb0_1, kb0_2, kb0_3⟩ := (s12.blkAt 3 rfl).c4
            have S12 := Lib.hid s12
            clear s12
            go_wp2
            go_roundw
            case rel => exact ⟨k + 1, by omega, by go_num, by rw [HST.out]; first | rfl | simp, S12.out.sub (fun x hx => List.mem_cons_of_mem _ (List.mem_cons_of_mem _ hx))⟩
            case measure => simp [intOf]; omega
          · have z2 : decide ((hi : Int) < (u : Int)) = false := by simp; omega
            have z3 : decide (hi < u) = false := by simp; omega
            have hex : excl l s k n d u = false := hin.2 ⟨by omega, by omega⟩
            have hc0 : covF l u s n d k = sm (sets l u s) k 1 := by unfold covF; rw [hex]; simp [Mis.sm_succ, Mis.sm_zero]
            rw [hc0] at hst
            have b2 := cov_le l u s n d (k + 1) (by omega)
            have C19 := Lib.hid (fun w => Chance_ok hok hu w)
            have C44 := Lib.hid (fun w => add_any (sm (covF l u s n d) 0 k) (sm (sets l u s) k 1) (tot l u s) w hD (by omega) hD2 hT)
            have hT2 : sm (sets l u s) k 1 ≤ 1125899906842624 := by omega
            have HST := Lib.hid hst
            unfold ChPost at C19
            unfold lowV at C19 C44
            clear hst hc0 hin hr D36 hok hlo hhi hex b2
            generalize sm (sets l u s) k 1 / Nat.gcd (sm (sets l u s) k 1) (tot l u s) = p at *
            generalize tot l u s / Nat.gcd (sm (sets l u s) k 1) (tot l u s) = p2 at *
            generalize sm (sets l u s) k 1 = N at *
            generalize sm (covF l u s n d) 0 k = t at *
            go_wp2_with fail
            have s11 := S10.out.new #[.int .i64 l, .int .i64 M, .int .i64 s, .int .i64 k] 23
            clear kb1_0 kb1_1 kb0_0 kb0_1 kb0_2 kb0_3
            obtain ⟨kb2_0, kb2_1, kb2_2, kb2_3⟩ := (s11.blkAt 0 rfl).c4
            obtain ⟨kb1_0, kb1_1, _⟩ := (s11.blkAt 1 rfl).c2
            obtain ⟨kb0_0, kb0_1, kb0_2, kb0_3⟩ := (s11.blkAt 2 rfl).c4
            have S11 := Lib.hid s11
            clear s11
            clear lt0 lt1
            generalize (wr.alloc (.cells #[.int .i64 l, .int .i64 M, .int .i64 s, .int .i64 k] 23)) = V12 at *
            obtain ⟨BS, hBS⟩ : ∃ BS : List (Nat × Array Value × TypeId), BS = [(wr.heap.size, #[.int .i64 l, .int .i64 M, .int .i64 s, .int .i64 k], 23), (w.heap.size + 1, #[.int .i64 n, .int .i64 d], 36), (w.heap.size, #[.int .i64 l, .int .i64 M, .int .i64 s, .int .i64 f], 23)] := ⟨_, rfl⟩
            have hS : KS w BS V12 := by rw [hBS]; exact S11.out
            have K0_0 : ∀ W, KS w BS W → W.cell? ⟨wr.heap.size, 0, none⟩ = some (.int .i64 l) := fun W h => by rw [hBS] at h; exact (h.blkAt 0 rfl).cell 0
            have K0_1 : ∀ W, KS w BS W → W.cell? ⟨wr.heap.size, 1, none⟩ = some (.int .i64 M) := fun W h => by rw [hBS] at h; exact (h.blkAt 0 rfl).cell 1
            have K0_2 : ∀ W, KS w BS W → W.cell? ⟨wr.heap.size, 2, none⟩ = some (.int .i64 s) := fun W h => by rw [hBS] at h; exact (h.blkAt 0 rfl).cell 2
            have K0_3 : ∀ W, KS w BS W → W.cell? ⟨wr.heap.size, 3, none⟩ = some (.int .i64 k) := fun W h => by rw [hBS] at h; exact (h.blkAt 0 rfl).cell 3
            have K1_0 : ∀ W, KS w BS W → W.cell? ⟨w.heap.size + 1, 0, none⟩ = some (.int .i64 n) := fun W h => by rw [hBS] at h; exact (h.blkAt 1 rfl).cell 0
            have K1_1 : ∀ W, KS w BS W → W.cell? ⟨w.heap.size + 1, 1, none⟩ = some (.int .i64 d) := fun W h => by rw [hBS] at h; exact (h.blkAt 1 rfl).cell 1
            have KZ0 : ∀ W b, KZ w BS b #[.int .i64 0, .int .i64 0] 48 W → W.cell? ⟨b, 0, none⟩ = some (.int .i64 0) := fun W b h => h.c0
            have KZ1 : ∀ W b, KZ w BS b #[.int .i64 0, .int .i64 0] 48 W → W.cell? ⟨b, 1, none⟩ = some (.int .i64 0) := fun W b h => h.c1
            have KF0 : ∀ W b, KZ w BS b #[.int .i64 0, .int .i64 0] 48 W → W.frozen? ⟨b, 0, none⟩ = false := fun W b h => h.f 0
            have KF1 : ∀ W b, KZ w BS b #[.int .i64 0, .int .i64 0] 48 W → W.frozen? ⟨b, 1, none⟩ = false := fun W b h => h.f 1
            have HBS := Lib.hid hBS
            clear hBS kb2_0 kb2_1 kb2_2 kb2_3 kb1_0 kb1_1 kb0_0 kb0_1 kb0_2 kb0_3
            refine wp_join (f := fun a b => ((((((((((a.put (some 46) (.agg #[.int .i64 l, .int .i64 M, .int .i64 s, .int .i64 k])).put (some 47) (.agg #[.int .i64 l, .int .i64 M, .int .i64 s, .int .i64 k])).put (some 48) (.agg #[.int .i64 n, .int .i64 d])).put (some 49) (.agg #[.int .i64 n, .int .i64 d])).put (some 50) (.tuple #[.agg #[.int .i64 lo, .int .i64 hi], .int .i64 0])).put (some 45) (.tuple #[.agg #[.int .i64 lo, .int .i64 hi], .int .i64 0])).put (some 51) (.agg #[.int .i64 lo, .int .i64 hi])).put (some 52) (.int .i64 0)).put (some 13) (.int .i64 0)).put (some 12) (.pointer (some ⟨b, 0, none⟩)))) (mid := fun b W' => KS w ((b, #[.int .i64 lo, .int .i64 hi], 48) :: BS) W') ?_ ?_
            · go_region_held3 (KS w BS)
                (first | assumption | exact KS.drew (by assumption) | exact KS.alloc (by assumption) _ | exact KS.drew (KS.alloc (by assumption) _) | exact KS.alloc (KS.drew (by assumption)) _ | exact KZ.ks (by assumption) | exact (KZ.new (by assumption) _ _).ks | exact KZ.keep2 (by assumption) | exact (KZ.keep2 (by assumption)).drew | exact (KZ.drew (by assumption)).keep2 | go_keep)
                (first | (go_at_call 20; (with_reducible refine (Area_any _ _ _ _ _).mono ?_); rintro e wn ⟨rfl, hb⟩; have hSn := KS.below (w := w) (bs := BS) (by first | assumption | exact KS.drew (by assumption)) hb; (first | (have hZ := KZ.below (w := w) (bs := BS) (cs := #[.int .i64 0, .int .i64 0]) (t := 48) (by assumption) hb) | (have hZ := KZ.below (w := w) (bs := BS) (KZ.new (by assumption) #[.int .i64 0, .int .i64 0] 48) hb) | (have hZ := KZ.below (w := w) (bs := BS) (KZ.newD (by assumption) #[.int .i64 0, .int .i64 0] 48) hb) | skip); clear hb) | (go_at_call 25; (with_reducible refine (part_any _ _ _).mono ?_); rintro e wn ⟨rfl, hb⟩; have hSn := KS.below (w := w) (bs := BS) (by first | assumption | exact KS.drew (by assumption)) hb; (first | (have hZ := KZ.below (w := w) (bs := BS) (cs := #[.int .i64 0, .int .i64 0]) (t := 48) (by assumption) hb) | (have hZ := KZ.below (w := w) (bs := BS) (KZ.new (by assumption) #[.int .i64 0, .int .i64 0] 48) hb) | (have hZ := KZ.below (w := w) (bs := BS) (KZ.newD (by assumption) #[.int .i64 0, .int .i64 0] 48) hb) | skip); clear hb) | (go_at_call 36; (with_reducible refine (C36.out _).mono ?_); rintro e wn ⟨rfl, hb⟩; have hSn := KS.below (w := w) (bs := BS) (by first | assumption | exact KS.drew (by assumption)) hb; (first | (have hZ := KZ.below (w := w) (bs := BS) (cs := #[.int .i64 0, .int .i64 0]) (t := 48) (by assumption) hb) | (have hZ := KZ.below (w := w) (bs := BS) (KZ.new (by assumption) #[.int .i64 0, .int .i64 0] 48) hb) | (have hZ := KZ.below (w := w) (bs := BS) (KZ.newD (by assumption) #[.int .i64 0, .int .i64 0] 48) hb) | skip); clear hb))
              all_goals first | exact ⟨rfl, _, rfl, KS.new (by assumption) _ _⟩ | exact ⟨rfl, _, rfl, KZ.set2 (by assumption)⟩ | exact ⟨rfl, _, rfl, KZ.set2D (by assumption)⟩ | exact ⟨rfl, _, rfl, (KZ.set2 (by assumption)).drew⟩
            intro nb12 w12 hM
            simp only [Act.put, List.setIfInBounds_toArray, List.set_cons_zero, List.set_cons_succ]
            have s12 : KS w [(nb12, #[.int .i64 lo, .int .i64 hi], 48), (wr.heap.size, #[.int .i64 l, .int .i64 M, .int .i64 s, .int .i64 k], 23), (w.heap.size + 1, #[.int .i64 n, .int .i64 d], 36), (w.heap.size, #[.int .i64 l, .int .i64 M, .int .i64 s, .int .i64 f], 23)] w12 := by have h := hM; rw [HBS.out] at h; exact h
            clear hS hM HBS KZ0 KZ1 KF0 KF1 K0_0 K0_1 K0_2 K0_3 K1_0 K1_1
            obtain ⟨kb3_0, kb3_1, _⟩ := (s12.blkAt 0 rfl).c2
            obtain ⟨kb2_0, kb2_1, kb2_2, kb2_3⟩ := (s12.blkAt 1 rfl).c4
            obtain ⟨kb1_0, kb1_1, _⟩ := (s12.blkAt 2 rfl).c2
            obtain ⟨kb0_0, kb0_1, kb0_2, kb0_3⟩ := (s12.blkAt 3 rfl).c4
            have S12 := Lib.hid s12
            clear s12
            go_wp2_with fail
            refine (Area_any _ _ _ _ _).mono ?_
            rintro e w13 ⟨rfl, h13⟩
            clear kb3_0 kb3_1 kb2_0 kb2_1 kb2_2 kb2_3 kb1_0 kb1_1 kb0_0 kb0_1 kb0_2 kb0_3
            have s13 := S12.out.below h13
            obtain ⟨kb3_0, kb3_1, _⟩ := (s13.blkAt 0 rfl).c2
            obtain ⟨kb2_0, kb2_1, kb2_2, kb2_3⟩ := (s13.blkAt 1 rfl).c4
            obtain ⟨kb1_0, kb1_1, _⟩ := (s13.blkAt 2 rfl).c2
            obtain ⟨kb0_0, kb0_1, kb0_2, kb0_3⟩ := (s13.blkAt 3 rfl).c4
            have S13 := Lib.hid s13
            clear h13 s13
            go_wp2_with fail
            refine (C19.out _).mono ?_
            rintro e w14 ⟨rfl, h14⟩
            clear kb3_0 kb3_1 kb2_0 kb2_1 kb2_2 kb2_3 kb1_0 kb1_1 kb0_0 kb0_1 kb0_2 kb0_3
            have s14 := (S13.out.below h14).new #[.int .i64 p, .int .i64 p2] 25
            obtain ⟨kb4_0, kb4_1, _⟩ := (s14.blkAt 0 rfl).c2
            obtain ⟨kb3_0, kb3_1, _⟩ := (s14.blkAt 1 rfl).c2
            obtain ⟨kb2_0, kb2_1, kb2_2, kb2_3⟩ := (s14.blkAt 2 rfl).c4
            obtain ⟨kb1_0, kb1_1, _⟩ := (s14.blkAt 3 rfl).c2
            obtain ⟨kb0_0, kb0_1, kb0_2, kb0_3⟩ := (s14.blkAt 4 rfl).c4
            have S14 := Lib.hid s14
            clear h14 s14
            go_wp2_with fail
            refine (C44.out _).mono ?_
            rintro e w15 ⟨rfl, h15⟩
            clear kb4_0 kb4_1 kb3_0 kb3_1 kb2_0 kb2_1 kb2_2 kb2_3 kb1_0 kb1_1 kb0_0 kb0_1 kb0_2 kb0_3
            have s15 := S14.out.below h15
            obtain ⟨kb4_0, kb4_1, _⟩ := (s15.blkAt 0 rfl).c2
            obtain ⟨kb3_0, kb3_1, _⟩ := (s15.blkAt 1 rfl).c2
            obtain ⟨kb2_0, kb2_1, kb2_2, kb2_3⟩ := (s15.blkAt 2 rfl).c4
            obtain ⟨kb1_0, kb1_1, _⟩ := (s15.blkAt 3 rfl).c2
            obtain ⟨kb0_0, kb0_1, kb0_2, kb0_3⟩ := (s15.blkAt 4 rfl).c4
            have S15 := Lib.hid s15
            clear h15 s15
            go_wp2_with fail
            go_roundw
            case rel => exact ⟨k + 1, by omega, by go_num, by rw [HST.out]; go_num, S15.out.sub (fun x hx => List.mem_cons_of_mem _ (List.mem_cons_of_mem _ (List.mem_cons_of_mem _ hx)))⟩
            case measure => simp [intOf]; omega
    · obtain rfl : k = s + 1 := by omega
      have hend := cov_end l u s n d
      have hT : sm (covF l u s n d) 0 (s + 1) ≤ 1125899906842624 := Nat.le_trans (cov_le l u s n d (s + 1) hk) hD2
      obtain ⟨kb0_0, kb0_1, kb0_2, kb0_3⟩ := (hS10.blkAt 1 rfl).c4
      obtain ⟨kb1_0, kb1_1, _⟩ := (hS10.blkAt 0 rfl).c2
      clear hS10
      have HH : Hid ((n ≤ d ∧ 1 ≤ d ∧ d ≤ 1000) ∧ d * tot l u s ≤ d * sm (covF l u s n d) 0 (s + 1) + 2 * (n * tot l u s)) := Lib.hid ⟨⟨g3, g1, g2⟩, hend⟩
      clear hend
      obtain ⟨P, hP⟩ : ∃ P : Int, P = (sm (covF l u s n d) 0 (s + 1) : Int) * (d : Int) := ⟨_, rfl⟩
      obtain ⟨R, hR⟩ : ∃ R : Int, R = ((d : Int) - 2 * (n : Int)) * (tot l u s : Int) := ⟨_, rfl⟩
      obtain ⟨z1, z2, z3, z4, z5⟩ := conf_bd HH.out.1 hT hD2 HH.out.2 hP hR
      have y1 := hP.symm
      have y2 := hR.symm
      have z6 : decide (R ≤ P) = true := by simpa using z5
      clear z5 hP hR hlt hk
      go_wp2_with (first | (go_at_call 24; (with_reducible refine (awake_any _).mono ?_); rintro e w99 ⟨rfl, h99⟩; have S99 := Lib.hid (S10.out.below h99); clear h99))
      go_ret
      exact ⟨rfl, S99.out.bel⟩
theorem MissConfident_walk (L M S F b n d : Int) (w : World) (hb : (Lit.int .u8 b).wf = true) : Calls Try.prog 9 #[areaV L M S F, .int .u8 b, fracV n d] w fun e w' => e = .returned (.bool true) ∧ Below w.heap.size w w' := by
  have hb2 : 0 ≤ b ∧ b ≤ 255 := by simp [Lit.wf] at hb; exact hb
  cases h : areaB L M S F with
  | false => exact MissConfident_area L M S F n d b w h
  | true =>
    cases hl : levB n d with
    | false => exact MissConfident_level L M S F n d b w h hl
    | true =>
      obtain ⟨l, m, s, f, rfl, rfl, rfl, rfl, hk⟩ := okA.of h
      obtain ⟨e1, e2, h3, h4, h5⟩ := lev_nat hl
      rw [e1, e2] at hl ⊢
      generalize n.toNat = n at *
      generalize d.toNat = d at *
      have p1 : 0 ≤ b % ((m : Int) + 1) := Int.emod_nonneg _ (by omega)
      have p2 : b % ((m : Int) + 1) < (m : Int) + 1 := Int.emod_lt_of_pos _ (by omega)
      obtain ⟨u, hu⟩ : ∃ u : Nat, b % ((m : Int) + 1) = u := ⟨(b % ((m : Int) + 1)).toNat, by omega⟩
      exact MissConfident_ok l m s f n d u b w hk hl hb2 hu (by omega)
end Go.Proofs.Ytkfobnhnehbkeaa
