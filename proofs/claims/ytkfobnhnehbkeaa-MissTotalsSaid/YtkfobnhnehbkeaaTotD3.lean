/- MissTotals: the path on which the ranges are summed. -/
import Derived.Test.YtkfobnhnehbkeaaTotQ
namespace Go.Proofs.Ytkfobnhnehbkeaa
open Go.RowKit Go.Shelf

theorem totS_none_of3 {n d : Nat} {xs : List A4} {i : Nat} (h : totS n d (xs.take i) = none) : totS n d xs = none := by
  have e : xs = xs.take i ++ xs.drop i := (List.take_append_drop i xs).symm
  rw [e]
  unfold totS at h ⊢
  rw [List.foldl_append, h, foldl_none]

set_option maxRecDepth 100000 in
set_option maxHeartbeats 8000000 in
theorem tot_DZ (ad : Option Addr) (g o cap k : Nat) (xs : List A4) (n d : Nat) (w : World) (hN : xs.length = k) (had : xs ≠ [] → ad = some ⟨g, o, none⟩) (hb : xs ≠ [] → g < w.heap.size) (h0 : k = 0) (hk9 : k ≤ 9) (hk6 : k ≤ 6) (ha : AreasAt w g o xs) (hall : xs.all A4.ok = true) (hl : levB n d = true) (rl rh : Nat) (ht : totS n d xs = some (rl, rh)) :
    Calls Try.prog 5 #[.slice ad k cap, fracV n d] w fun e w' => e = .returned (.bool true) ∧ Below w.heap.size w w' := by
  have hr : totRes xs n d = (rl, rh, 0) := by
    rw [totRes, if_neg (by omega), if_neg (by rw [hall]; simp), if_neg (by rw [hl]; simp)]
    rw [show (n : Int).toNat = n from rfl, show (d : Int).toNat = d from rfl, ht]
  have C32 := Lib.hid (Areas_ak ad g o cap k xs w hN had hb (by omega) ha)
  have C31 := Lib.hid (fun (W : World) (a : Option Addr) (g' c : Nat) (h : AK W a g' xs) => Total_ak h k c hN n d hr)
  have hwa : wa xs = 0 := by simp [wa, hall]
  have HWA := Lib.hid hwa
  have HN := Lib.hid hN
  have HA := Lib.hid ha
  have t0 : decide ((0 : Int) < (k : Int)) = false := by simp; omega
  have te : ((k : Int) == 0) = true := by simp; omega
  have H00 := Lib.hid h0
  have hk00 : k ≤ 0 := by omega
  clear had hb h0
  have HLL := Lib.hid hall
  have t9 : decide ((9 : Int) < (k : Int)) = false := by simp; omega
  have t6 : decide ((6 : Int) < (k : Int)) = false := by simp; omega
  have C33 := Lib.hid (fun w => rIsLevel_any n d w)
  rw [hl] at C33
  have C34 := Lib.hid (fun (l M s f : Nat) (h : okA l M s f) w => rMissed_any h n d (lev_of hl).1 (lev_of hl).2.1 (lev_of hl).2.2 w)
  have HTS := Lib.hid ht
  clear hl ht
  clear hr hwa ha hall hN
  have s0 := (KS.start w).new #[.int .i64 n, .int .i64 d] 36
  obtain ⟨kb0_0, kb0_1, _⟩ := (s0.blkAt 0 rfl).c2
  have S0 := Lib.hid s0
  clear s0
  go_enter Try.func5, Try.ntmps5
  go_wp2_with fail
  generalize (w.alloc (.cells #[.int .i64 n, .int .i64 d] 36)) = V1 at *
  obtain ⟨BS, hBS⟩ : ∃ BS : List (Nat × Array Value × TypeId), BS = [(w.heap.size, #[.int .i64 n, .int .i64 d], 36)] := ⟨_, rfl⟩
  have hS : KS w BS V1 := by rw [hBS]; exact S0.out
  have K0_0 : ∀ W, KS w BS W → W.cell? ⟨w.heap.size, 0, none⟩ = some (.int .i64 n) := fun W h => by rw [hBS] at h; exact (h.blkAt 0 rfl).cell 0
  have K0_1 : ∀ W, KS w BS W → W.cell? ⟨w.heap.size, 1, none⟩ = some (.int .i64 d) := fun W h => by rw [hBS] at h; exact (h.blkAt 0 rfl).cell 1
  have KZ0 : ∀ W b, KZ w BS b #[.int .i64 0, .int .i64 0] 48 W → W.cell? ⟨b, 0, none⟩ = some (.int .i64 0) := fun W b h => h.c0
  have KF0 : ∀ W b, KZ w BS b #[.int .i64 0, .int .i64 0] 48 W → W.frozen? ⟨b, 0, none⟩ = false := fun W b h => h.f 0
  have KZ1 : ∀ W b, KZ w BS b #[.int .i64 0, .int .i64 0] 48 W → W.cell? ⟨b, 1, none⟩ = some (.int .i64 0) := fun W b h => h.c1
  have KF1 : ∀ W b, KZ w BS b #[.int .i64 0, .int .i64 0] 48 W → W.frozen? ⟨b, 1, none⟩ = false := fun W b h => h.f 1
  have HBS := Lib.hid hBS
  clear hBS kb0_0 kb0_1
  refine wp_joinG (ι := Nat × Value) (f := fun a b => ((((((((((a.put (some 22) (.slice ad k cap)).put (some 23) (b.2)).put (some 24) (.agg #[.int .i64 n, .int .i64 d])).put (some 25) (.agg #[.int .i64 n, .int .i64 d])).put (some 26) (.tuple #[.agg #[.int .i64 rl, .int .i64 rh], .int .i64 0])).put (some 21) (.tuple #[.agg #[.int .i64 rl, .int .i64 rh], .int .i64 0])).put (some 27) (.agg #[.int .i64 rl, .int .i64 rh])).put (some 28) (.int .i64 0)).put (some 6) (.int .i64 0)).put (some 5) (.pointer (some ⟨b.1, 0, none⟩)))) (mid := fun b W' => KS w ((b.1, #[.int .i64 rl, .int .i64 rh], 48) :: BS) W') ?_ ?_
  · go_region_held3 (KS w BS)
      (first | assumption | exact KS.drew (by assumption) | exact KS.alloc (by assumption) _ | exact KS.drew (KS.alloc (by assumption) _) | exact KS.alloc (KS.drew (by assumption)) _ | exact KZ.ks (by assumption) | exact (KZ.new (by assumption) _ _).ks | exact KZ.keep2 (by assumption) | exact (KZ.keep2 (by assumption)).drew | exact (KZ.drew (by assumption)).keep2 | go_keep)
      (first | (go_at_call 32; (with_reducible refine (C32.out _ (KS.bel (w := w) (bs := BS) (by first | assumption | exact KS.drew (by assumption) | exact KS.alloc (by assumption) _))).mono ?_); rintro e wn ⟨a, g', c, rfl, hA, hb⟩; have hSn := KS.below (w := w) (bs := BS) (by first | assumption | exact KS.drew (by assumption)) hb; (first | (have hZ := KZ.below (w := w) (bs := BS) (cs := #[.int .i64 0, .int .i64 0]) (t := 48) (by assumption) hb) | (have hZ := KZ.below (w := w) (bs := BS) (KZ.new (by assumption) #[.int .i64 0, .int .i64 0] 48) hb) | (have hZ := KZ.below (w := w) (bs := BS) (KZ.newD (by assumption) #[.int .i64 0, .int .i64 0] 48) hb) | skip); clear hb) | (go_at_call 25; (with_reducible refine (part_any _ _ _).mono ?_); rintro e wn ⟨rfl, hb⟩; have hSn := KS.below (w := w) (bs := BS) (by first | assumption | exact KS.drew (by assumption)) hb; (first | (have hZ := KZ.below (w := w) (bs := BS) (cs := #[.int .i64 0, .int .i64 0]) (t := 48) (by assumption) hb) | (have hZ := KZ.below (w := w) (bs := BS) (KZ.new (by assumption) #[.int .i64 0, .int .i64 0] 48) hb) | (have hZ := KZ.below (w := w) (bs := BS) (KZ.newD (by assumption) #[.int .i64 0, .int .i64 0] 48) hb) | skip); have hA := AK.below (xs := xs) (by first | assumption | exact AK.drew (by assumption) | exact AK.alloc (by assumption) _ | exact AK.drew (AK.alloc (by assumption) _)) hb; clear hb) | (go_at_call 31; (with_reducible refine (C31.out _ _ _ _ (by first | assumption | exact AK.drew (by assumption) | exact AK.alloc (by assumption) _ | exact AK.drew (AK.alloc (by assumption) _))).mono ?_); rintro e wn ⟨rfl, hb⟩; have hSn := KS.below (w := w) (bs := BS) (by first | assumption | exact KS.drew (by assumption)) hb; (first | (have hZ := KZ.below (w := w) (bs := BS) (cs := #[.int .i64 0, .int .i64 0]) (t := 48) (by assumption) hb) | (have hZ := KZ.below (w := w) (bs := BS) (KZ.new (by assumption) #[.int .i64 0, .int .i64 0] 48) hb) | (have hZ := KZ.below (w := w) (bs := BS) (KZ.newD (by assumption) #[.int .i64 0, .int .i64 0] 48) hb) | skip); clear hb))
    all_goals first | exact ⟨rfl, (_, _), rfl, KS.new (by assumption) _ _⟩ | exact ⟨rfl, (_, _), rfl, KZ.set2 (by assumption)⟩ | exact ⟨rfl, (_, _), rfl, KZ.set2D (by assumption)⟩ | exact ⟨rfl, (_, _), rfl, (KZ.set2 (by assumption)).drew⟩
  rintro ⟨nb, nv⟩ w1 hM
  simp only [Act.put, List.setIfInBounds_toArray, List.set_cons_zero, List.set_cons_succ] at hM ⊢
  have s1 : KS w [(nb, #[.int .i64 rl, .int .i64 rh], 48), (w.heap.size, #[.int .i64 n, .int .i64 d], 36)] w1 := by have h := hM; rw [HBS.out] at h; exact h
  clear hS hM HBS KZ0 KZ1 KF0 KF1 K0_0 K0_1
  have S1 := Lib.hid s1
  clear s1
  go_wp2
  go_loopw [7, 8] (fun x7 x8 wr => ∃ i : Nat, i ≤ k ∧ x7 = .int .i64 (wa (xs.take i)) ∧ x8 = .int .i64 (i : Int) ∧ KS w [(nb, #[.int .i64 rl, .int .i64 rh], 48), (w.heap.size, #[.int .i64 n, .int .i64 d], 36)] wr) (fun _ x _ => k - (intOf x).toNat)
  case atStart => exact ⟨0, Nat.zero_le _, rfl, rfl, S1.out⟩
  case round =>
    clear S1
    obtain ⟨i, hi, rfl, rfl, s2⟩ := hrel
    by_cases hlt : i < k
    · exact absurd hlt (by have := H00.out; omega)
    · obtain rfl : k = i := by omega
      have e1 : wa (xs.take k) = 0 := by rw [← HN.out, List.take_length, HWA.out]
      rw [e1]
      clear e1 hlt
      obtain ⟨kb1_0, kb1_1, _⟩ := (s2.blkAt 0 rfl).c2
      obtain ⟨kb0_0, kb0_1, _⟩ := (s2.blkAt 1 rfl).c2
      have S2 := Lib.hid s2
      clear s2
      go_wp2_with fail
      refine (C33.out _).mono ?_
      rintro e w3 ⟨rfl, h3⟩
      clear kb1_0 kb1_1 kb0_0 kb0_1
      have s3 := S2.out.below h3
      obtain ⟨kb1_0, kb1_1, _⟩ := (s3.blkAt 0 rfl).c2
      obtain ⟨kb0_0, kb0_1, _⟩ := (s3.blkAt 1 rfl).c2
      have S3 := Lib.hid s3
      clear h3 s3
      have z4 := KZ.new S3.out #[.int .i64 0, .int .i64 0] 54
      have Z4 := Lib.hid z4
      clear z4
      go_wp2
      clear kb1_0 kb1_1 kb0_0 kb0_1
      generalize w3.heap.size = zb at *
      have z4 := Z4.out
      clear Z4
      have hsep := Lib.hid z4.2.2.1
      have hsz := Lib.hid z4.2.2.2
      have Z4 := Lib.hid z4.all
      clear z4
      go_loopw [7, 10] (fun x7 x10 wr2 => ∃ i : Nat, i ≤ k ∧ x10 = .int .i64 (i : Int) ∧ ((∃ p q : Nat, totS n d (xs.take i) = some (p, q) ∧ x7 = .int .i64 0 ∧ KS w [(zb, #[.int .i64 p, .int .i64 q], 54), (nb, #[.int .i64 rl, .int .i64 rh], 48), (w.heap.size, #[.int .i64 n, .int .i64 d], 36)] wr2) ∨ (totS n d (xs.take i) = none ∧ x7 = .int .i64 9 ∧ ∃ p q : Int, KS w [(zb, #[.int .i64 p, .int .i64 q], 54), (nb, #[.int .i64 rl, .int .i64 rh], 48), (w.heap.size, #[.int .i64 n, .int .i64 d], 36)] wr2))) (fun _ x _ => k - (intOf x).toNat)
      case atStart => exact ⟨0, Nat.zero_le _, rfl, .inl ⟨0, 0, rfl, rfl, Z4.out⟩⟩
      case round =>
        clear Z4
        obtain ⟨j, hj, rfl, h5⟩ := hrel
        rcases h5 with ⟨p, q, hpq, rfl, s5⟩ | ⟨hno, rfl, p, q, s5⟩
        · by_cases hlt : j < k
          · exact absurd hlt (by have := H00.out; omega)
          · obtain rfl : k = j := by omega
            have e9 : totS n d xs = some (p, q) := by rw [← HN.out, List.take_length] at hpq; exact hpq
            have e8 := HTS.out.symm.trans e9
            simp only [Option.some.injEq, Prod.mk.injEq] at e8
            obtain ⟨rfl, rfl⟩ := e8
            clear e9 hpq hlt
            have S6 := Lib.hid s5
            clear s5
            go_wp2_with fail
            obtain ⟨BS, hBS⟩ : ∃ BS : List (Nat × Array Value × TypeId), BS = [(zb, #[.int .i64 rl, .int .i64 rh], 54), (nb, #[.int .i64 rl, .int .i64 rh], 48), (w.heap.size, #[.int .i64 n, .int .i64 d], 36)] := ⟨_, rfl⟩
            have hS := S6.out; rw [← hBS] at hS
            have K0_0 : ∀ W, KS w BS W → W.cell? ⟨zb, 0, none⟩ = some (.int .i64 rl) := fun W h => by rw [hBS] at h; exact (h.blkAt 0 rfl).cell 0
            have K0_1 : ∀ W, KS w BS W → W.cell? ⟨zb, 1, none⟩ = some (.int .i64 rh) := fun W h => by rw [hBS] at h; exact (h.blkAt 0 rfl).cell 1
            have K1_0 : ∀ W, KS w BS W → W.cell? ⟨nb, 0, none⟩ = some (.int .i64 rl) := fun W h => by rw [hBS] at h; exact (h.blkAt 1 rfl).cell 0
            have K1_1 : ∀ W, KS w BS W → W.cell? ⟨nb, 1, none⟩ = some (.int .i64 rh) := fun W h => by rw [hBS] at h; exact (h.blkAt 1 rfl).cell 1
            have K2_0 : ∀ W, KS w BS W → W.cell? ⟨w.heap.size, 0, none⟩ = some (.int .i64 n) := fun W h => by rw [hBS] at h; exact (h.blkAt 2 rfl).cell 0
            have K2_1 : ∀ W, KS w BS W → W.cell? ⟨w.heap.size, 1, none⟩ = some (.int .i64 d) := fun W h => by rw [hBS] at h; exact (h.blkAt 2 rfl).cell 1
            have HBS := Lib.hid hBS
            clear hBS
            go_region_held3 (KS w BS)
              (first | assumption | exact KS.drew (by assumption) | exact KS.alloc (by assumption) _ | exact KS.drew (KS.alloc (by assumption) _) | exact KS.alloc (KS.drew (by assumption)) _ | go_keep)
              (first | (go_at_call 35; (with_reducible refine (to_any _ _ _).mono ?_); rintro e wn ⟨rfl, hb⟩; have hSn := KS.below (by first | assumption | exact KS.drew (by assumption)) hb; clear hb))
            all_goals
              have sE := KS.sub (w := w) (bs := BS) (bs' := [(w.heap.size, #[.int .i64 n, .int .i64 d], 36)]) (by first | assumption | exact KS.drew (by assumption)) (fun x h => by rw [HBS.out]; simp at h; subst h; simp)
              have SE := Lib.hid sE
              clear sE
              go_wp2_with (first | (go_at_call 24; (with_reducible refine (awake_any _).mono ?_); rintro e w99 ⟨rfl, h99⟩; have S99 := Lib.hid (SE.out.below h99); clear h99))
              go_ret
              exact ⟨rfl, S99.out.bel⟩
        · exact absurd (HTS.out.symm.trans (totS_none_of3 hno)) (by simp)

end Go.Proofs.Ytkfobnhnehbkeaa
