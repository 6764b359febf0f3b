/- MissTotals: the paths to region 28. -/
import Derived.Test.YtkfobnhnehbkeaaTotQ
namespace Go.Proofs.Ytkfobnhnehbkeaa
open Go.RowKit Go.Shelf

set_option maxRecDepth 100000 in
set_option maxHeartbeats 8000000 in
theorem tot_A (L M S F : Int) (g o cap k : Nat) (xs : List A4) (n d : Int) (w : World) (hN : xs.length = k) (hx0 : xs[0]? = some ⟨L, M, S, F⟩) (hb : g < w.heap.size) (hk9 : k ≤ 9) (hk6 : k ≤ 6) (ha : AreasAt w g o xs) (hall : xs.all A4.ok = false) :
    Calls Try.prog 5 #[.slice (some ⟨g, o, none⟩) k cap, fracV n d] w fun e w' => e = .returned (.bool true) ∧ Below w.heap.size w w' := by
  have hr : totRes xs n d = (0, 0, 1) := by rw [totRes, if_neg (by omega), if_pos hall]
  have C32 := Lib.hid (Areas_ak (some ⟨g, o, none⟩) g o cap k xs w hN (fun _ => rfl) (fun _ => hb) (by omega) ha)
  have C31 := Lib.hid (fun (W : World) (a : Option Addr) (g' c : Nat) (h : AK W a g' xs) => Total_ak h k c hN n d hr)
  have hwa : wa xs = 1 := by simp [wa, hall]
  have HWA := Lib.hid hwa
  have HN := Lib.hid hN
  have HA := Lib.hid ha
  have HX0 := Lib.hid (show AreasAt w g o [⟨L, M, S, F⟩] from fun i a e => by
    match i, e with
    | 0, e => simp at e; subst e; exact ha 0 _ hx0)
  have hk0 : 0 < k := by rw [← hN]; exact (List.getElem?_eq_some_iff.1 hx0).1
  have HK0 := Lib.hid hk0
  have t0 : decide ((0 : Int) < (k : Int)) = true := by simp; omega
  have te : ((k : Int) == 0) = false := by simp; omega
  have HL := Lib.hid hb
  clear hx0 hb hk0
  have HLL := Lib.hid hall
  have t9 : decide ((9 : Int) < (k : Int)) = false := by simp; omega
  have t6 : decide ((6 : Int) < (k : Int)) = false := by simp; omega
  clear hr hwa ha hall hN
  have s0 := (KS.start w).new #[.int .i64 n, .int .i64 d] 36
  obtain ⟨kb0_0, kb0_1, _⟩ := (s0.blkAt 0 rfl).c2
  have S0 := Lib.hid s0
  clear s0
  go_enter Try.func5, Try.ntmps5
  go_wp2_with fail
  generalize (w.alloc (.cells #[.int .i64 n, .int .i64 d] 36)) = V1 at *
  obtain ⟨BS, hBS⟩ : ∃ BS : List (Nat × Array Value × TypeId), BS = [(w.heap.size, #[.int .i64 n, .int .i64 d], 36)] := ⟨_, rfl⟩
  have hS : KS w BS V1 := by rw [hBS]; exact S0.out
  have K0_0 : ∀ W, KS w BS W → W.cell? ⟨w.heap.size, 0, none⟩ = some (.int .i64 n) := fun W h => by rw [hBS] at h; exact (h.blkAt 0 rfl).cell 0
  have K0_1 : ∀ W, KS w BS W → W.cell? ⟨w.heap.size, 1, none⟩ = some (.int .i64 d) := fun W h => by rw [hBS] at h; exact (h.blkAt 0 rfl).cell 1
  have KZ0 : ∀ W b, KZ w BS b #[.int .i64 0, .int .i64 0] 48 W → W.cell? ⟨b, 0, none⟩ = some (.int .i64 0) := fun W b h => h.c0
  have KF0 : ∀ W b, KZ w BS b #[.int .i64 0, .int .i64 0] 48 W → W.frozen? ⟨b, 0, none⟩ = false := fun W b h => h.f 0
  have KZ1 : ∀ W b, KZ w BS b #[.int .i64 0, .int .i64 0] 48 W → W.cell? ⟨b, 1, none⟩ = some (.int .i64 0) := fun W b h => h.c1
  have KF1 : ∀ W b, KZ w BS b #[.int .i64 0, .int .i64 0] 48 W → W.frozen? ⟨b, 1, none⟩ = false := fun W b h => h.f 1
  have HBS := Lib.hid hBS
  clear hBS kb0_0 kb0_1
  refine wp_joinG (ι := Nat × Value) (f := fun a b => ((((((((((a.put (some 22) (.slice (some ⟨g, o, none⟩) k cap)).put (some 23) (b.2)).put (some 24) (.agg #[.int .i64 n, .int .i64 d])).put (some 25) (.agg #[.int .i64 n, .int .i64 d])).put (some 26) (.tuple #[.agg #[.int .i64 0, .int .i64 0], .int .i64 1])).put (some 21) (.tuple #[.agg #[.int .i64 0, .int .i64 0], .int .i64 1])).put (some 27) (.agg #[.int .i64 0, .int .i64 0])).put (some 28) (.int .i64 1)).put (some 6) (.int .i64 1)).put (some 5) (.pointer (some ⟨b.1, 0, none⟩)))) (mid := fun b W' => KS w ((b.1, #[.int .i64 0, .int .i64 0], 48) :: BS) W') ?_ ?_
  · go_region_held3 (KS w BS)
      (first | assumption | exact KS.drew (by assumption) | exact KS.alloc (by assumption) _ | exact KS.drew (KS.alloc (by assumption) _) | exact KS.alloc (KS.drew (by assumption)) _ | exact KZ.ks (by assumption) | exact (KZ.new (by assumption) _ _).ks | exact KZ.keep2 (by assumption) | exact (KZ.keep2 (by assumption)).drew | exact (KZ.drew (by assumption)).keep2 | go_keep)
      (first | (go_at_call 32; (with_reducible refine (C32.out _ (KS.bel (w := w) (bs := BS) (by first | assumption | exact KS.drew (by assumption) | exact KS.alloc (by assumption) _))).mono ?_); rintro e wn ⟨a, g', c, rfl, hA, hb⟩; have hSn := KS.below (w := w) (bs := BS) (by first | assumption | exact KS.drew (by assumption)) hb; (first | (have hZ := KZ.below (w := w) (bs := BS) (cs := #[.int .i64 0, .int .i64 0]) (t := 48) (by assumption) hb) | (have hZ := KZ.below (w := w) (bs := BS) (KZ.new (by assumption) #[.int .i64 0, .int .i64 0] 48) hb) | (have hZ := KZ.below (w := w) (bs := BS) (KZ.newD (by assumption) #[.int .i64 0, .int .i64 0] 48) hb) | skip); clear hb) | (go_at_call 25; (with_reducible refine (part_any _ _ _).mono ?_); rintro e wn ⟨rfl, hb⟩; have hSn := KS.below (w := w) (bs := BS) (by first | assumption | exact KS.drew (by assumption)) hb; (first | (have hZ := KZ.below (w := w) (bs := BS) (cs := #[.int .i64 0, .int .i64 0]) (t := 48) (by assumption) hb) | (have hZ := KZ.below (w := w) (bs := BS) (KZ.new (by assumption) #[.int .i64 0, .int .i64 0] 48) hb) | (have hZ := KZ.below (w := w) (bs := BS) (KZ.newD (by assumption) #[.int .i64 0, .int .i64 0] 48) hb) | skip); have hA := AK.below (xs := xs) (by first | assumption | exact AK.drew (by assumption) | exact AK.alloc (by assumption) _ | exact AK.drew (AK.alloc (by assumption) _)) hb; clear hb) | (go_at_call 31; (with_reducible refine (C31.out _ _ _ _ (by first | assumption | exact AK.drew (by assumption) | exact AK.alloc (by assumption) _ | exact AK.drew (AK.alloc (by assumption) _))).mono ?_); rintro e wn ⟨rfl, hb⟩; have hSn := KS.below (w := w) (bs := BS) (by first | assumption | exact KS.drew (by assumption)) hb; (first | (have hZ := KZ.below (w := w) (bs := BS) (cs := #[.int .i64 0, .int .i64 0]) (t := 48) (by assumption) hb) | (have hZ := KZ.below (w := w) (bs := BS) (KZ.new (by assumption) #[.int .i64 0, .int .i64 0] 48) hb) | (have hZ := KZ.below (w := w) (bs := BS) (KZ.newD (by assumption) #[.int .i64 0, .int .i64 0] 48) hb) | skip); clear hb))
    all_goals first | exact ⟨rfl, (_, _), rfl, KS.new (by assumption) _ _⟩ | exact ⟨rfl, (_, _), rfl, KZ.set2 (by assumption)⟩ | exact ⟨rfl, (_, _), rfl, KZ.set2D (by assumption)⟩ | exact ⟨rfl, (_, _), rfl, (KZ.set2 (by assumption)).drew⟩
  rintro ⟨nb, nv⟩ w1 hM
  simp only [Act.put, List.setIfInBounds_toArray, List.set_cons_zero, List.set_cons_succ] at hM ⊢
  have s1 : KS w [(nb, #[.int .i64 0, .int .i64 0], 48), (w.heap.size, #[.int .i64 n, .int .i64 d], 36)] w1 := by have h := hM; rw [HBS.out] at h; exact h
  clear hS hM HBS KZ0 KZ1 KF0 KF1 K0_0 K0_1
  have S1 := Lib.hid s1
  clear s1
  go_wp2
  go_loopw [7, 8] (fun x7 x8 wr => ∃ i : Nat, i ≤ k ∧ x7 = .int .i64 (wa (xs.take i)) ∧ x8 = .int .i64 (i : Int) ∧ KS w [(nb, #[.int .i64 0, .int .i64 0], 48), (w.heap.size, #[.int .i64 n, .int .i64 d], 36)] wr) (fun _ x _ => k - (intOf x).toNat)
  case atStart => exact ⟨0, Nat.zero_le _, rfl, rfl, S1.out⟩
  case round =>
    clear S1
    obtain ⟨i, hi, rfl, rfl, s2⟩ := hrel
    by_cases hlt : i < k
    · obtain ⟨x, hx⟩ : ∃ x, xs[i]? = some x := ⟨xs[i]'(by rw [HN.out]; exact hlt), by simp⟩
      obtain ⟨k0, k1, k2, k3⟩ := HA.out.below s2.bel HL.out i x hx
      have HT := Lib.hid (show xs.take (i + 1) = xs.take i ++ [x] by rw [List.take_add_one, hx]; rfl)
      obtain ⟨L, M, S, F⟩ := x
      simp only [] at k0 k1 k2 k3
      have S2 := Lib.hid s2
      clear hx s2
      have C22 := Lib.hid (fun w => fault_any L M S F w)
      cases hf : areaB L M S F with
      | true =>
        rw [show faultI L M S F = 0 by simp [faultI, hf]] at C22
        have HF := Lib.hid hf
        clear hf
        go_wp2_with (first | (go_at_call 22; (with_reducible refine (C22.out _).mono ?_); rintro e w3 ⟨rfl, h3⟩; have S3 := Lib.hid (S2.out.below h3); clear h3))
        go_roundw
        case rel => exact ⟨i + 1, by omega, by rw [HT.out, wa_snoc (xs.take i) ⟨L, M, S, F⟩ HF.out], by go_num, S3.out⟩
        case measure => simp [intOf]; omega
      | false =>
        rw [show faultI L M S F = 1 by simp [faultI, hf]] at C22
        have HF := Lib.hid hf
        clear hf
        go_wp2_with (first | (go_at_call 22; (with_reducible refine (C22.out _).mono ?_); rintro e w3 ⟨rfl, h3⟩; have S3 := Lib.hid (S2.out.below h3); clear h3))
        go_roundw
        case rel => exact ⟨i + 1, by omega, by rw [HT.out, wa_bad (xs.take i) ⟨L, M, S, F⟩ HF.out], by go_num, S3.out⟩
        case measure => simp [intOf]; omega
    · obtain rfl : i = k := by omega
      have e1 : wa (xs.take i) = 1 := by rw [← HN.out, List.take_length, HWA.out]
      rw [e1]
      clear e1 hlt
      obtain ⟨kb1_0, kb1_1, _⟩ := (s2.blkAt 0 rfl).c2
      obtain ⟨kb0_0, kb0_1, _⟩ := (s2.blkAt 1 rfl).c2
      have S2 := Lib.hid s2
      clear s2
      have z4 := KZ.new S2.out #[.int .i64 0, .int .i64 0] 54
      have Z4 := Lib.hid z4
      clear z4
      go_wp2
      clear kb1_0 kb1_1 kb0_0 kb0_1
      generalize wr.heap.size = zb at *
      go_loopw [7, 10] (fun x7 x10 wr2 => x7 = .int .i64 1 ∧ x10 = .int .i64 0 ∧ KZ w [(nb, #[.int .i64 0, .int .i64 0], 48), (w.heap.size, #[.int .i64 n, .int .i64 d], 36)] zb #[.int .i64 0, .int .i64 0] 54 wr2) (fun _ _ _ => 0)
      case atStart => exact ⟨rfl, rfl, Z4.out⟩
      case round =>
        clear Z4
        obtain ⟨rfl, rfl, z5⟩ := hrel
        have c0 := z5.c0
        have c1 := z5.c1
        have f0 := z5.f 0
        have f1 := z5.f 1
        have Z5 := Lib.hid z5
        clear z5
        go_wp2_with fail
        have s6 := Z5.out.set2 (x' := .int .i64 0) (y' := .int .i64 0)
        have S6 := Lib.hid s6
        clear s6 c0 c1 f0 f1
        obtain ⟨BS, hBS⟩ : ∃ BS : List (Nat × Array Value × TypeId), BS = [(zb, #[.int .i64 0, .int .i64 0], 54), (nb, #[.int .i64 0, .int .i64 0], 48), (w.heap.size, #[.int .i64 n, .int .i64 d], 36)] := ⟨_, rfl⟩
        have hS := S6.out; rw [← hBS] at hS
        have K0_0 : ∀ W, KS w BS W → W.cell? ⟨zb, 0, none⟩ = some (.int .i64 0) := fun W h => by rw [hBS] at h; exact (h.blkAt 0 rfl).cell 0
        have K0_1 : ∀ W, KS w BS W → W.cell? ⟨zb, 1, none⟩ = some (.int .i64 0) := fun W h => by rw [hBS] at h; exact (h.blkAt 0 rfl).cell 1
        have K1_0 : ∀ W, KS w BS W → W.cell? ⟨nb, 0, none⟩ = some (.int .i64 0) := fun W h => by rw [hBS] at h; exact (h.blkAt 1 rfl).cell 0
        have K1_1 : ∀ W, KS w BS W → W.cell? ⟨nb, 1, none⟩ = some (.int .i64 0) := fun W h => by rw [hBS] at h; exact (h.blkAt 1 rfl).cell 1
        have K2_0 : ∀ W, KS w BS W → W.cell? ⟨w.heap.size, 0, none⟩ = some (.int .i64 n) := fun W h => by rw [hBS] at h; exact (h.blkAt 2 rfl).cell 0
        have K2_1 : ∀ W, KS w BS W → W.cell? ⟨w.heap.size, 1, none⟩ = some (.int .i64 d) := fun W h => by rw [hBS] at h; exact (h.blkAt 2 rfl).cell 1
        have HBS := Lib.hid hBS
        clear hBS
        go_region_held3 (KS w BS)
          (first | assumption | exact KS.drew (by assumption) | exact KS.alloc (by assumption) _ | exact KS.drew (KS.alloc (by assumption) _) | exact KS.alloc (KS.drew (by assumption)) _ | go_keep)
          (first | (go_at_call 35; (with_reducible refine (to_any _ _ _).mono ?_); rintro e wn ⟨rfl, hb⟩; have hSn := KS.below (by first | assumption | exact KS.drew (by assumption)) hb; clear hb))
        all_goals
          have sE := KS.sub (w := w) (bs := BS) (bs' := [(w.heap.size, #[.int .i64 n, .int .i64 d], 36)]) (by first | assumption | exact KS.drew (by assumption)) (fun x h => by rw [HBS.out]; simp at h; subst h; simp)
          have SE := Lib.hid sE
          clear sE
          go_wp2_with fail
          exact tot_rest g o cap _ L M S F n d w _ _ _ _ _ _ _ _ _ _ _ _ _ _ _ _ _ _ _ _ _ _ _ _ _ _ _ _ _ _ _ _ _ _ _ _ _ _ _ _ _ _ _ _ _ _ _ _ _ _ _ _ _ _ _ _ _ _ _ _ _ _ _ _ _ _ _ _ _ _ _ _ _ _ _ _ _ _ _ _ _ _ _ _ _ _ _ _ _ _ _ _ _ _ _ _ _ (by assumption) HK0.out HL.out HX0.out SE.out

set_option maxRecDepth 100000 in
set_option maxHeartbeats 8000000 in
theorem tot_B (L M S F : Int) (g o cap k : Nat) (xs : List A4) (n d : Int) (w : World) (hN : xs.length = k) (hx0 : xs[0]? = some ⟨L, M, S, F⟩) (hb : g < w.heap.size) (hk9 : k ≤ 9) (hk6 : k ≤ 6) (ha : AreasAt w g o xs) (hall : xs.all A4.ok = true) (hl : levB n d = false) :
    Calls Try.prog 5 #[.slice (some ⟨g, o, none⟩) k cap, fracV n d] w fun e w' => e = .returned (.bool true) ∧ Below w.heap.size w w' := by
  have hr : totRes xs n d = (0, 0, 2) := by rw [totRes, if_neg (by omega), if_neg (by rw [hall]; simp), if_pos hl]
  have C32 := Lib.hid (Areas_ak (some ⟨g, o, none⟩) g o cap k xs w hN (fun _ => rfl) (fun _ => hb) (by omega) ha)
  have C31 := Lib.hid (fun (W : World) (a : Option Addr) (g' c : Nat) (h : AK W a g' xs) => Total_ak h k c hN n d hr)
  have hwa : wa xs = 0 := by simp [wa, hall]
  have HWA := Lib.hid hwa
  have HN := Lib.hid hN
  have HA := Lib.hid ha
  have HX0 := Lib.hid (show AreasAt w g o [⟨L, M, S, F⟩] from fun i a e => by
    match i, e with
    | 0, e => simp at e; subst e; exact ha 0 _ hx0)
  have hk0 : 0 < k := by rw [← hN]; exact (List.getElem?_eq_some_iff.1 hx0).1
  have HK0 := Lib.hid hk0
  have t0 : decide ((0 : Int) < (k : Int)) = true := by simp; omega
  have te : ((k : Int) == 0) = false := by simp; omega
  have HL := Lib.hid hb
  clear hx0 hb hk0
  have HLL := Lib.hid hall
  have t9 : decide ((9 : Int) < (k : Int)) = false := by simp; omega
  have t6 : decide ((6 : Int) < (k : Int)) = false := by simp; omega
  have C33 := Lib.hid (fun w => rIsLevel_any n d w)
  rw [hl] at C33
  clear hl
  clear hr hwa ha hall hN
  have s0 := (KS.start w).new #[.int .i64 n, .int .i64 d] 36
  obtain ⟨kb0_0, kb0_1, _⟩ := (s0.blkAt 0 rfl).c2
  have S0 := Lib.hid s0
  clear s0
  go_enter Try.func5, Try.ntmps5
  go_wp2_with fail
  generalize (w.alloc (.cells #[.int .i64 n, .int .i64 d] 36)) = V1 at *
  obtain ⟨BS, hBS⟩ : ∃ BS : List (Nat × Array Value × TypeId), BS = [(w.heap.size, #[.int .i64 n, .int .i64 d], 36)] := ⟨_, rfl⟩
  have hS : KS w BS V1 := by rw [hBS]; exact S0.out
  have K0_0 : ∀ W, KS w BS W → W.cell? ⟨w.heap.size, 0, none⟩ = some (.int .i64 n) := fun W h => by rw [hBS] at h; exact (h.blkAt 0 rfl).cell 0
  have K0_1 : ∀ W, KS w BS W → W.cell? ⟨w.heap.size, 1, none⟩ = some (.int .i64 d) := fun W h => by rw [hBS] at h; exact (h.blkAt 0 rfl).cell 1
  have KZ0 : ∀ W b, KZ w BS b #[.int .i64 0, .int .i64 0] 48 W → W.cell? ⟨b, 0, none⟩ = some (.int .i64 0) := fun W b h => h.c0
  have KF0 : ∀ W b, KZ w BS b #[.int .i64 0, .int .i64 0] 48 W → W.frozen? ⟨b, 0, none⟩ = false := fun W b h => h.f 0
  have KZ1 : ∀ W b, KZ w BS b #[.int .i64 0, .int .i64 0] 48 W → W.cell? ⟨b, 1, none⟩ = some (.int .i64 0) := fun W b h => h.c1
  have KF1 : ∀ W b, KZ w BS b #[.int .i64 0, .int .i64 0] 48 W → W.frozen? ⟨b, 1, none⟩ = false := fun W b h => h.f 1
  have HBS := Lib.hid hBS
  clear hBS kb0_0 kb0_1
  refine wp_joinG (ι := Nat × Value) (f := fun a b => ((((((((((a.put (some 22) (.slice (some ⟨g, o, none⟩) k cap)).put (some 23) (b.2)).put (some 24) (.agg #[.int .i64 n, .int .i64 d])).put (some 25) (.agg #[.int .i64 n, .int .i64 d])).put (some 26) (.tuple #[.agg #[.int .i64 0, .int .i64 0], .int .i64 2])).put (some 21) (.tuple #[.agg #[.int .i64 0, .int .i64 0], .int .i64 2])).put (some 27) (.agg #[.int .i64 0, .int .i64 0])).put (some 28) (.int .i64 2)).put (some 6) (.int .i64 2)).put (some 5) (.pointer (some ⟨b.1, 0, none⟩)))) (mid := fun b W' => KS w ((b.1, #[.int .i64 0, .int .i64 0], 48) :: BS) W') ?_ ?_
  · go_region_held3 (KS w BS)
      (first | assumption | exact KS.drew (by assumption) | exact KS.alloc (by assumption) _ | exact KS.drew (KS.alloc (by assumption) _) | exact KS.alloc (KS.drew (by assumption)) _ | exact KZ.ks (by assumption) | exact (KZ.new (by assumption) _ _).ks | exact KZ.keep2 (by assumption) | exact (KZ.keep2 (by assumption)).drew | exact (KZ.drew (by assumption)).keep2 | go_keep)
      (first | (go_at_call 32; (with_reducible refine (C32.out _ (KS.bel (w := w) (bs := BS) (by first | assumption | exact KS.drew (by assumption) | exact KS.alloc (by assumption) _))).mono ?_); rintro e wn ⟨a, g', c, rfl, hA, hb⟩; have hSn := KS.below (w := w) (bs := BS) (by first | assumption | exact KS.drew (by assumption)) hb; (first | (have hZ := KZ.below (w := w) (bs := BS) (cs := #[.int .i64 0, .int .i64 0]) (t := 48) (by assumption) hb) | (have hZ := KZ.below (w := w) (bs := BS) (KZ.new (by assumption) #[.int .i64 0, .int .i64 0] 48) hb) | (have hZ := KZ.below (w := w) (bs := BS) (KZ.newD (by assumption) #[.int .i64 0, .int .i64 0] 48) hb) | skip); clear hb) | (go_at_call 25; (with_reducible refine (part_any _ _ _).mono ?_); rintro e wn ⟨rfl, hb⟩; have hSn := KS.below (w := w) (bs := BS) (by first | assumption | exact KS.drew (by assumption)) hb; (first | (have hZ := KZ.below (w := w) (bs := BS) (cs := #[.int .i64 0, .int .i64 0]) (t := 48) (by assumption) hb) | (have hZ := KZ.below (w := w) (bs := BS) (KZ.new (by assumption) #[.int .i64 0, .int .i64 0] 48) hb) | (have hZ := KZ.below (w := w) (bs := BS) (KZ.newD (by assumption) #[.int .i64 0, .int .i64 0] 48) hb) | skip); have hA := AK.below (xs := xs) (by first | assumption | exact AK.drew (by assumption) | exact AK.alloc (by assumption) _ | exact AK.drew (AK.alloc (by assumption) _)) hb; clear hb) | (go_at_call 31; (with_reducible refine (C31.out _ _ _ _ (by first | assumption | exact AK.drew (by assumption) | exact AK.alloc (by assumption) _ | exact AK.drew (AK.alloc (by assumption) _))).mono ?_); rintro e wn ⟨rfl, hb⟩; have hSn := KS.below (w := w) (bs := BS) (by first | assumption | exact KS.drew (by assumption)) hb; (first | (have hZ := KZ.below (w := w) (bs := BS) (cs := #[.int .i64 0, .int .i64 0]) (t := 48) (by assumption) hb) | (have hZ := KZ.below (w := w) (bs := BS) (KZ.new (by assumption) #[.int .i64 0, .int .i64 0] 48) hb) | (have hZ := KZ.below (w := w) (bs := BS) (KZ.newD (by assumption) #[.int .i64 0, .int .i64 0] 48) hb) | skip); clear hb))
    all_goals first | exact ⟨rfl, (_, _), rfl, KS.new (by assumption) _ _⟩ | exact ⟨rfl, (_, _), rfl, KZ.set2 (by assumption)⟩ | exact ⟨rfl, (_, _), rfl, KZ.set2D (by assumption)⟩ | exact ⟨rfl, (_, _), rfl, (KZ.set2 (by assumption)).drew⟩
  rintro ⟨nb, nv⟩ w1 hM
  simp only [Act.put, List.setIfInBounds_toArray, List.set_cons_zero, List.set_cons_succ] at hM ⊢
  have s1 : KS w [(nb, #[.int .i64 0, .int .i64 0], 48), (w.heap.size, #[.int .i64 n, .int .i64 d], 36)] w1 := by have h := hM; rw [HBS.out] at h; exact h
  clear hS hM HBS KZ0 KZ1 KF0 KF1 K0_0 K0_1
  have S1 := Lib.hid s1
  clear s1
  go_wp2
  go_loopw [7, 8] (fun x7 x8 wr => ∃ i : Nat, i ≤ k ∧ x7 = .int .i64 (wa (xs.take i)) ∧ x8 = .int .i64 (i : Int) ∧ KS w [(nb, #[.int .i64 0, .int .i64 0], 48), (w.heap.size, #[.int .i64 n, .int .i64 d], 36)] wr) (fun _ x _ => k - (intOf x).toNat)
  case atStart => exact ⟨0, Nat.zero_le _, rfl, rfl, S1.out⟩
  case round =>
    clear S1
    obtain ⟨i, hi, rfl, rfl, s2⟩ := hrel
    by_cases hlt : i < k
    · obtain ⟨x, hx⟩ : ∃ x, xs[i]? = some x := ⟨xs[i]'(by rw [HN.out]; exact hlt), by simp⟩
      obtain ⟨k0, k1, k2, k3⟩ := HA.out.below s2.bel HL.out i x hx
      have HT := Lib.hid (show xs.take (i + 1) = xs.take i ++ [x] by rw [List.take_add_one, hx]; rfl)
      obtain ⟨L, M, S, F⟩ := x
      simp only [] at k0 k1 k2 k3
      have S2 := Lib.hid s2
      clear hx s2
      have C22 := Lib.hid (fun w => fault_any L M S F w)
      cases hf : areaB L M S F with
      | true =>
        rw [show faultI L M S F = 0 by simp [faultI, hf]] at C22
        have HF := Lib.hid hf
        clear hf
        go_wp2_with (first | (go_at_call 22; (with_reducible refine (C22.out _).mono ?_); rintro e w3 ⟨rfl, h3⟩; have S3 := Lib.hid (S2.out.below h3); clear h3))
        go_roundw
        case rel => exact ⟨i + 1, by omega, by rw [HT.out, wa_snoc (xs.take i) ⟨L, M, S, F⟩ HF.out], by go_num, S3.out⟩
        case measure => simp [intOf]; omega
      | false =>
        rw [show faultI L M S F = 1 by simp [faultI, hf]] at C22
        have HF := Lib.hid hf
        clear hf
        go_wp2_with (first | (go_at_call 22; (with_reducible refine (C22.out _).mono ?_); rintro e w3 ⟨rfl, h3⟩; have S3 := Lib.hid (S2.out.below h3); clear h3))
        go_roundw
        case rel => exact ⟨i + 1, by omega, by rw [HT.out, wa_bad (xs.take i) ⟨L, M, S, F⟩ HF.out], by go_num, S3.out⟩
        case measure => simp [intOf]; omega
    · obtain rfl : i = k := by omega
      have e1 : wa (xs.take i) = 0 := by rw [← HN.out, List.take_length, HWA.out]
      rw [e1]
      clear e1 hlt
      obtain ⟨kb1_0, kb1_1, _⟩ := (s2.blkAt 0 rfl).c2
      obtain ⟨kb0_0, kb0_1, _⟩ := (s2.blkAt 1 rfl).c2
      have S2 := Lib.hid s2
      clear s2
      go_wp2_with fail
      refine (C33.out _).mono ?_
      rintro e w3 ⟨rfl, h3⟩
      clear kb1_0 kb1_1 kb0_0 kb0_1
      have s3 := S2.out.below h3
      obtain ⟨kb1_0, kb1_1, _⟩ := (s3.blkAt 0 rfl).c2
      obtain ⟨kb0_0, kb0_1, _⟩ := (s3.blkAt 1 rfl).c2
      have S3 := Lib.hid s3
      clear h3 s3
      have z4 := KZ.new S3.out #[.int .i64 0, .int .i64 0] 54
      have Z4 := Lib.hid z4
      clear z4
      go_wp2
      clear kb1_0 kb1_1 kb0_0 kb0_1
      generalize w3.heap.size = zb at *
      go_loopw [7, 10] (fun x7 x10 wr2 => x7 = .int .i64 2 ∧ x10 = .int .i64 0 ∧ KZ w [(nb, #[.int .i64 0, .int .i64 0], 48), (w.heap.size, #[.int .i64 n, .int .i64 d], 36)] zb #[.int .i64 0, .int .i64 0] 54 wr2) (fun _ _ _ => 0)
      case atStart => exact ⟨rfl, rfl, Z4.out⟩
      case round =>
        clear Z4
        obtain ⟨rfl, rfl, z5⟩ := hrel
        have c0 := z5.c0
        have c1 := z5.c1
        have f0 := z5.f 0
        have f1 := z5.f 1
        have Z5 := Lib.hid z5
        clear z5
        go_wp2_with fail
        have s6 := Z5.out.set2 (x' := .int .i64 0) (y' := .int .i64 0)
        have S6 := Lib.hid s6
        clear s6 c0 c1 f0 f1
        obtain ⟨BS, hBS⟩ : ∃ BS : List (Nat × Array Value × TypeId), BS = [(zb, #[.int .i64 0, .int .i64 0], 54), (nb, #[.int .i64 0, .int .i64 0], 48), (w.heap.size, #[.int .i64 n, .int .i64 d], 36)] := ⟨_, rfl⟩
        have hS := S6.out; rw [← hBS] at hS
        have K0_0 : ∀ W, KS w BS W → W.cell? ⟨zb, 0, none⟩ = some (.int .i64 0) := fun W h => by rw [hBS] at h; exact (h.blkAt 0 rfl).cell 0
        have K0_1 : ∀ W, KS w BS W → W.cell? ⟨zb, 1, none⟩ = some (.int .i64 0) := fun W h => by rw [hBS] at h; exact (h.blkAt 0 rfl).cell 1
        have K1_0 : ∀ W, KS w BS W → W.cell? ⟨nb, 0, none⟩ = some (.int .i64 0) := fun W h => by rw [hBS] at h; exact (h.blkAt 1 rfl).cell 0
        have K1_1 : ∀ W, KS w BS W → W.cell? ⟨nb, 1, none⟩ = some (.int .i64 0) := fun W h => by rw [hBS] at h; exact (h.blkAt 1 rfl).cell 1
        have K2_0 : ∀ W, KS w BS W → W.cell? ⟨w.heap.size, 0, none⟩ = some (.int .i64 n) := fun W h => by rw [hBS] at h; exact (h.blkAt 2 rfl).cell 0
        have K2_1 : ∀ W, KS w BS W → W.cell? ⟨w.heap.size, 1, none⟩ = some (.int .i64 d) := fun W h => by rw [hBS] at h; exact (h.blkAt 2 rfl).cell 1
        have HBS := Lib.hid hBS
        clear hBS
        go_region_held3 (KS w BS)
          (first | assumption | exact KS.drew (by assumption) | exact KS.alloc (by assumption) _ | exact KS.drew (KS.alloc (by assumption) _) | exact KS.alloc (KS.drew (by assumption)) _ | go_keep)
          (first | (go_at_call 35; (with_reducible refine (to_any _ _ _).mono ?_); rintro e wn ⟨rfl, hb⟩; have hSn := KS.below (by first | assumption | exact KS.drew (by assumption)) hb; clear hb))
        all_goals
          have sE := KS.sub (w := w) (bs := BS) (bs' := [(w.heap.size, #[.int .i64 n, .int .i64 d], 36)]) (by first | assumption | exact KS.drew (by assumption)) (fun x h => by rw [HBS.out]; simp at h; subst h; simp)
          have SE := Lib.hid sE
          clear sE
          go_wp2_with fail
          exact tot_rest g o cap _ L M S F n d w _ _ _ _ _ _ _ _ _ _ _ _ _ _ _ _ _ _ _ _ _ _ _ _ _ _ _ _ _ _ _ _ _ _ _ _ _ _ _ _ _ _ _ _ _ _ _ _ _ _ _ _ _ _ _ _ _ _ _ _ _ _ _ _ _ _ _ _ _ _ _ _ _ _ _ _ _ _ _ _ _ _ _ _ _ _ _ _ _ _ _ _ _ _ _ _ _ (by assumption) HK0.out HL.out HX0.out SE.out

set_option maxRecDepth 100000 in
set_option maxHeartbeats 8000000 in
theorem tot_B0 (ad : Option Addr) (g o cap k : Nat) (xs : List A4) (n d : Int) (w : World) (hN : xs.length = k) (had : xs ≠ [] → ad = some ⟨g, o, none⟩) (hb : xs ≠ [] → g < w.heap.size) (h0 : k = 0) (hk9 : k ≤ 9) (hk6 : k ≤ 6) (ha : AreasAt w g o xs) (hall : xs.all A4.ok = true) (hl : levB n d = false) :
    Calls Try.prog 5 #[.slice ad k cap, fracV n d] w fun e w' => e = .returned (.bool true) ∧ Below w.heap.size w w' := by
  have hr : totRes xs n d = (0, 0, 2) := by rw [totRes, if_neg (by omega), if_neg (by rw [hall]; simp), if_pos hl]
  have C32 := Lib.hid (Areas_ak ad g o cap k xs w hN had hb (by omega) ha)
  have C31 := Lib.hid (fun (W : World) (a : Option Addr) (g' c : Nat) (h : AK W a g' xs) => Total_ak h k c hN n d hr)
  have hwa : wa xs = 0 := by simp [wa, hall]
  have HWA := Lib.hid hwa
  have HN := Lib.hid hN
  have HA := Lib.hid ha
  have t0 : decide ((0 : Int) < (k : Int)) = false := by simp; omega
  have te : ((k : Int) == 0) = true := by simp; omega
  have H00 := Lib.hid h0
  have hk00 : k ≤ 0 := by omega
  clear had hb h0
  have HLL := Lib.hid hall
  have t9 : decide ((9 : Int) < (k : Int)) = false := by simp; omega
  have t6 : decide ((6 : Int) < (k : Int)) = false := by simp; omega
  have C33 := Lib.hid (fun w => rIsLevel_any n d w)
  rw [hl] at C33
  clear hl
  clear hr hwa ha hall hN
  have s0 := (KS.start w).new #[.int .i64 n, .int .i64 d] 36
  obtain ⟨kb0_0, kb0_1, _⟩ := (s0.blkAt 0 rfl).c2
  have S0 := Lib.hid s0
  clear s0
  go_enter Try.func5, Try.ntmps5
  go_wp2_with fail
  generalize (w.alloc (.cells #[.int .i64 n, .int .i64 d] 36)) = V1 at *
  obtain ⟨BS, hBS⟩ : ∃ BS : List (Nat × Array Value × TypeId), BS = [(w.heap.size, #[.int .i64 n, .int .i64 d], 36)] := ⟨_, rfl⟩
  have hS : KS w BS V1 := by rw [hBS]; exact S0.out
  have K0_0 : ∀ W, KS w BS W → W.cell? ⟨w.heap.size, 0, none⟩ = some (.int .i64 n) := fun W h => by rw [hBS] at h; exact (h.blkAt 0 rfl).cell 0
  have K0_1 : ∀ W, KS w BS W → W.cell? ⟨w.heap.size, 1, none⟩ = some (.int .i64 d) := fun W h => by rw [hBS] at h; exact (h.blkAt 0 rfl).cell 1
  have KZ0 : ∀ W b, KZ w BS b #[.int .i64 0, .int .i64 0] 48 W → W.cell? ⟨b, 0, none⟩ = some (.int .i64 0) := fun W b h => h.c0
  have KF0 : ∀ W b, KZ w BS b #[.int .i64 0, .int .i64 0] 48 W → W.frozen? ⟨b, 0, none⟩ = false := fun W b h => h.f 0
  have KZ1 : ∀ W b, KZ w BS b #[.int .i64 0, .int .i64 0] 48 W → W.cell? ⟨b, 1, none⟩ = some (.int .i64 0) := fun W b h => h.c1
  have KF1 : ∀ W b, KZ w BS b #[.int .i64 0, .int .i64 0] 48 W → W.frozen? ⟨b, 1, none⟩ = false := fun W b h => h.f 1
  have HBS := Lib.hid hBS
  clear hBS kb0_0 kb0_1
  refine wp_joinG (ι := Nat × Value) (f := fun a b => ((((((((((a.put (some 22) (.slice ad k cap)).put (some 23) (b.2)).put (some 24) (.agg #[.int .i64 n, .int .i64 d])).put (some 25) (.agg #[.int .i64 n, .int .i64 d])).put (some 26) (.tuple #[.agg #[.int .i64 0, .int .i64 0], .int .i64 2])).put (some 21) (.tuple #[.agg #[.int .i64 0, .int .i64 0], .int .i64 2])).put (some 27) (.agg #[.int .i64 0, .int .i64 0])).put (some 28) (.int .i64 2)).put (some 6) (.int .i64 2)).put (some 5) (.pointer (some ⟨b.1, 0, none⟩)))) (mid := fun b W' => KS w ((b.1, #[.int .i64 0, .int .i64 0], 48) :: BS) W') ?_ ?_
  · go_region_held3 (KS w BS)
      (first | assumption | exact KS.drew (by assumption) | exact KS.alloc (by assumption) _ | exact KS.drew (KS.alloc (by assumption) _) | exact KS.alloc (KS.drew (by assumption)) _ | exact KZ.ks (by assumption) | exact (KZ.new (by assumption) _ _).ks | exact KZ.keep2 (by assumption) | exact (KZ.keep2 (by assumption)).drew | exact (KZ.drew (by assumption)).keep2 | go_keep)
      (first | (go_at_call 32; (with_reducible refine (C32.out _ (KS.bel (w := w) (bs := BS) (by first | assumption | exact KS.drew (by assumption) | exact KS.alloc (by assumption) _))).mono ?_); rintro e wn ⟨a, g', c, rfl, hA, hb⟩; have hSn := KS.below (w := w) (bs := BS) (by first | assumption | exact KS.drew (by assumption)) hb; (first | (have hZ := KZ.below (w := w) (bs := BS) (cs := #[.int .i64 0, .int .i64 0]) (t := 48) (by assumption) hb) | (have hZ := KZ.below (w := w) (bs := BS) (KZ.new (by assumption) #[.int .i64 0, .int .i64 0] 48) hb) | (have hZ := KZ.below (w := w) (bs := BS) (KZ.newD (by assumption) #[.int .i64 0, .int .i64 0] 48) hb) | skip); clear hb) | (go_at_call 25; (with_reducible refine (part_any _ _ _).mono ?_); rintro e wn ⟨rfl, hb⟩; have hSn := KS.below (w := w) (bs := BS) (by first | assumption | exact KS.drew (by assumption)) hb; (first | (have hZ := KZ.below (w := w) (bs := BS) (cs := #[.int .i64 0, .int .i64 0]) (t := 48) (by assumption) hb) | (have hZ := KZ.below (w := w) (bs := BS) (KZ.new (by assumption) #[.int .i64 0, .int .i64 0] 48) hb) | (have hZ := KZ.below (w := w) (bs := BS) (KZ.newD (by assumption) #[.int .i64 0, .int .i64 0] 48) hb) | skip); have hA := AK.below (xs := xs) (by first | assumption | exact AK.drew (by assumption) | exact AK.alloc (by assumption) _ | exact AK.drew (AK.alloc (by assumption) _)) hb; clear hb) | (go_at_call 31; (with_reducible refine (C31.out _ _ _ _ (by first | assumption | exact AK.drew (by assumption) | exact AK.alloc (by assumption) _ | exact AK.drew (AK.alloc (by assumption) _))).mono ?_); rintro e wn ⟨rfl, hb⟩; have hSn := KS.below (w := w) (bs := BS) (by first | assumption | exact KS.drew (by assumption)) hb; (first | (have hZ := KZ.below (w := w) (bs := BS) (cs := #[.int .i64 0, .int .i64 0]) (t := 48) (by assumption) hb) | (have hZ := KZ.below (w := w) (bs := BS) (KZ.new (by assumption) #[.int .i64 0, .int .i64 0] 48) hb) | (have hZ := KZ.below (w := w) (bs := BS) (KZ.newD (by assumption) #[.int .i64 0, .int .i64 0] 48) hb) | skip); clear hb))
    all_goals first | exact ⟨rfl, (_, _), rfl, KS.new (by assumption) _ _⟩ | exact ⟨rfl, (_, _), rfl, KZ.set2 (by assumption)⟩ | exact ⟨rfl, (_, _), rfl, KZ.set2D (by assumption)⟩ | exact ⟨rfl, (_, _), rfl, (KZ.set2 (by assumption)).drew⟩
  rintro ⟨nb, nv⟩ w1 hM
  simp only [Act.put, List.setIfInBounds_toArray, List.set_cons_zero, List.set_cons_succ] at hM ⊢
  have s1 : KS w [(nb, #[.int .i64 0, .int .i64 0], 48), (w.heap.size, #[.int .i64 n, .int .i64 d], 36)] w1 := by have h := hM; rw [HBS.out] at h; exact h
  clear hS hM HBS KZ0 KZ1 KF0 KF1 K0_0 K0_1
  have S1 := Lib.hid s1
  clear s1
  go_wp2
  go_loopw [7, 8] (fun x7 x8 wr => ∃ i : Nat, i ≤ k ∧ x7 = .int .i64 (wa (xs.take i)) ∧ x8 = .int .i64 (i : Int) ∧ KS w [(nb, #[.int .i64 0, .int .i64 0], 48), (w.heap.size, #[.int .i64 n, .int .i64 d], 36)] wr) (fun _ x _ => k - (intOf x).toNat)
  case atStart => exact ⟨0, Nat.zero_le _, rfl, rfl, S1.out⟩
  case round =>
    clear S1
    obtain ⟨i, hi, rfl, rfl, s2⟩ := hrel
    by_cases hlt : i < k
    · exact absurd hlt (by have := H00.out; omega)
    · obtain rfl : i = k := by omega
      have e1 : wa (xs.take i) = 0 := by rw [← HN.out, List.take_length, HWA.out]
      rw [e1]
      clear e1 hlt
      obtain ⟨kb1_0, kb1_1, _⟩ := (s2.blkAt 0 rfl).c2
      obtain ⟨kb0_0, kb0_1, _⟩ := (s2.blkAt 1 rfl).c2
      have S2 := Lib.hid s2
      clear s2
      go_wp2_with fail
      refine (C33.out _).mono ?_
      rintro e w3 ⟨rfl, h3⟩
      clear kb1_0 kb1_1 kb0_0 kb0_1
      have s3 := S2.out.below h3
      obtain ⟨kb1_0, kb1_1, _⟩ := (s3.blkAt 0 rfl).c2
      obtain ⟨kb0_0, kb0_1, _⟩ := (s3.blkAt 1 rfl).c2
      have S3 := Lib.hid s3
      clear h3 s3
      have z4 := KZ.new S3.out #[.int .i64 0, .int .i64 0] 54
      have Z4 := Lib.hid z4
      clear z4
      go_wp2
      clear kb1_0 kb1_1 kb0_0 kb0_1
      generalize w3.heap.size = zb at *
      go_loopw [7, 10] (fun x7 x10 wr2 => x7 = .int .i64 2 ∧ x10 = .int .i64 0 ∧ KZ w [(nb, #[.int .i64 0, .int .i64 0], 48), (w.heap.size, #[.int .i64 n, .int .i64 d], 36)] zb #[.int .i64 0, .int .i64 0] 54 wr2) (fun _ _ _ => 0)
      case atStart => exact ⟨rfl, rfl, Z4.out⟩
      case round =>
        clear Z4
        obtain ⟨rfl, rfl, z5⟩ := hrel
        have c0 := z5.c0
        have c1 := z5.c1
        have f0 := z5.f 0
        have f1 := z5.f 1
        have Z5 := Lib.hid z5
        clear z5
        go_wp2_with fail
        have s6 := Z5.out.set2 (x' := .int .i64 0) (y' := .int .i64 0)
        have S6 := Lib.hid s6
        clear s6 c0 c1 f0 f1
        obtain ⟨BS, hBS⟩ : ∃ BS : List (Nat × Array Value × TypeId), BS = [(zb, #[.int .i64 0, .int .i64 0], 54), (nb, #[.int .i64 0, .int .i64 0], 48), (w.heap.size, #[.int .i64 n, .int .i64 d], 36)] := ⟨_, rfl⟩
        have hS := S6.out; rw [← hBS] at hS
        have K0_0 : ∀ W, KS w BS W → W.cell? ⟨zb, 0, none⟩ = some (.int .i64 0) := fun W h => by rw [hBS] at h; exact (h.blkAt 0 rfl).cell 0
        have K0_1 : ∀ W, KS w BS W → W.cell? ⟨zb, 1, none⟩ = some (.int .i64 0) := fun W h => by rw [hBS] at h; exact (h.blkAt 0 rfl).cell 1
        have K1_0 : ∀ W, KS w BS W → W.cell? ⟨nb, 0, none⟩ = some (.int .i64 0) := fun W h => by rw [hBS] at h; exact (h.blkAt 1 rfl).cell 0
        have K1_1 : ∀ W, KS w BS W → W.cell? ⟨nb, 1, none⟩ = some (.int .i64 0) := fun W h => by rw [hBS] at h; exact (h.blkAt 1 rfl).cell 1
        have K2_0 : ∀ W, KS w BS W → W.cell? ⟨w.heap.size, 0, none⟩ = some (.int .i64 n) := fun W h => by rw [hBS] at h; exact (h.blkAt 2 rfl).cell 0
        have K2_1 : ∀ W, KS w BS W → W.cell? ⟨w.heap.size, 1, none⟩ = some (.int .i64 d) := fun W h => by rw [hBS] at h; exact (h.blkAt 2 rfl).cell 1
        have HBS := Lib.hid hBS
        clear hBS
        go_region_held3 (KS w BS)
          (first | assumption | exact KS.drew (by assumption) | exact KS.alloc (by assumption) _ | exact KS.drew (KS.alloc (by assumption) _) | exact KS.alloc (KS.drew (by assumption)) _ | go_keep)
          (first | (go_at_call 35; (with_reducible refine (to_any _ _ _).mono ?_); rintro e wn ⟨rfl, hb⟩; have hSn := KS.below (by first | assumption | exact KS.drew (by assumption)) hb; clear hb))
        all_goals
          have sE := KS.sub (w := w) (bs := BS) (bs' := [(w.heap.size, #[.int .i64 n, .int .i64 d], 36)]) (by first | assumption | exact KS.drew (by assumption)) (fun x h => by rw [HBS.out]; simp at h; subst h; simp)
          have SE := Lib.hid sE
          clear sE
          go_wp2_with (first | (go_at_call 24; (with_reducible refine (awake_any _).mono ?_); rintro e w99 ⟨rfl, h99⟩; have S99 := Lib.hid (SE.out.below h99); clear h99))
          go_ret
          exact ⟨rfl, S99.out.bel⟩

set_option maxRecDepth 100000 in
set_option maxHeartbeats 8000000 in
theorem tot_A3 (L M S F : Int) (g o cap k : Nat) (xs : List A4) (n d : Int) (w : World) (hN : xs.length = k) (hx0 : xs[0]? = some ⟨L, M, S, F⟩) (hb : g < w.heap.size) (hk9 : k ≤ 9) (hk6 : 6 < k) (ha : AreasAt w g o xs) (hall : xs.all A4.ok = false) :
    Calls Try.prog 5 #[.slice (some ⟨g, o, none⟩) k cap, fracV n d] w fun e w' => e = .returned (.bool true) ∧ Below w.heap.size w w' := by
  have hr : totRes xs n d = (0, 0, 3) := by rw [totRes, if_pos (by omega)]
  have C32 := Lib.hid (Areas_ak (some ⟨g, o, none⟩) g o cap k xs w hN (fun _ => rfl) (fun _ => hb) (by omega) ha)
  have C31 := Lib.hid (fun (W : World) (a : Option Addr) (g' c : Nat) (h : AK W a g' xs) => Total_ak h k c hN n d hr)
  have hwa : wa xs = 1 := by simp [wa, hall]
  have HWA := Lib.hid hwa
  have HN := Lib.hid hN
  have HA := Lib.hid ha
  have HX0 := Lib.hid (show AreasAt w g o [⟨L, M, S, F⟩] from fun i a e => by
    match i, e with
    | 0, e => simp at e; subst e; exact ha 0 _ hx0)
  have hk0 : 0 < k := by rw [← hN]; exact (List.getElem?_eq_some_iff.1 hx0).1
  have HK0 := Lib.hid hk0
  have t0 : decide ((0 : Int) < (k : Int)) = true := by simp; omega
  have te : ((k : Int) == 0) = false := by simp; omega
  have HL := Lib.hid hb
  clear hx0 hb hk0
  have HLL := Lib.hid hall
  have t9 : decide ((9 : Int) < (k : Int)) = false := by simp; omega
  have t6 : decide ((6 : Int) < (k : Int)) = true := by simp; omega
  clear hr hwa ha hall hN
  have s0 := (KS.start w).new #[.int .i64 n, .int .i64 d] 36
  obtain ⟨kb0_0, kb0_1, _⟩ := (s0.blkAt 0 rfl).c2
  have S0 := Lib.hid s0
  clear s0
  go_enter Try.func5, Try.ntmps5
  go_wp2_with fail
  generalize (w.alloc (.cells #[.int .i64 n, .int .i64 d] 36)) = V1 at *
  obtain ⟨BS, hBS⟩ : ∃ BS : List (Nat × Array Value × TypeId), BS = [(w.heap.size, #[.int .i64 n, .int .i64 d], 36)] := ⟨_, rfl⟩
  have hS : KS w BS V1 := by rw [hBS]; exact S0.out
  have K0_0 : ∀ W, KS w BS W → W.cell? ⟨w.heap.size, 0, none⟩ = some (.int .i64 n) := fun W h => by rw [hBS] at h; exact (h.blkAt 0 rfl).cell 0
  have K0_1 : ∀ W, KS w BS W → W.cell? ⟨w.heap.size, 1, none⟩ = some (.int .i64 d) := fun W h => by rw [hBS] at h; exact (h.blkAt 0 rfl).cell 1
  have KZ0 : ∀ W b, KZ w BS b #[.int .i64 0, .int .i64 0] 48 W → W.cell? ⟨b, 0, none⟩ = some (.int .i64 0) := fun W b h => h.c0
  have KF0 : ∀ W b, KZ w BS b #[.int .i64 0, .int .i64 0] 48 W → W.frozen? ⟨b, 0, none⟩ = false := fun W b h => h.f 0
  have KZ1 : ∀ W b, KZ w BS b #[.int .i64 0, .int .i64 0] 48 W → W.cell? ⟨b, 1, none⟩ = some (.int .i64 0) := fun W b h => h.c1
  have KF1 : ∀ W b, KZ w BS b #[.int .i64 0, .int .i64 0] 48 W → W.frozen? ⟨b, 1, none⟩ = false := fun W b h => h.f 1
  have HBS := Lib.hid hBS
  clear hBS kb0_0 kb0_1
  refine wp_joinG (ι := Nat × Value) (f := fun a b => ((((((((((a.put (some 22) (.slice (some ⟨g, o, none⟩) k cap)).put (some 23) (b.2)).put (some 24) (.agg #[.int .i64 n, .int .i64 d])).put (some 25) (.agg #[.int .i64 n, .int .i64 d])).put (some 26) (.tuple #[.agg #[.int .i64 0, .int .i64 0], .int .i64 3])).put (some 21) (.tuple #[.agg #[.int .i64 0, .int .i64 0], .int .i64 3])).put (some 27) (.agg #[.int .i64 0, .int .i64 0])).put (some 28) (.int .i64 3)).put (some 6) (.int .i64 3)).put (some 5) (.pointer (some ⟨b.1, 0, none⟩)))) (mid := fun b W' => KS w ((b.1, #[.int .i64 0, .int .i64 0], 48) :: BS) W') ?_ ?_
  · go_region_held3 (KS w BS)
      (first | assumption | exact KS.drew (by assumption) | exact KS.alloc (by assumption) _ | exact KS.drew (KS.alloc (by assumption) _) | exact KS.alloc (KS.drew (by assumption)) _ | exact KZ.ks (by assumption) | exact (KZ.new (by assumption) _ _).ks | exact KZ.keep2 (by assumption) | exact (KZ.keep2 (by assumption)).drew | exact (KZ.drew (by assumption)).keep2 | go_keep)
      (first | (go_at_call 32; (with_reducible refine (C32.out _ (KS.bel (w := w) (bs := BS) (by first | assumption | exact KS.drew (by assumption) | exact KS.alloc (by assumption) _))).mono ?_); rintro e wn ⟨a, g', c, rfl, hA, hb⟩; have hSn := KS.below (w := w) (bs := BS) (by first | assumption | exact KS.drew (by assumption)) hb; (first | (have hZ := KZ.below (w := w) (bs := BS) (cs := #[.int .i64 0, .int .i64 0]) (t := 48) (by assumption) hb) | (have hZ := KZ.below (w := w) (bs := BS) (KZ.new (by assumption) #[.int .i64 0, .int .i64 0] 48) hb) | (have hZ := KZ.below (w := w) (bs := BS) (KZ.newD (by assumption) #[.int .i64 0, .int .i64 0] 48) hb) | skip); clear hb) | (go_at_call 25; (with_reducible refine (part_any _ _ _).mono ?_); rintro e wn ⟨rfl, hb⟩; have hSn := KS.below (w := w) (bs := BS) (by first | assumption | exact KS.drew (by assumption)) hb; (first | (have hZ := KZ.below (w := w) (bs := BS) (cs := #[.int .i64 0, .int .i64 0]) (t := 48) (by assumption) hb) | (have hZ := KZ.below (w := w) (bs := BS) (KZ.new (by assumption) #[.int .i64 0, .int .i64 0] 48) hb) | (have hZ := KZ.below (w := w) (bs := BS) (KZ.newD (by assumption) #[.int .i64 0, .int .i64 0] 48) hb) | skip); have hA := AK.below (xs := xs) (by first | assumption | exact AK.drew (by assumption) | exact AK.alloc (by assumption) _ | exact AK.drew (AK.alloc (by assumption) _)) hb; clear hb) | (go_at_call 31; (with_reducible refine (C31.out _ _ _ _ (by first | assumption | exact AK.drew (by assumption) | exact AK.alloc (by assumption) _ | exact AK.drew (AK.alloc (by assumption) _))).mono ?_); rintro e wn ⟨rfl, hb⟩; have hSn := KS.below (w := w) (bs := BS) (by first | assumption | exact KS.drew (by assumption)) hb; (first | (have hZ := KZ.below (w := w) (bs := BS) (cs := #[.int .i64 0, .int .i64 0]) (t := 48) (by assumption) hb) | (have hZ := KZ.below (w := w) (bs := BS) (KZ.new (by assumption) #[.int .i64 0, .int .i64 0] 48) hb) | (have hZ := KZ.below (w := w) (bs := BS) (KZ.newD (by assumption) #[.int .i64 0, .int .i64 0] 48) hb) | skip); clear hb))
    all_goals first | exact ⟨rfl, (_, _), rfl, KS.new (by assumption) _ _⟩ | exact ⟨rfl, (_, _), rfl, KZ.set2 (by assumption)⟩ | exact ⟨rfl, (_, _), rfl, KZ.set2D (by assumption)⟩ | exact ⟨rfl, (_, _), rfl, (KZ.set2 (by assumption)).drew⟩
  rintro ⟨nb, nv⟩ w1 hM
  simp only [Act.put, List.setIfInBounds_toArray, List.set_cons_zero, List.set_cons_succ] at hM ⊢
  have s1 : KS w [(nb, #[.int .i64 0, .int .i64 0], 48), (w.heap.size, #[.int .i64 n, .int .i64 d], 36)] w1 := by have h := hM; rw [HBS.out] at h; exact h
  clear hS hM HBS KZ0 KZ1 KF0 KF1 K0_0 K0_1
  have S1 := Lib.hid s1
  clear s1
  go_wp2
  go_loopw [7, 8] (fun x7 x8 wr => ∃ i : Nat, i ≤ k ∧ x7 = .int .i64 (wa (xs.take i)) ∧ x8 = .int .i64 (i : Int) ∧ KS w [(nb, #[.int .i64 0, .int .i64 0], 48), (w.heap.size, #[.int .i64 n, .int .i64 d], 36)] wr) (fun _ x _ => k - (intOf x).toNat)
  case atStart => exact ⟨0, Nat.zero_le _, rfl, rfl, S1.out⟩
  case round =>
    clear S1
    obtain ⟨i, hi, rfl, rfl, s2⟩ := hrel
    by_cases hlt : i < k
    · obtain ⟨x, hx⟩ : ∃ x, xs[i]? = some x := ⟨xs[i]'(by rw [HN.out]; exact hlt), by simp⟩
      obtain ⟨k0, k1, k2, k3⟩ := HA.out.below s2.bel HL.out i x hx
      have HT := Lib.hid (show xs.take (i + 1) = xs.take i ++ [x] by rw [List.take_add_one, hx]; rfl)
      obtain ⟨L, M, S, F⟩ := x
      simp only [] at k0 k1 k2 k3
      have S2 := Lib.hid s2
      clear hx s2
      have C22 := Lib.hid (fun w => fault_any L M S F w)
      cases hf : areaB L M S F with
      | true =>
        rw [show faultI L M S F = 0 by simp [faultI, hf]] at C22
        have HF := Lib.hid hf
        clear hf
        go_wp2_with (first | (go_at_call 22; (with_reducible refine (C22.out _).mono ?_); rintro e w3 ⟨rfl, h3⟩; have S3 := Lib.hid (S2.out.below h3); clear h3))
        go_roundw
        case rel => exact ⟨i + 1, by omega, by rw [HT.out, wa_snoc (xs.take i) ⟨L, M, S, F⟩ HF.out], by go_num, S3.out⟩
        case measure => simp [intOf]; omega
      | false =>
        rw [show faultI L M S F = 1 by simp [faultI, hf]] at C22
        have HF := Lib.hid hf
        clear hf
        go_wp2_with (first | (go_at_call 22; (with_reducible refine (C22.out _).mono ?_); rintro e w3 ⟨rfl, h3⟩; have S3 := Lib.hid (S2.out.below h3); clear h3))
        go_roundw
        case rel => exact ⟨i + 1, by omega, by rw [HT.out, wa_bad (xs.take i) ⟨L, M, S, F⟩ HF.out], by go_num, S3.out⟩
        case measure => simp [intOf]; omega
    · obtain rfl : i = k := by omega
      have e1 : wa (xs.take i) = 1 := by rw [← HN.out, List.take_length, HWA.out]
      rw [e1]
      clear e1 hlt
      obtain ⟨kb1_0, kb1_1, _⟩ := (s2.blkAt 0 rfl).c2
      obtain ⟨kb0_0, kb0_1, _⟩ := (s2.blkAt 1 rfl).c2
      have S2 := Lib.hid s2
      clear s2
      have z4 := KZ.new S2.out #[.int .i64 0, .int .i64 0] 54
      have Z4 := Lib.hid z4
      clear z4
      go_wp2
      clear kb1_0 kb1_1 kb0_0 kb0_1
      generalize wr.heap.size = zb at *
      go_loopw [7, 10] (fun x7 x10 wr2 => x7 = .int .i64 3 ∧ x10 = .int .i64 0 ∧ KZ w [(nb, #[.int .i64 0, .int .i64 0], 48), (w.heap.size, #[.int .i64 n, .int .i64 d], 36)] zb #[.int .i64 0, .int .i64 0] 54 wr2) (fun _ _ _ => 0)
      case atStart => exact ⟨rfl, rfl, Z4.out⟩
      case round =>
        clear Z4
        obtain ⟨rfl, rfl, z5⟩ := hrel
        have c0 := z5.c0
        have c1 := z5.c1
        have f0 := z5.f 0
        have f1 := z5.f 1
        have Z5 := Lib.hid z5
        clear z5
        go_wp2_with fail
        have s6 := Z5.out.set2 (x' := .int .i64 0) (y' := .int .i64 0)
        have S6 := Lib.hid s6
        clear s6 c0 c1 f0 f1
        obtain ⟨BS, hBS⟩ : ∃ BS : List (Nat × Array Value × TypeId), BS = [(zb, #[.int .i64 0, .int .i64 0], 54), (nb, #[.int .i64 0, .int .i64 0], 48), (w.heap.size, #[.int .i64 n, .int .i64 d], 36)] := ⟨_, rfl⟩
        have hS := S6.out; rw [← hBS] at hS
        have K0_0 : ∀ W, KS w BS W → W.cell? ⟨zb, 0, none⟩ = some (.int .i64 0) := fun W h => by rw [hBS] at h; exact (h.blkAt 0 rfl).cell 0
        have K0_1 : ∀ W, KS w BS W → W.cell? ⟨zb, 1, none⟩ = some (.int .i64 0) := fun W h => by rw [hBS] at h; exact (h.blkAt 0 rfl).cell 1
        have K1_0 : ∀ W, KS w BS W → W.cell? ⟨nb, 0, none⟩ = some (.int .i64 0) := fun W h => by rw [hBS] at h; exact (h.blkAt 1 rfl).cell 0
        have K1_1 : ∀ W, KS w BS W → W.cell? ⟨nb, 1, none⟩ = some (.int .i64 0) := fun W h => by rw [hBS] at h; exact (h.blkAt 1 rfl).cell 1
        have K2_0 : ∀ W, KS w BS W → W.cell? ⟨w.heap.size, 0, none⟩ = some (.int .i64 n) := fun W h => by rw [hBS] at h; exact (h.blkAt 2 rfl).cell 0
        have K2_1 : ∀ W, KS w BS W → W.cell? ⟨w.heap.size, 1, none⟩ = some (.int .i64 d) := fun W h => by rw [hBS] at h; exact (h.blkAt 2 rfl).cell 1
        have HBS := Lib.hid hBS
        clear hBS
        go_region_held3 (KS w BS)
          (first | assumption | exact KS.drew (by assumption) | exact KS.alloc (by assumption) _ | exact KS.drew (KS.alloc (by assumption) _) | exact KS.alloc (KS.drew (by assumption)) _ | go_keep)
          (first | (go_at_call 35; (with_reducible refine (to_any _ _ _).mono ?_); rintro e wn ⟨rfl, hb⟩; have hSn := KS.below (by first | assumption | exact KS.drew (by assumption)) hb; clear hb))
        all_goals
          have sE := KS.sub (w := w) (bs := BS) (bs' := [(w.heap.size, #[.int .i64 n, .int .i64 d], 36)]) (by first | assumption | exact KS.drew (by assumption)) (fun x h => by rw [HBS.out]; simp at h; subst h; simp)
          have SE := Lib.hid sE
          clear sE
          go_wp2_with fail
          exact tot_rest g o cap _ L M S F n d w _ _ _ _ _ _ _ _ _ _ _ _ _ _ _ _ _ _ _ _ _ _ _ _ _ _ _ _ _ _ _ _ _ _ _ _ _ _ _ _ _ _ _ _ _ _ _ _ _ _ _ _ _ _ _ _ _ _ _ _ _ _ _ _ _ _ _ _ _ _ _ _ _ _ _ _ _ _ _ _ _ _ _ _ _ _ _ _ _ _ _ _ _ _ _ _ _ (by assumption) HK0.out HL.out HX0.out SE.out

set_option maxRecDepth 100000 in
set_option maxHeartbeats 8000000 in
theorem tot_B3 (L M S F : Int) (g o cap k : Nat) (xs : List A4) (n d : Int) (w : World) (hN : xs.length = k) (hx0 : xs[0]? = some ⟨L, M, S, F⟩) (hb : g < w.heap.size) (hk9 : k ≤ 9) (hk6 : 6 < k) (ha : AreasAt w g o xs) (hall : xs.all A4.ok = true) (hl : levB n d = false) :
    Calls Try.prog 5 #[.slice (some ⟨g, o, none⟩) k cap, fracV n d] w fun e w' => e = .returned (.bool true) ∧ Below w.heap.size w w' := by
  have hr : totRes xs n d = (0, 0, 3) := by rw [totRes, if_pos (by omega)]
  have C32 := Lib.hid (Areas_ak (some ⟨g, o, none⟩) g o cap k xs w hN (fun _ => rfl) (fun _ => hb) (by omega) ha)
  have C31 := Lib.hid (fun (W : World) (a : Option Addr) (g' c : Nat) (h : AK W a g' xs) => Total_ak h k c hN n d hr)
  have hwa : wa xs = 0 := by simp [wa, hall]
  have HWA := Lib.hid hwa
  have HN := Lib.hid hN
  have HA := Lib.hid ha
  have HX0 := Lib.hid (show AreasAt w g o [⟨L, M, S, F⟩] from fun i a e => by
    match i, e with
    | 0, e => simp at e; subst e; exact ha 0 _ hx0)
  have hk0 : 0 < k := by rw [← hN]; exact (List.getElem?_eq_some_iff.1 hx0).1
  have HK0 := Lib.hid hk0
  have t0 : decide ((0 : Int) < (k : Int)) = true := by simp; omega
  have te : ((k : Int) == 0) = false := by simp; omega
  have HL := Lib.hid hb
  clear hx0 hb hk0
  have HLL := Lib.hid hall
  have t9 : decide ((9 : Int) < (k : Int)) = false := by simp; omega
  have t6 : decide ((6 : Int) < (k : Int)) = true := by simp; omega
  have C33 := Lib.hid (fun w => rIsLevel_any n d w)
  rw [hl] at C33
  clear hl
  clear hr hwa ha hall hN
  have s0 := (KS.start w).new #[.int .i64 n, .int .i64 d] 36
  obtain ⟨kb0_0, kb0_1, _⟩ := (s0.blkAt 0 rfl).c2
  have S0 := Lib.hid s0
  clear s0
  go_enter Try.func5, Try.ntmps5
  go_wp2_with fail
  generalize (w.alloc (.cells #[.int .i64 n, .int .i64 d] 36)) = V1 at *
  obtain ⟨BS, hBS⟩ : ∃ BS : List (Nat × Array Value × TypeId), BS = [(w.heap.size, #[.int .i64 n, .int .i64 d], 36)] := ⟨_, rfl⟩
  have hS : KS w BS V1 := by rw [hBS]; exact S0.out
  have K0_0 : ∀ W, KS w BS W → W.cell? ⟨w.heap.size, 0, none⟩ = some (.int .i64 n) := fun W h => by rw [hBS] at h; exact (h.blkAt 0 rfl).cell 0
  have K0_1 : ∀ W, KS w BS W → W.cell? ⟨w.heap.size, 1, none⟩ = some (.int .i64 d) := fun W h => by rw [hBS] at h; exact (h.blkAt 0 rfl).cell 1
  have KZ0 : ∀ W b, KZ w BS b #[.int .i64 0, .int .i64 0] 48 W → W.cell? ⟨b, 0, none⟩ = some (.int .i64 0) := fun W b h => h.c0
  have KF0 : ∀ W b, KZ w BS b #[.int .i64 0, .int .i64 0] 48 W → W.frozen? ⟨b, 0, none⟩ = false := fun W b h => h.f 0
  have KZ1 : ∀ W b, KZ w BS b #[.int .i64 0, .int .i64 0] 48 W → W.cell? ⟨b, 1, none⟩ = some (.int .i64 0) := fun W b h => h.c1
  have KF1 : ∀ W b, KZ w BS b #[.int .i64 0, .int .i64 0] 48 W → W.frozen? ⟨b, 1, none⟩ = false := fun W b h => h.f 1
  have HBS := Lib.hid hBS
  clear hBS kb0_0 kb0_1
  refine wp_joinG (ι := Nat × Value) (f := fun a b => ((((((((((a.put (some 22) (.slice (some ⟨g, o, none⟩) k cap)).put (some 23) (b.2)).put (some 24) (.agg #[.int .i64 n, .int .i64 d])).put (some 25) (.agg #[.int .i64 n, .int .i64 d])).put (some 26) (.tuple #[.agg #[.int .i64 0, .int .i64 0], .int .i64 3])).put (some 21) (.tuple #[.agg #[.int .i64 0, .int .i64 0], .int .i64 3])).put (some 27) (.agg #[.int .i64 0, .int .i64 0])).put (some 28) (.int .i64 3)).put (some 6) (.int .i64 3)).put (some 5) (.pointer (some ⟨b.1, 0, none⟩)))) (mid := fun b W' => KS w ((b.1, #[.int .i64 0, .int .i64 0], 48) :: BS) W') ?_ ?_
  · go_region_held3 (KS w BS)
      (first | assumption | exact KS.drew (by assumption) | exact KS.alloc (by assumption) _ | exact KS.drew (KS.alloc (by assumption) _) | exact KS.alloc (KS.drew (by assumption)) _ | exact KZ.ks (by assumption) | exact (KZ.new (by assumption) _ _).ks | exact KZ.keep2 (by assumption) | exact (KZ.keep2 (by assumption)).drew | exact (KZ.drew (by assumption)).keep2 | go_keep)
      (first | (go_at_call 32; (with_reducible refine (C32.out _ (KS.bel (w := w) (bs := BS) (by first | assumption | exact KS.drew (by assumption) | exact KS.alloc (by assumption) _))).mono ?_); rintro e wn ⟨a, g', c, rfl, hA, hb⟩; have hSn := KS.below (w := w) (bs := BS) (by first | assumption | exact KS.drew (by assumption)) hb; (first | (have hZ := KZ.below (w := w) (bs := BS) (cs := #[.int .i64 0, .int .i64 0]) (t := 48) (by assumption) hb) | (have hZ := KZ.below (w := w) (bs := BS) (KZ.new (by assumption) #[.int .i64 0, .int .i64 0] 48) hb) | (have hZ := KZ.below (w := w) (bs := BS) (KZ.newD (by assumption) #[.int .i64 0, .int .i64 0] 48) hb) | skip); clear hb) | (go_at_call 25; (with_reducible refine (part_any _ _ _).mono ?_); rintro e wn ⟨rfl, hb⟩; have hSn := KS.below (w := w) (bs := BS) (by first | assumption | exact KS.drew (by assumption)) hb; (first | (have hZ := KZ.below (w := w) (bs := BS) (cs := #[.int .i64 0, .int .i64 0]) (t := 48) (by assumption) hb) | (have hZ := KZ.below (w := w) (bs := BS) (KZ.new (by assumption) #[.int .i64 0, .int .i64 0] 48) hb) | (have hZ := KZ.below (w := w) (bs := BS) (KZ.newD (by assumption) #[.int .i64 0, .int .i64 0] 48) hb) | skip); have hA := AK.below (xs := xs) (by first | assumption | exact AK.drew (by assumption) | exact AK.alloc (by assumption) _ | exact AK.drew (AK.alloc (by assumption) _)) hb; clear hb) | (go_at_call 31; (with_reducible refine (C31.out _ _ _ _ (by first | assumption | exact AK.drew (by assumption) | exact AK.alloc (by assumption) _ | exact AK.drew (AK.alloc (by assumption) _))).mono ?_); rintro e wn ⟨rfl, hb⟩; have hSn := KS.below (w := w) (bs := BS) (by first | assumption | exact KS.drew (by assumption)) hb; (first | (have hZ := KZ.below (w := w) (bs := BS) (cs := #[.int .i64 0, .int .i64 0]) (t := 48) (by assumption) hb) | (have hZ := KZ.below (w := w) (bs := BS) (KZ.new (by assumption) #[.int .i64 0, .int .i64 0] 48) hb) | (have hZ := KZ.below (w := w) (bs := BS) (KZ.newD (by assumption) #[.int .i64 0, .int .i64 0] 48) hb) | skip); clear hb))
    all_goals first | exact ⟨rfl, (_, _), rfl, KS.new (by assumption) _ _⟩ | exact ⟨rfl, (_, _), rfl, KZ.set2 (by assumption)⟩ | exact ⟨rfl, (_, _), rfl, KZ.set2D (by assumption)⟩ | exact ⟨rfl, (_, _), rfl, (KZ.set2 (by assumption)).drew⟩
  rintro ⟨nb, nv⟩ w1 hM
  simp only [Act.put, List.setIfInBounds_toArray, List.set_cons_zero, List.set_cons_succ] at hM ⊢
  have s1 : KS w [(nb, #[.int .i64 0, .int .i64 0], 48), (w.heap.size, #[.int .i64 n, .int .i64 d], 36)] w1 := by have h := hM; rw [HBS.out] at h; exact h
  clear hS hM HBS KZ0 KZ1 KF0 KF1 K0_0 K0_1
  have S1 := Lib.hid s1
  clear s1
  go_wp2
  go_loopw [7, 8] (fun x7 x8 wr => ∃ i : Nat, i ≤ k ∧ x7 = .int .i64 (wa (xs.take i)) ∧ x8 = .int .i64 (i : Int) ∧ KS w [(nb, #[.int .i64 0, .int .i64 0], 48), (w.heap.size, #[.int .i64 n, .int .i64 d], 36)] wr) (fun _ x _ => k - (intOf x).toNat)
  case atStart => exact ⟨0, Nat.zero_le _, rfl, rfl, S1.out⟩
  case round =>
    clear S1
    obtain ⟨i, hi, rfl, rfl, s2⟩ := hrel
    by_cases hlt : i < k
    · obtain ⟨x, hx⟩ : ∃ x, xs[i]? = some x := ⟨xs[i]'(by rw [HN.out]; exact hlt), by simp⟩
      obtain ⟨k0, k1, k2, k3⟩ := HA.out.below s2.bel HL.out i x hx
      have HT := Lib.hid (show xs.take (i + 1) = xs.take i ++ [x] by rw [List.take_add_one, hx]; rfl)
      obtain ⟨L, M, S, F⟩ := x
      simp only [] at k0 k1 k2 k3
      have S2 := Lib.hid s2
      clear hx s2
      have C22 := Lib.hid (fun w => fault_any L M S F w)
      cases hf : areaB L M S F with
      | true =>
        rw [show faultI L M S F = 0 by simp [faultI, hf]] at C22
        have HF := Lib.hid hf
        clear hf
        go_wp2_with (first | (go_at_call 22; (with_reducible refine (C22.out _).mono ?_); rintro e w3 ⟨rfl, h3⟩; have S3 := Lib.hid (S2.out.below h3); clear h3))
        go_roundw
        case rel => exact ⟨i + 1, by omega, by rw [HT.out, wa_snoc (xs.take i) ⟨L, M, S, F⟩ HF.out], by go_num, S3.out⟩
        case measure => simp [intOf]; omega
      | false =>
        rw [show faultI L M S F = 1 by simp [faultI, hf]] at C22
        have HF := Lib.hid hf
        clear hf
        go_wp2_with (first | (go_at_call 22; (with_reducible refine (C22.out _).mono ?_); rintro e w3 ⟨rfl, h3⟩; have S3 := Lib.hid (S2.out.below h3); clear h3))
        go_roundw
        case rel => exact ⟨i + 1, by omega, by rw [HT.out, wa_bad (xs.take i) ⟨L, M, S, F⟩ HF.out], by go_num, S3.out⟩
        case measure => simp [intOf]; omega
    · obtain rfl : i = k := by omega
      have e1 : wa (xs.take i) = 0 := by rw [← HN.out, List.take_length, HWA.out]
      rw [e1]
      clear e1 hlt
      obtain ⟨kb1_0, kb1_1, _⟩ := (s2.blkAt 0 rfl).c2
      obtain ⟨kb0_0, kb0_1, _⟩ := (s2.blkAt 1 rfl).c2
      have S2 := Lib.hid s2
      clear s2
      go_wp2_with fail
      refine (C33.out _).mono ?_
      rintro e w3 ⟨rfl, h3⟩
      clear kb1_0 kb1_1 kb0_0 kb0_1
      have s3 := S2.out.below h3
      obtain ⟨kb1_0, kb1_1, _⟩ := (s3.blkAt 0 rfl).c2
      obtain ⟨kb0_0, kb0_1, _⟩ := (s3.blkAt 1 rfl).c2
      have S3 := Lib.hid s3
      clear h3 s3
      have z4 := KZ.new S3.out #[.int .i64 0, .int .i64 0] 54
      have Z4 := Lib.hid z4
      clear z4
      go_wp2
      clear kb1_0 kb1_1 kb0_0 kb0_1
      generalize w3.heap.size = zb at *
      go_loopw [7, 10] (fun x7 x10 wr2 => x7 = .int .i64 3 ∧ x10 = .int .i64 0 ∧ KZ w [(nb, #[.int .i64 0, .int .i64 0], 48), (w.heap.size, #[.int .i64 n, .int .i64 d], 36)] zb #[.int .i64 0, .int .i64 0] 54 wr2) (fun _ _ _ => 0)
      case atStart => exact ⟨rfl, rfl, Z4.out⟩
      case round =>
        clear Z4
        obtain ⟨rfl, rfl, z5⟩ := hrel
        have c0 := z5.c0
        have c1 := z5.c1
        have f0 := z5.f 0
        have f1 := z5.f 1
        have Z5 := Lib.hid z5
        clear z5
        go_wp2_with fail
        have s6 := Z5.out.set2 (x' := .int .i64 0) (y' := .int .i64 0)
        have S6 := Lib.hid s6
        clear s6 c0 c1 f0 f1
        obtain ⟨BS, hBS⟩ : ∃ BS : List (Nat × Array Value × TypeId), BS = [(zb, #[.int .i64 0, .int .i64 0], 54), (nb, #[.int .i64 0, .int .i64 0], 48), (w.heap.size, #[.int .i64 n, .int .i64 d], 36)] := ⟨_, rfl⟩
        have hS := S6.out; rw [← hBS] at hS
        have K0_0 : ∀ W, KS w BS W → W.cell? ⟨zb, 0, none⟩ = some (.int .i64 0) := fun W h => by rw [hBS] at h; exact (h.blkAt 0 rfl).cell 0
        have K0_1 : ∀ W, KS w BS W → W.cell? ⟨zb, 1, none⟩ = some (.int .i64 0) := fun W h => by rw [hBS] at h; exact (h.blkAt 0 rfl).cell 1
        have K1_0 : ∀ W, KS w BS W → W.cell? ⟨nb, 0, none⟩ = some (.int .i64 0) := fun W h => by rw [hBS] at h; exact (h.blkAt 1 rfl).cell 0
        have K1_1 : ∀ W, KS w BS W → W.cell? ⟨nb, 1, none⟩ = some (.int .i64 0) := fun W h => by rw [hBS] at h; exact (h.blkAt 1 rfl).cell 1
        have K2_0 : ∀ W, KS w BS W → W.cell? ⟨w.heap.size, 0, none⟩ = some (.int .i64 n) := fun W h => by rw [hBS] at h; exact (h.blkAt 2 rfl).cell 0
        have K2_1 : ∀ W, KS w BS W → W.cell? ⟨w.heap.size, 1, none⟩ = some (.int .i64 d) := fun W h => by rw [hBS] at h; exact (h.blkAt 2 rfl).cell 1
        have HBS := Lib.hid hBS
        clear hBS
        go_region_held3 (KS w BS)
          (first | assumption | exact KS.drew (by assumption) | exact KS.alloc (by assumption) _ | exact KS.drew (KS.alloc (by assumption) _) | exact KS.alloc (KS.drew (by assumption)) _ | go_keep)
          (first | (go_at_call 35; (with_reducible refine (to_any _ _ _).mono ?_); rintro e wn ⟨rfl, hb⟩; have hSn := KS.below (by first | assumption | exact KS.drew (by assumption)) hb; clear hb))
        all_goals
          have sE := KS.sub (w := w) (bs := BS) (bs' := [(w.heap.size, #[.int .i64 n, .int .i64 d], 36)]) (by first | assumption | exact KS.drew (by assumption)) (fun x h => by rw [HBS.out]; simp at h; subst h; simp)
          have SE := Lib.hid sE
          clear sE
          go_wp2_with fail
          exact tot_rest g o cap _ L M S F n d w _ _ _ _ _ _ _ _ _ _ _ _ _ _ _ _ _ _ _ _ _ _ _ _ _ _ _ _ _ _ _ _ _ _ _ _ _ _ _ _ _ _ _ _ _ _ _ _ _ _ _ _ _ _ _ _ _ _ _ _ _ _ _ _ _ _ _ _ _ _ _ _ _ _ _ _ _ _ _ _ _ _ _ _ _ _ _ _ _ _ _ _ _ _ _ _ _ (by assumption) HK0.out HL.out HX0.out SE.out

set_option maxRecDepth 100000 in
set_option maxHeartbeats 8000000 in
theorem tot_C3 (L M S F : Int) (g o cap k : Nat) (xs : List A4) (n d : Int) (w : World) (hN : xs.length = k) (hx0 : xs[0]? = some ⟨L, M, S, F⟩) (hb : g < w.heap.size) (hk9 : k ≤ 9) (hk6 : 6 < k) (ha : AreasAt w g o xs) (hall : xs.all A4.ok = true) (hl : levB n d = true) :
    Calls Try.prog 5 #[.slice (some ⟨g, o, none⟩) k cap, fracV n d] w fun e w' => e = .returned (.bool true) ∧ Below w.heap.size w w' := by
  have hr : totRes xs n d = (0, 0, 3) := by rw [totRes, if_pos (by omega)]
  have C32 := Lib.hid (Areas_ak (some ⟨g, o, none⟩) g o cap k xs w hN (fun _ => rfl) (fun _ => hb) (by omega) ha)
  have C31 := Lib.hid (fun (W : World) (a : Option Addr) (g' c : Nat) (h : AK W a g' xs) => Total_ak h k c hN n d hr)
  have hwa : wa xs = 0 := by simp [wa, hall]
  have HWA := Lib.hid hwa
  have HN := Lib.hid hN
  have HA := Lib.hid ha
  have HX0 := Lib.hid (show AreasAt w g o [⟨L, M, S, F⟩] from fun i a e => by
    match i, e with
    | 0, e => simp at e; subst e; exact ha 0 _ hx0)
  have hk0 : 0 < k := by rw [← hN]; exact (List.getElem?_eq_some_iff.1 hx0).1
  have HK0 := Lib.hid hk0
  have t0 : decide ((0 : Int) < (k : Int)) = true := by simp; omega
  have te : ((k : Int) == 0) = false := by simp; omega
  have HL := Lib.hid hb
  clear hx0 hb hk0
  have HLL := Lib.hid hall
  have t9 : decide ((9 : Int) < (k : Int)) = false := by simp; omega
  have t6 : decide ((6 : Int) < (k : Int)) = true := by simp; omega
  have C33 := Lib.hid (fun w => rIsLevel_any n d w)
  rw [hl] at C33
  clear hl
  clear hr hwa ha hall hN
  have s0 := (KS.start w).new #[.int .i64 n, .int .i64 d] 36
  obtain ⟨kb0_0, kb0_1, _⟩ := (s0.blkAt 0 rfl).c2
  have S0 := Lib.hid s0
  clear s0
  go_enter Try.func5, Try.ntmps5
  go_wp2_with fail
  generalize (w.alloc (.cells #[.int .i64 n, .int .i64 d] 36)) = V1 at *
  obtain ⟨BS, hBS⟩ : ∃ BS : List (Nat × Array Value × TypeId), BS = [(w.heap.size, #[.int .i64 n, .int .i64 d], 36)] := ⟨_, rfl⟩
  have hS : KS w BS V1 := by rw [hBS]; exact S0.out
  have K0_0 : ∀ W, KS w BS W → W.cell? ⟨w.heap.size, 0, none⟩ = some (.int .i64 n) := fun W h => by rw [hBS] at h; exact (h.blkAt 0 rfl).cell 0
  have K0_1 : ∀ W, KS w BS W → W.cell? ⟨w.heap.size, 1, none⟩ = some (.int .i64 d) := fun W h => by rw [hBS] at h; exact (h.blkAt 0 rfl).cell 1
  have KZ0 : ∀ W b, KZ w BS b #[.int .i64 0, .int .i64 0] 48 W → W.cell? ⟨b, 0, none⟩ = some (.int .i64 0) := fun W b h => h.c0
  have KF0 : ∀ W b, KZ w BS b #[.int .i64 0, .int .i64 0] 48 W → W.frozen? ⟨b, 0, none⟩ = false := fun W b h => h.f 0
  have KZ1 : ∀ W b, KZ w BS b #[.int .i64 0, .int .i64 0] 48 W → W.cell? ⟨b, 1, none⟩ = some (.int .i64 0) := fun W b h => h.c1
  have KF1 : ∀ W b, KZ w BS b #[.int .i64 0, .int .i64 0] 48 W → W.frozen? ⟨b, 1, none⟩ = false := fun W b h => h.f 1
  have HBS := Lib.hid hBS
  clear hBS kb0_0 kb0_1
  refine wp_joinG (ι := Nat × Value) (f := fun a b => ((((((((((a.put (some 22) (.slice (some ⟨g, o, none⟩) k cap)).put (some 23) (b.2)).put (some 24) (.agg #[.int .i64 n, .int .i64 d])).put (some 25) (.agg #[.int .i64 n, .int .i64 d])).put (some 26) (.tuple #[.agg #[.int .i64 0, .int .i64 0], .int .i64 3])).put (some 21) (.tuple #[.agg #[.int .i64 0, .int .i64 0], .int .i64 3])).put (some 27) (.agg #[.int .i64 0, .int .i64 0])).put (some 28) (.int .i64 3)).put (some 6) (.int .i64 3)).put (some 5) (.pointer (some ⟨b.1, 0, none⟩)))) (mid := fun b W' => KS w ((b.1, #[.int .i64 0, .int .i64 0], 48) :: BS) W') ?_ ?_
  · go_region_held3 (KS w BS)
      (first | assumption | exact KS.drew (by assumption) | exact KS.alloc (by assumption) _ | exact KS.drew (KS.alloc (by assumption) _) | exact KS.alloc (KS.drew (by assumption)) _ | exact KZ.ks (by assumption) | exact (KZ.new (by assumption) _ _).ks | exact KZ.keep2 (by assumption) | exact (KZ.keep2 (by assumption)).drew | exact (KZ.drew (by assumption)).keep2 | go_keep)
      (first | (go_at_call 32; (with_reducible refine (C32.out _ (KS.bel (w := w) (bs := BS) (by first | assumption | exact KS.drew (by assumption) | exact KS.alloc (by assumption) _))).mono ?_); rintro e wn ⟨a, g', c, rfl, hA, hb⟩; have hSn := KS.below (w := w) (bs := BS) (by first | assumption | exact KS.drew (by assumption)) hb; (first | (have hZ := KZ.below (w := w) (bs := BS) (cs := #[.int .i64 0, .int .i64 0]) (t := 48) (by assumption) hb) | (have hZ := KZ.below (w := w) (bs := BS) (KZ.new (by assumption) #[.int .i64 0, .int .i64 0] 48) hb) | (have hZ := KZ.below (w := w) (bs := BS) (KZ.newD (by assumption) #[.int .i64 0, .int .i64 0] 48) hb) | skip); clear hb) | (go_at_call 25; (with_reducible refine (part_any _ _ _).mono ?_); rintro e wn ⟨rfl, hb⟩; have hSn := KS.below (w := w) (bs := BS) (by first | assumption | exact KS.drew (by assumption)) hb; (first | (have hZ := KZ.below (w := w) (bs := BS) (cs := #[.int .i64 0, .int .i64 0]) (t := 48) (by assumption) hb) | (have hZ := KZ.below (w := w) (bs := BS) (KZ.new (by assumption) #[.int .i64 0, .int .i64 0] 48) hb) | (have hZ := KZ.below (w := w) (bs := BS) (KZ.newD (by assumption) #[.int .i64 0, .int .i64 0] 48) hb) | skip); have hA := AK.below (xs := xs) (by first | assumption | exact AK.drew (by assumption) | exact AK.alloc (by assumption) _ | exact AK.drew (AK.alloc (by assumption) _)) hb; clear hb) | (go_at_call 31; (with_reducible refine (C31.out _ _ _ _ (by first | assumption | exact AK.drew (by assumption) | exact AK.alloc (by assumption) _ | exact AK.drew (AK.alloc (by assumption) _))).mono ?_); rintro e wn ⟨rfl, hb⟩; have hSn := KS.below (w := w) (bs := BS) (by first | assumption | exact KS.drew (by assumption)) hb; (first | (have hZ := KZ.below (w := w) (bs := BS) (cs := #[.int .i64 0, .int .i64 0]) (t := 48) (by assumption) hb) | (have hZ := KZ.below (w := w) (bs := BS) (KZ.new (by assumption) #[.int .i64 0, .int .i64 0] 48) hb) | (have hZ := KZ.below (w := w) (bs := BS) (KZ.newD (by assumption) #[.int .i64 0, .int .i64 0] 48) hb) | skip); clear hb))
    all_goals first | exact ⟨rfl, (_, _), rfl, KS.new (by assumption) _ _⟩ | exact ⟨rfl, (_, _), rfl, KZ.set2 (by assumption)⟩ | exact ⟨rfl, (_, _), rfl, KZ.set2D (by assumption)⟩ | exact ⟨rfl, (_, _), rfl, (KZ.set2 (by assumption)).drew⟩
  rintro ⟨nb, nv⟩ w1 hM
  simp only [Act.put, List.setIfInBounds_toArray, List.set_cons_zero, List.set_cons_succ] at hM ⊢
  have s1 : KS w [(nb, #[.int .i64 0, .int .i64 0], 48), (w.heap.size, #[.int .i64 n, .int .i64 d], 36)] w1 := by have h := hM; rw [HBS.out] at h; exact h
  clear hS hM HBS KZ0 KZ1 KF0 KF1 K0_0 K0_1
  have S1 := Lib.hid s1
  clear s1
  go_wp2
  go_loopw [7, 8] (fun x7 x8 wr => ∃ i : Nat, i ≤ k ∧ x7 = .int .i64 (wa (xs.take i)) ∧ x8 = .int .i64 (i : Int) ∧ KS w [(nb, #[.int .i64 0, .int .i64 0], 48), (w.heap.size, #[.int .i64 n, .int .i64 d], 36)] wr) (fun _ x _ => k - (intOf x).toNat)
  case atStart => exact ⟨0, Nat.zero_le _, rfl, rfl, S1.out⟩
  case round =>
    clear S1
    obtain ⟨i, hi, rfl, rfl, s2⟩ := hrel
    by_cases hlt : i < k
    · obtain ⟨x, hx⟩ : ∃ x, xs[i]? = some x := ⟨xs[i]'(by rw [HN.out]; exact hlt), by simp⟩
      obtain ⟨k0, k1, k2, k3⟩ := HA.out.below s2.bel HL.out i x hx
      have HT := Lib.hid (show xs.take (i + 1) = xs.take i ++ [x] by rw [List.take_add_one, hx]; rfl)
      obtain ⟨L, M, S, F⟩ := x
      simp only [] at k0 k1 k2 k3
      have S2 := Lib.hid s2
      clear hx s2
      have C22 := Lib.hid (fun w => fault_any L M S F w)
      cases hf : areaB L M S F with
      | true =>
        rw [show faultI L M S F = 0 by simp [faultI, hf]] at C22
        have HF := Lib.hid hf
        clear hf
        go_wp2_with (first | (go_at_call 22; (with_reducible refine (C22.out _).mono ?_); rintro e w3 ⟨rfl, h3⟩; have S3 := Lib.hid (S2.out.below h3); clear h3))
        go_roundw
        case rel => exact ⟨i + 1, by omega, by rw [HT.out, wa_snoc (xs.take i) ⟨L, M, S, F⟩ HF.out], by go_num, S3.out⟩
        case measure => simp [intOf]; omega
      | false =>
        rw [show faultI L M S F = 1 by simp [faultI, hf]] at C22
        have HF := Lib.hid hf
        clear hf
        go_wp2_with (first | (go_at_call 22; (with_reducible refine (C22.out _).mono ?_); rintro e w3 ⟨rfl, h3⟩; have S3 := Lib.hid (S2.out.below h3); clear h3))
        go_roundw
        case rel => exact ⟨i + 1, by omega, by rw [HT.out, wa_bad (xs.take i) ⟨L, M, S, F⟩ HF.out], by go_num, S3.out⟩
        case measure => simp [intOf]; omega
    · obtain rfl : i = k := by omega
      have e1 : wa (xs.take i) = 0 := by rw [← HN.out, List.take_length, HWA.out]
      rw [e1]
      clear e1 hlt
      obtain ⟨kb1_0, kb1_1, _⟩ := (s2.blkAt 0 rfl).c2
      obtain ⟨kb0_0, kb0_1, _⟩ := (s2.blkAt 1 rfl).c2
      have S2 := Lib.hid s2
      clear s2
      go_wp2_with fail
      refine (C33.out _).mono ?_
      rintro e w3 ⟨rfl, h3⟩
      clear kb1_0 kb1_1 kb0_0 kb0_1
      have s3 := S2.out.below h3
      obtain ⟨kb1_0, kb1_1, _⟩ := (s3.blkAt 0 rfl).c2
      obtain ⟨kb0_0, kb0_1, _⟩ := (s3.blkAt 1 rfl).c2
      have S3 := Lib.hid s3
      clear h3 s3
      have z4 := KZ.new S3.out #[.int .i64 0, .int .i64 0] 54
      have Z4 := Lib.hid z4
      clear z4
      go_wp2
      clear kb1_0 kb1_1 kb0_0 kb0_1
      generalize w3.heap.size = zb at *
      go_loopw [7, 10] (fun x7 x10 wr2 => x7 = .int .i64 3 ∧ x10 = .int .i64 0 ∧ KZ w [(nb, #[.int .i64 0, .int .i64 0], 48), (w.heap.size, #[.int .i64 n, .int .i64 d], 36)] zb #[.int .i64 0, .int .i64 0] 54 wr2) (fun _ _ _ => 0)
      case atStart => exact ⟨rfl, rfl, Z4.out⟩
      case round =>
        clear Z4
        obtain ⟨rfl, rfl, z5⟩ := hrel
        have c0 := z5.c0
        have c1 := z5.c1
        have f0 := z5.f 0
        have f1 := z5.f 1
        have Z5 := Lib.hid z5
        clear z5
        go_wp2_with fail
        have s6 := Z5.out.set2 (x' := .int .i64 0) (y' := .int .i64 0)
        have S6 := Lib.hid s6
        clear s6 c0 c1 f0 f1
        obtain ⟨BS, hBS⟩ : ∃ BS : List (Nat × Array Value × TypeId), BS = [(zb, #[.int .i64 0, .int .i64 0], 54), (nb, #[.int .i64 0, .int .i64 0], 48), (w.heap.size, #[.int .i64 n, .int .i64 d], 36)] := ⟨_, rfl⟩
        have hS := S6.out; rw [← hBS] at hS
        have K0_0 : ∀ W, KS w BS W → W.cell? ⟨zb, 0, none⟩ = some (.int .i64 0) := fun W h => by rw [hBS] at h; exact (h.blkAt 0 rfl).cell 0
        have K0_1 : ∀ W, KS w BS W → W.cell? ⟨zb, 1, none⟩ = some (.int .i64 0) := fun W h => by rw [hBS] at h; exact (h.blkAt 0 rfl).cell 1
        have K1_0 : ∀ W, KS w BS W → W.cell? ⟨nb, 0, none⟩ = some (.int .i64 0) := fun W h => by rw [hBS] at h; exact (h.blkAt 1 rfl).cell 0
        have K1_1 : ∀ W, KS w BS W → W.cell? ⟨nb, 1, none⟩ = some (.int .i64 0) := fun W h => by rw [hBS] at h; exact (h.blkAt 1 rfl).cell 1
        have K2_0 : ∀ W, KS w BS W → W.cell? ⟨w.heap.size, 0, none⟩ = some (.int .i64 n) := fun W h => by rw [hBS] at h; exact (h.blkAt 2 rfl).cell 0
        have K2_1 : ∀ W, KS w BS W → W.cell? ⟨w.heap.size, 1, none⟩ = some (.int .i64 d) := fun W h => by rw [hBS] at h; exact (h.blkAt 2 rfl).cell 1
        have HBS := Lib.hid hBS
        clear hBS
        go_region_held3 (KS w BS)
          (first | assumption | exact KS.drew (by assumption) | exact KS.alloc (by assumption) _ | exact KS.drew (KS.alloc (by assumption) _) | exact KS.alloc (KS.drew (by assumption)) _ | go_keep)
          (first | (go_at_call 35; (with_reducible refine (to_any _ _ _).mono ?_); rintro e wn ⟨rfl, hb⟩; have hSn := KS.below (by first | assumption | exact KS.drew (by assumption)) hb; clear hb))
        all_goals
          have sE := KS.sub (w := w) (bs := BS) (bs' := [(w.heap.size, #[.int .i64 n, .int .i64 d], 36)]) (by first | assumption | exact KS.drew (by assumption)) (fun x h => by rw [HBS.out]; simp at h; subst h; simp)
          have SE := Lib.hid sE
          clear sE
          go_wp2_with fail
          exact tot_rest g o cap _ L M S F n d w _ _ _ _ _ _ _ _ _ _ _ _ _ _ _ _ _ _ _ _ _ _ _ _ _ _ _ _ _ _ _ _ _ _ _ _ _ _ _ _ _ _ _ _ _ _ _ _ _ _ _ _ _ _ _ _ _ _ _ _ _ _ _ _ _ _ _ _ _ _ _ _ _ _ _ _ _ _ _ _ _ _ _ _ _ _ _ _ _ _ _ _ _ _ _ _ _ (by assumption) HK0.out HL.out HX0.out SE.out

end Go.Proofs.Ytkfobnhnehbkeaa
