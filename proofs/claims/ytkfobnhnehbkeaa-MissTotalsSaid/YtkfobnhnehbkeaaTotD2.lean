/- MissTotals: the path on which the ranges are summed. -/
import Derived.Test.YtkfobnhnehbkeaaTotQ
namespace Go.Proofs.Ytkfobnhnehbkeaa
open Go.RowKit Go.Shelf

theorem totS_none_of2 {n d : Nat} {xs : List A4} {i : Nat} (h : totS n d (xs.take i) = none) : totS n d xs = none := by
  have e : xs = xs.take i ++ xs.drop i := (List.take_append_drop i xs).symm
  rw [e]
  unfold totS at h ⊢
  rw [List.foldl_append, h, foldl_none]

set_option maxRecDepth 100000 in
set_option maxHeartbeats 8000000 in
theorem tot_DN (L M S F : Int) (g o cap k : Nat) (xs : List A4) (n d : Nat) (w : World) (hN : xs.length = k) (hx0 : xs[0]? = some ⟨L, M, S, F⟩) (hb : g < w.heap.size) (hk9 : k ≤ 9) (hk6 : k ≤ 6) (ha : AreasAt w g o xs) (hall : xs.all A4.ok = true) (hl : levB n d = true) (ht : totS n d xs = none) :
    Calls Try.prog 5 #[.slice (some ⟨g, o, none⟩) k cap, fracV n d] w fun e w' => e = .returned (.bool true) ∧ Below w.heap.size w w' := by
  have hr : totRes xs n d = (0, 0, 9) := by
    rw [totRes, if_neg (by omega), if_neg (by rw [hall]; simp), if_neg (by rw [hl]; simp)]
    rw [show (n : Int).toNat = n from rfl, show (d : Int).toNat = d from rfl, ht]
  have C32 := Lib.hid (Areas_ak (some ⟨g, o, none⟩) g o cap k xs w hN (fun _ => rfl) (fun _ => hb) (by omega) ha)
  have C31 := Lib.hid (fun (W : World) (a : Option Addr) (g' c : Nat) (h : AK W a g' xs) => Total_ak h k c hN n d hr)
  have hwa : wa xs = 0 := by simp [wa, hall]
  have HWA := Lib.hid hwa
  have HN := Lib.hid hN
  have HA := Lib.hid ha
  have HX0 := Lib.hid (show AreasAt w g o [⟨L, M, S, F⟩] from fun i a e => by
    match i, e with
    | 0, e => simp at e; subst e; exact ha 0 _ hx0)
  have hk0 : 0 < k := by rw [← hN]; exact (List.getElem?_eq_some_iff.1 hx0).1
  have HK0 := Lib.hid hk0
  have t0 : decide ((0 : Int) < (k : Int)) = true := by simp; omega
  have te : ((k : Int) == 0) = false := by simp; omega
  have HL := Lib.hid hb
  clear hx0 hb hk0
  have HLL := Lib.hid hall
  have t9 : decide ((9 : Int) < (k : Int)) = false := by simp; omega
  have t6 : decide ((6 : Int) < (k : Int)) = false := by simp; omega
  have C33 := Lib.hid (fun w => rIsLevel_any n d w)
  rw [hl] at C33
  have C34 := Lib.hid (fun (l M s f : Nat) (h : okA l M s f) w => rMissed_any h n d (lev_of hl).1 (lev_of hl).2.1 (lev_of hl).2.2 w)
  have HTS := Lib.hid ht
  clear hl ht
  clear hr hwa ha hall hN
  have s0 := (KS.start w).new #[.int .i64 n, .int .i64 d] 36
  obtain ⟨kb0_0, kb0_1, _⟩ := (s0.blkAt 0 rfl).c2
  have S0 := Lib.hid s0
  clear s0
  go_enter Try.func5, Try.ntmps5
  go_wp2_with fail
  generalize (w.alloc (.cells #[.int .i64 n, .int .i64 d] 36)) = V1 at *
  obtain ⟨BS, hBS⟩ : ∃ BS : List (Nat × Array Value × TypeId), BS = [(w.heap.size, #[.int .i64 n, .int .i64 d], 36)] := ⟨_, rfl⟩
  have hS : KS w BS V1 := by rw [hBS]; exact S0.out
  have K0_0 : ∀ W, KS w BS W → W.cell? ⟨w.heap.size, 0, none⟩ = some (.int .i64 n) := fun W h => by rw [hBS] at h; exact (h.blkAt 0 rfl).cell 0
  have K0_1 : ∀ W, KS w BS W → W.cell? ⟨w.heap.size, 1, none⟩ = some (.int .i64 d) := fun W h => by rw [hBS] at h; exact (h.blkAt 0 rfl).cell 1
  have KZ0 : ∀ W b, KZ w BS b #[.int .i64 0, .int .i64 0] 48 W → W.cell? ⟨b, 0, none⟩ = some (.int .i64 0) := fun W b h => h.c0
  have KF0 : ∀ W b, KZ w BS b #[.int .i64 0, .int .i64 0] 48 W → W.frozen? ⟨b, 0, none⟩ = false := fun W b h => h.f 0
  have KZ1 : ∀ W b, KZ w BS b #[.int .i64 0, .int .i64 0] 48 W → W.cell? ⟨b, 1, none⟩ = some (.int .i64 0) := fun W b h => h.c1
  have KF1 : ∀ W b, KZ w BS b #[.int .i64 0, .int .i64 0] 48 W → W.frozen? ⟨b, 1, none⟩ = false := fun W b h => h.f 1
  have HBS := Lib.hid hBS
  clear hBS kb0_0 kb0_1
  refine wp_joinG (ι := Nat × Value) (f := fun a b => ((((((((((a.put (some 22) (.slice (some ⟨g, o, none⟩) k cap)).put (some 23) (b.2)).put (some 24) (.agg #[.int .i64 n, .int .i64 d])).put (some 25) (.agg #[.int .i64 n, .int .i64 d])).put (some 26) (.tuple #[.agg #[.int .i64 0, .int .i64 0], .int .i64 9])).put (some 21) (.tuple #[.agg #[.int .i64 0, .int .i64 0], .int .i64 9])).put (some 27) (.agg #[.int .i64 0, .int .i64 0])).put (some 28) (.int .i64 9)).put (some 6) (.int .i64 9)).put (some 5) (.pointer (some ⟨b.1, 0, none⟩)))) (mid := fun b W' => KS w ((b.1, #[.int .i64 0, .int .i64 0], 48) :: BS) W') ?_ ?_
  · go_region_held3 (KS w BS)
      (first | assumption | exact KS.drew (by assumption) | exact KS.alloc (by assumption) _ | exact KS.drew (KS.alloc (by assumption) _) | exact KS.alloc (KS.drew (by assumption)) _ | exact KZ.ks (by assumption) | exact (KZ.new (by assumption) _ _).ks | exact KZ.keep2 (by assumption) | exact (KZ.keep2 (by assumption)).drew | exact (KZ.drew (by assumption)).keep2 | go_keep)
      (first | (go_at_call 32; (with_reducible refine (C32.out _ (KS.bel (w := w) (bs := BS) (by first | assumption | exact KS.drew (by assumption) | exact KS.alloc (by assumption) _))).mono ?_); rintro e wn ⟨a, g', c, rfl, hA, hb⟩; have hSn := KS.below (w := w) (bs := BS) (by first | assumption | exact KS.drew (by assumption)) hb; (first | (have hZ := KZ.below (w := w) (bs := BS) (cs := #[.int .i64 0, .int .i64 0]) (t := 48) (by assumption) hb) | (have hZ := KZ.below (w := w) (bs := BS) (KZ.new (by assumption) #[.int .i64 0, .int .i64 0] 48) hb) | (have hZ := KZ.below (w := w) (bs := BS) (KZ.newD (by assumption) #[.int .i64 0, .int .i64 0] 48) hb) | skip); clear hb) | (go_at_call 25; (with_reducible refine (part_any _ _ _).mono ?_); rintro e wn ⟨rfl, hb⟩; have hSn := KS.below (w := w) (bs := BS) (by first | assumption | exact KS.drew (by assumption)) hb; (first | (have hZ := KZ.below (w := w) (bs := BS) (cs := #[.int .i64 0, .int .i64 0]) (t := 48) (by assumption) hb) | (have hZ := KZ.below (w := w) (bs := BS) (KZ.new (by assumption) #[.int .i64 0, .int .i64 0] 48) hb) | (have hZ := KZ.below (w := w) (bs := BS) (KZ.newD (by assumption) #[.int .i64 0, .int .i64 0] 48) hb) | skip); have hA := AK.below (xs := xs) (by first | assumption | exact AK.drew (by assumption) | exact AK.alloc (by assumption) _ | exact AK.drew (AK.alloc (by assumption) _)) hb; clear hb) | (go_at_call 31; (with_reducible refine (C31.out _ _ _ _ (by first | assumption | exact AK.drew (by assumption) | exact AK.alloc (by assumption) _ | exact AK.drew (AK.alloc (by assumption) _))).mono ?_); rintro e wn ⟨rfl, hb⟩; have hSn := KS.below (w := w) (bs := BS) (by first | assumption | exact KS.drew (by assumption)) hb; (first | (have hZ := KZ.below (w := w) (bs := BS) (cs := #[.int .i64 0, .int .i64 0]) (t := 48) (by assumption) hb) | (have hZ := KZ.below (w := w) (bs := BS) (KZ.new (by assumption) #[.int .i64 0, .int .i64 0] 48) hb) | (have hZ := KZ.below (w := w) (bs := BS) (KZ.newD (by assumption) #[.int .i64 0, .int .i64 0] 48) hb) | skip); clear hb))
    all_goals first | exact ⟨rfl, (_, _), rfl, KS.new (by assumption) _ _⟩ | exact ⟨rfl, (_, _), rfl, KZ.set2 (by assumption)⟩ | exact ⟨rfl, (_, _), rfl, KZ.set2D (by assumption)⟩ | exact ⟨rfl, (_, _), rfl, (KZ.set2 (by assumption)).drew⟩
  rintro ⟨nb, nv⟩ w1 hM
  simp only [Act.put, List.setIfInBounds_toArray, List.set_cons_zero, List.set_cons_succ] at hM ⊢
  have s1 : KS w [(nb, #[.int .i64 0, .int .i64 0], 48), (w.heap.size, #[.int .i64 n, .int .i64 d], 36)] w1 := by have h := hM; rw [HBS.out] at h; exact h
  clear hS hM HBS KZ0 KZ1 KF0 KF1 K0_0 K0_1
  have S1 := Lib.hid s1
  clear s1
  go_wp2
  go_loopw [7, 8] (fun x7 x8 wr => ∃ i : Nat, i ≤ k ∧ x7 = .int .i64 (wa (xs.take i)) ∧ x8 = .int .i64 (i : Int) ∧ KS w [(nb, #[.int .i64 0, .int .i64 0], 48), (w.heap.size, #[.int .i64 n, .int .i64 d], 36)] wr) (fun _ x _ => k - (intOf x).toNat)
  case atStart => exact ⟨0, Nat.zero_le _, rfl, rfl, S1.out⟩
  case round =>
    clear S1
    obtain ⟨i, hi, rfl, rfl, s2⟩ := hrel
    by_cases hlt : i < k
    · obtain ⟨x, hx⟩ : ∃ x, xs[i]? = some x := ⟨xs[i]'(by rw [HN.out]; exact hlt), by simp⟩
      obtain ⟨k0, k1, k2, k3⟩ := HA.out.below s2.bel HL.out i x hx
      have HT := Lib.hid (show xs.take (i + 1) = xs.take i ++ [x] by rw [List.take_add_one, hx]; rfl)
      obtain ⟨L, M, S, F⟩ := x
      simp only [] at k0 k1 k2 k3
      have S2 := Lib.hid s2
      clear hx s2
      have C22 := Lib.hid (fun w => fault_any L M S F w)
      cases hf : areaB L M S F with
      | true =>
        rw [show faultI L M S F = 0 by simp [faultI, hf]] at C22
        have HF := Lib.hid hf
        clear hf
        go_wp2_with (first | (go_at_call 22; (with_reducible refine (C22.out _).mono ?_); rintro e w3 ⟨rfl, h3⟩; have S3 := Lib.hid (S2.out.below h3); clear h3))
        go_roundw
        case rel => exact ⟨i + 1, by omega, by rw [HT.out, wa_snoc (xs.take i) ⟨L, M, S, F⟩ HF.out], by go_num, S3.out⟩
        case measure => simp [intOf]; omega
      | false =>
        rw [show faultI L M S F = 1 by simp [faultI, hf]] at C22
        have HF := Lib.hid hf
        clear hf
        go_wp2_with (first | (go_at_call 22; (with_reducible refine (C22.out _).mono ?_); rintro e w3 ⟨rfl, h3⟩; have S3 := Lib.hid (S2.out.below h3); clear h3))
        go_roundw
        case rel => exact ⟨i + 1, by omega, by rw [HT.out, wa_bad (xs.take i) ⟨L, M, S, F⟩ HF.out], by go_num, S3.out⟩
        case measure => simp [intOf]; omega
    · obtain rfl : k = i := by omega
      have e1 : wa (xs.take k) = 0 := by rw [← HN.out, List.take_length, HWA.out]
      rw [e1]
      clear e1 hlt
      obtain ⟨kb1_0, kb1_1, _⟩ := (s2.blkAt 0 rfl).c2
      obtain ⟨kb0_0, kb0_1, _⟩ := (s2.blkAt 1 rfl).c2
      have S2 := Lib.hid s2
      clear s2
      go_wp2_with fail
      refine (C33.out _).mono ?_
      rintro e w3 ⟨rfl, h3⟩
      clear kb1_0 kb1_1 kb0_0 kb0_1
      have s3 := S2.out.below h3
      obtain ⟨kb1_0, kb1_1, _⟩ := (s3.blkAt 0 rfl).c2
      obtain ⟨kb0_0, kb0_1, _⟩ := (s3.blkAt 1 rfl).c2
      have S3 := Lib.hid s3
      clear h3 s3
      have z4 := KZ.new S3.out #[.int .i64 0, .int .i64 0] 54
      have Z4 := Lib.hid z4
      clear z4
      go_wp2
      clear kb1_0 kb1_1 kb0_0 kb0_1
      generalize w3.heap.size = zb at *
      have z4 := Z4.out
      clear Z4
      have hsep := Lib.hid z4.2.2.1
      have hsz := Lib.hid z4.2.2.2
      have Z4 := Lib.hid z4.all
      clear z4
      go_loopw [7, 10] (fun x7 x10 wr2 => ∃ i : Nat, i ≤ k ∧ x10 = .int .i64 (i : Int) ∧ ((∃ p q : Nat, totS n d (xs.take i) = some (p, q) ∧ x7 = .int .i64 0 ∧ KS w [(zb, #[.int .i64 p, .int .i64 q], 54), (nb, #[.int .i64 0, .int .i64 0], 48), (w.heap.size, #[.int .i64 n, .int .i64 d], 36)] wr2) ∨ (totS n d (xs.take i) = none ∧ x7 = .int .i64 9 ∧ ∃ p q : Int, KS w [(zb, #[.int .i64 p, .int .i64 q], 54), (nb, #[.int .i64 0, .int .i64 0], 48), (w.heap.size, #[.int .i64 n, .int .i64 d], 36)] wr2))) (fun _ x _ => k - (intOf x).toNat)
      case atStart => exact ⟨0, Nat.zero_le _, rfl, .inl ⟨0, 0, rfl, rfl, Z4.out⟩⟩
      case round =>
        clear Z4
        obtain ⟨j, hj, rfl, h5⟩ := hrel
        rcases h5 with ⟨p, q, hpq, rfl, s5⟩ | ⟨hno, rfl, p, q, s5⟩
        · by_cases hlt : j < k
          · obtain ⟨x, hx⟩ : ∃ x, xs[j]? = some x := ⟨xs[j]'(by rw [HN.out]; exact hlt), by simp⟩
            have hok := List.all_eq_true.1 HLL.out x (List.mem_of_getElem? hx)
            have hstep := totS_take (n := n) (d := d) hx
            have hle := totS_le (xs.take j) (0, 0) (p, q) (fun a ha => List.all_eq_true.1 HLL.out a (List.mem_of_mem_take ha)) hpq
            have hlen : (xs.take j).length ≤ 6 := Nat.le_trans (List.length_take_le ..) (by omega)
            have hrl := fun r (h : rangeA n d x = some r) => range_le h hok
            rw [hpq] at hstep
            have HX1 := Lib.hid hx
            obtain ⟨k0, k1, k2, k3⟩ := HA.out j x hx
            obtain ⟨xL, xM, xS, xF⟩ := x
            obtain ⟨l, m, s, f, e0, e1, e2, e3, hok2⟩ := okA.of hok
            simp only [] at e0 e1 e2 e3
            subst e0 e1 e2 e3
            simp only [] at k0 k1 k2 k3
            have CC := Lib.hid (C34.out l m s f hok2)
            have hR : rangeA n d ⟨(l : Int), m, s, f⟩ = rangeOf l m s f n d := rfl
            unfold totStep at hstep
            rw [hR] at hstep hrl
            generalize rangeOf l m s f n d = r at *
            obtain ⟨h1, h2⟩ := hle
            have HS := Lib.hid hstep
            have HR := Lib.hid hrl
            have s6 := Lib.hid s5
            clear hpq hx hok hstep hrl hok2 hR s5
            cases r with
            | none =>
              have a0 : IntKind.i64.wrap ((p : Int) + 99) = (p : Int) + 99 := by rw [IntWalk.i64_in _ (by simp only [] at h1 h2; omega)]
              have a1 : IntKind.i64.wrap ((q : Int) + -1) = (q : Int) + -1 := by rw [IntWalk.i64_in _ (by simp only [] at h1 h2; omega)]
              go_wp2_with fail
              have S6 := s6
              obtain ⟨BS, hBS⟩ : ∃ BS : List (Nat × Array Value × TypeId), BS = [(zb, #[.int .i64 p, .int .i64 q], 54), (nb, #[.int .i64 0, .int .i64 0], 48), (w.heap.size, #[.int .i64 n, .int .i64 d], 36)] := ⟨_, rfl⟩
              have hS : KS w BS wr := by rw [hBS]; exact S6.out
              have K2_0 : ∀ W, KS w BS W → W.cell? ⟨w.heap.size, 0, none⟩ = some (.int .i64 n) := fun W h => by rw [hBS] at h; exact (h.blkAt 2 rfl).cell 0
              have K2_1 : ∀ W, KS w BS W → W.cell? ⟨w.heap.size, 1, none⟩ = some (.int .i64 d) := fun W h => by rw [hBS] at h; exact (h.blkAt 2 rfl).cell 1
              have KZ0 : ∀ W b, KZ w BS b #[.int .i64 0, .int .i64 0] 54 W → W.cell? ⟨b, 0, none⟩ = some (.int .i64 0) := fun W b h => h.c0
              have KZ1 : ∀ W b, KZ w BS b #[.int .i64 0, .int .i64 0] 54 W → W.cell? ⟨b, 1, none⟩ = some (.int .i64 0) := fun W b h => h.c1
              have KF0 : ∀ W b, KZ w BS b #[.int .i64 0, .int .i64 0] 54 W → W.frozen? ⟨b, 0, none⟩ = false := fun W b h => h.f 0
              have KF1 : ∀ W b, KZ w BS b #[.int .i64 0, .int .i64 0] 54 W → W.frozen? ⟨b, 1, none⟩ = false := fun W b h => h.f 1
              have Y0 : ∀ W, KS w BS W → W.cell? ⟨g, o + j * 4, none⟩ = some (.int .i64 l) := fun W h => (h.bel.cell (p := ⟨g, _, none⟩) HL.out).trans k0
              have Y1 : ∀ W, KS w BS W → W.cell? ⟨g, o + j * 4 + 1, none⟩ = some (.int .i64 m) := fun W h => (h.bel.cell (p := ⟨g, _, none⟩) HL.out).trans k1
              have Y2 : ∀ W, KS w BS W → W.cell? ⟨g, o + j * 4 + 2, none⟩ = some (.int .i64 s) := fun W h => (h.bel.cell (p := ⟨g, _, none⟩) HL.out).trans k2
              have Y3 : ∀ W, KS w BS W → W.cell? ⟨g, o + j * 4 + 3, none⟩ = some (.int .i64 f) := fun W h => (h.bel.cell (p := ⟨g, _, none⟩) HL.out).trans k3
              have HBS := Lib.hid hBS
              clear hBS 
              refine wp_join (f := fun a b => (((((((((((a.put (some 62) (.slice (some ⟨g, o, none⟩) k cap)).put (some 63) (.int .i64 j)).put (some 64) (.pointer (some ⟨g, o + j * 4, none⟩))).put (some 65) (.agg #[.int .i64 l, .int .i64 m, .int .i64 s, .int .i64 f])).put (some 66) (.agg #[.int .i64 n, .int .i64 d])).put (some 67) (.tuple #[.agg #[.int .i64 99, .int .i64 (-1)], .bool false])).put (some 61) (.tuple #[.agg #[.int .i64 99, .int .i64 (-1)], .bool false])).put (some 68) (.agg #[.int .i64 99, .int .i64 (-1)])).put (some 69) (.bool false)).put (some 12) (.bool false)).put (some 11) (.pointer (some ⟨b, 0, none⟩)))) (mid := fun b W' => KS w ((b, #[.int .i64 99, .int .i64 (-1)], 54) :: BS) W') ?_ ?_
              · go_region_held3 (KS w BS)
                  (first | assumption | exact KS.drew (by assumption) | exact KS.alloc (by assumption) _ | exact KS.drew (KS.alloc (by assumption) _) | exact KS.alloc (KS.drew (by assumption)) _ | exact KZ.ks (by assumption) | exact (KZ.new (by assumption) _ _).ks | exact KZ.keep2 (by assumption) | exact (KZ.keep2 (by assumption)).drew | exact (KZ.drew (by assumption)).keep2 | go_keep)
                  (first | (go_at_call 34; (with_reducible refine (CC.out _).mono ?_); rintro e wn ⟨rfl, hb⟩; have hSn := KS.below (w := w) (bs := BS) (by first | assumption | exact KS.drew (by assumption)) hb; (first | (have hZ := KZ.below (w := w) (bs := BS) (cs := #[.int .i64 0, .int .i64 0]) (t := 54) (by assumption) hb) | (have hZ := KZ.below (w := w) (bs := BS) (KZ.new (by assumption) #[.int .i64 0, .int .i64 0] 54) hb) | (have hZ := KZ.below (w := w) (bs := BS) (KZ.newD (by assumption) #[.int .i64 0, .int .i64 0] 54) hb) | skip); clear hb))
                all_goals first | exact ⟨rfl, _, rfl, KS.new (by assumption) _ _⟩ | exact ⟨rfl, _, rfl, KZ.set2 (by assumption)⟩ | exact ⟨rfl, _, rfl, KZ.set2D (by assumption)⟩ | exact ⟨rfl, _, rfl, (KZ.set2 (by assumption)).drew⟩
              intro nb7 w7 hM
              simp only [Act.put, List.setIfInBounds_toArray, List.set_cons_zero, List.set_cons_succ]
              have s7 : KS w [(nb7, #[.int .i64 99, .int .i64 (-1)], 54), (zb, #[.int .i64 p, .int .i64 q], 54), (nb, #[.int .i64 0, .int .i64 0], 48), (w.heap.size, #[.int .i64 n, .int .i64 d], 36)] w7 := by have h := hM; rw [HBS.out] at h; exact h
              clear hS hM HBS KZ0 KZ1 KF0 KF1 K2_0 K2_1 Y0 Y1 Y2 Y3
              obtain ⟨kb3_0, kb3_1, _⟩ := (s7.blkAt 0 rfl).c2
              obtain ⟨kb2_0, kb2_1, _⟩ := (s7.blkAt 1 rfl).c2
              obtain ⟨kb1_0, kb1_1, _⟩ := (s7.blkAt 2 rfl).c2
              obtain ⟨kb0_0, kb0_1, _⟩ := (s7.blkAt 3 rfl).c2
              have S7 := Lib.hid s7
              clear s7
              have z8 : KZ w [(nb, #[.int .i64 0, .int .i64 0], 48), (w.heap.size, #[.int .i64 n, .int .i64 d], 36)] zb #[.int .i64 p, .int .i64 q] 54 w7 := ⟨S7.out.sub (fun x h => by simp at h ⊢; exact .inr (.inr h)), S7.out.blkAt 1 rfl, hsep.out, hsz.out⟩
              have c0 := z8.c0
              have c1 := z8.c1
              have f0 := z8.f 0
              have f1 := z8.f 1
              have Z8 := Lib.hid z8
              clear z8
              go_wp2_with fail
              go_roundw
              case rel => exact ⟨j + 1, by omega, by go_num, .inr ⟨HS.out, rfl, _, _, Z8.out.set2⟩⟩
              case measure => simp [intOf]; omega
            | some v =>
              obtain ⟨v1, v2⟩ := v
              have hv := HR.out _ rfl
              have hv1 : v1 ≤ 50 := hv.1
              have hv2 : v2 ≤ 50 := hv.2
              have a0 : IntKind.i64.wrap ((p : Int) + v1) = ((p + v1 : Nat) : Int) := by rw [IntWalk.i64_in _ (by simp only [] at h1 h2; omega)]; omega
              have a1 : IntKind.i64.wrap ((q : Int) + v2) = ((q + v2 : Nat) : Int) := by rw [IntWalk.i64_in _ (by simp only [] at h1 h2; omega)]; omega
              clear hv
              go_wp2_with fail
              have S6 := s6
              obtain ⟨BS, hBS⟩ : ∃ BS : List (Nat × Array Value × TypeId), BS = [(zb, #[.int .i64 p, .int .i64 q], 54), (nb, #[.int .i64 0, .int .i64 0], 48), (w.heap.size, #[.int .i64 n, .int .i64 d], 36)] := ⟨_, rfl⟩
              have hS : KS w BS wr := by rw [hBS]; exact S6.out
              have K2_0 : ∀ W, KS w BS W → W.cell? ⟨w.heap.size, 0, none⟩ = some (.int .i64 n) := fun W h => by rw [hBS] at h; exact (h.blkAt 2 rfl).cell 0
              have K2_1 : ∀ W, KS w BS W → W.cell? ⟨w.heap.size, 1, none⟩ = some (.int .i64 d) := fun W h => by rw [hBS] at h; exact (h.blkAt 2 rfl).cell 1
              have KZ0 : ∀ W b, KZ w BS b #[.int .i64 0, .int .i64 0] 54 W → W.cell? ⟨b, 0, none⟩ = some (.int .i64 0) := fun W b h => h.c0
              have KZ1 : ∀ W b, KZ w BS b #[.int .i64 0, .int .i64 0] 54 W → W.cell? ⟨b, 1, none⟩ = some (.int .i64 0) := fun W b h => h.c1
              have KF0 : ∀ W b, KZ w BS b #[.int .i64 0, .int .i64 0] 54 W → W.frozen? ⟨b, 0, none⟩ = false := fun W b h => h.f 0
              have KF1 : ∀ W b, KZ w BS b #[.int .i64 0, .int .i64 0] 54 W → W.frozen? ⟨b, 1, none⟩ = false := fun W b h => h.f 1
              have Y0 : ∀ W, KS w BS W → W.cell? ⟨g, o + j * 4, none⟩ = some (.int .i64 l) := fun W h => (h.bel.cell (p := ⟨g, _, none⟩) HL.out).trans k0
              have Y1 : ∀ W, KS w BS W → W.cell? ⟨g, o + j * 4 + 1, none⟩ = some (.int .i64 m) := fun W h => (h.bel.cell (p := ⟨g, _, none⟩) HL.out).trans k1
              have Y2 : ∀ W, KS w BS W → W.cell? ⟨g, o + j * 4 + 2, none⟩ = some (.int .i64 s) := fun W h => (h.bel.cell (p := ⟨g, _, none⟩) HL.out).trans k2
              have Y3 : ∀ W, KS w BS W → W.cell? ⟨g, o + j * 4 + 3, none⟩ = some (.int .i64 f) := fun W h => (h.bel.cell (p := ⟨g, _, none⟩) HL.out).trans k3
              have HBS := Lib.hid hBS
              clear hBS 
              refine wp_join (f := fun a b => (((((((((((a.put (some 62) (.slice (some ⟨g, o, none⟩) k cap)).put (some 63) (.int .i64 j)).put (some 64) (.pointer (some ⟨g, o + j * 4, none⟩))).put (some 65) (.agg #[.int .i64 l, .int .i64 m, .int .i64 s, .int .i64 f])).put (some 66) (.agg #[.int .i64 n, .int .i64 d])).put (some 67) (.tuple #[.agg #[.int .i64 v1, .int .i64 v2], .bool true])).put (some 61) (.tuple #[.agg #[.int .i64 v1, .int .i64 v2], .bool true])).put (some 68) (.agg #[.int .i64 v1, .int .i64 v2])).put (some 69) (.bool true)).put (some 12) (.bool true)).put (some 11) (.pointer (some ⟨b, 0, none⟩)))) (mid := fun b W' => KS w ((b, #[.int .i64 v1, .int .i64 v2], 54) :: BS) W') ?_ ?_
              · go_region_held3 (KS w BS)
                  (first | assumption | exact KS.drew (by assumption) | exact KS.alloc (by assumption) _ | exact KS.drew (KS.alloc (by assumption) _) | exact KS.alloc (KS.drew (by assumption)) _ | exact KZ.ks (by assumption) | exact (KZ.new (by assumption) _ _).ks | exact KZ.keep2 (by assumption) | exact (KZ.keep2 (by assumption)).drew | exact (KZ.drew (by assumption)).keep2 | go_keep)
                  (first | (go_at_call 34; (with_reducible refine (CC.out _).mono ?_); rintro e wn ⟨rfl, hb⟩; have hSn := KS.below (w := w) (bs := BS) (by first | assumption | exact KS.drew (by assumption)) hb; (first | (have hZ := KZ.below (w := w) (bs := BS) (cs := #[.int .i64 0, .int .i64 0]) (t := 54) (by assumption) hb) | (have hZ := KZ.below (w := w) (bs := BS) (KZ.new (by assumption) #[.int .i64 0, .int .i64 0] 54) hb) | (have hZ := KZ.below (w := w) (bs := BS) (KZ.newD (by assumption) #[.int .i64 0, .int .i64 0] 54) hb) | skip); clear hb))
                all_goals first | exact ⟨rfl, _, rfl, KS.new (by assumption) _ _⟩ | exact ⟨rfl, _, rfl, KZ.set2 (by assumption)⟩ | exact ⟨rfl, _, rfl, KZ.set2D (by assumption)⟩ | exact ⟨rfl, _, rfl, (KZ.set2 (by assumption)).drew⟩
              intro nb7 w7 hM
              simp only [Act.put, List.setIfInBounds_toArray, List.set_cons_zero, List.set_cons_succ]
              have s7 : KS w [(nb7, #[.int .i64 v1, .int .i64 v2], 54), (zb, #[.int .i64 p, .int .i64 q], 54), (nb, #[.int .i64 0, .int .i64 0], 48), (w.heap.size, #[.int .i64 n, .int .i64 d], 36)] w7 := by have h := hM; rw [HBS.out] at h; exact h
              clear hS hM HBS KZ0 KZ1 KF0 KF1 K2_0 K2_1 Y0 Y1 Y2 Y3
              obtain ⟨kb3_0, kb3_1, _⟩ := (s7.blkAt 0 rfl).c2
              obtain ⟨kb2_0, kb2_1, _⟩ := (s7.blkAt 1 rfl).c2
              obtain ⟨kb1_0, kb1_1, _⟩ := (s7.blkAt 2 rfl).c2
              obtain ⟨kb0_0, kb0_1, _⟩ := (s7.blkAt 3 rfl).c2
              have S7 := Lib.hid s7
              clear s7
              have z8 : KZ w [(nb, #[.int .i64 0, .int .i64 0], 48), (w.heap.size, #[.int .i64 n, .int .i64 d], 36)] zb #[.int .i64 p, .int .i64 q] 54 w7 := ⟨S7.out.sub (fun x h => by simp at h ⊢; exact .inr (.inr h)), S7.out.blkAt 1 rfl, hsep.out, hsz.out⟩
              have c0 := z8.c0
              have c1 := z8.c1
              have f0 := z8.f 0
              have f1 := z8.f 1
              have Z8 := Lib.hid z8
              clear z8
              go_wp2_with fail
              go_roundw
              case rel => exact ⟨j + 1, by omega, by go_num, .inl ⟨p + v1, q + v2, HS.out, rfl, Z8.out.set2⟩⟩
              case measure => simp [intOf]; omega
          · obtain rfl : k = j := by omega
            have e9 : totS n d xs = some (p, q) := by rw [← HN.out, List.take_length] at hpq; exact hpq
            exact absurd (HTS.out.symm.trans e9) (by simp)
        · clear hno
          by_cases hlt : j < k
          · skip
            have z5 : KZ w [(nb, #[.int .i64 0, .int .i64 0], 48), (w.heap.size, #[.int .i64 n, .int .i64 d], 36)] zb #[.int .i64 p, .int .i64 q] 54 wr := ⟨s5.sub (fun x h => by simp at h ⊢; exact .inr h), s5.blkAt 0 rfl, hsep.out, hsz.out⟩
            have c0 := z5.c0
            have c1 := z5.c1
            have f0 := z5.f 0
            have f1 := z5.f 1
            have Z5 := Lib.hid z5
            clear z5 s5
            go_wp2_with fail
            have S6 := Lib.hid (Z5.out.set2 (x' := .int .i64 0) (y' := .int .i64 0))
            clear c0 c1 f0 f1
            obtain ⟨BS, hBS⟩ : ∃ BS : List (Nat × Array Value × TypeId), BS = [(zb, #[.int .i64 0, .int .i64 0], 54), (nb, #[.int .i64 0, .int .i64 0], 48), (w.heap.size, #[.int .i64 n, .int .i64 d], 36)] := ⟨_, rfl⟩
            have hS := S6.out; rw [← hBS] at hS
            have K0_0 : ∀ W, KS w BS W → W.cell? ⟨zb, 0, none⟩ = some (.int .i64 0) := fun W h => by rw [hBS] at h; exact (h.blkAt 0 rfl).cell 0
            have K0_1 : ∀ W, KS w BS W → W.cell? ⟨zb, 1, none⟩ = some (.int .i64 0) := fun W h => by rw [hBS] at h; exact (h.blkAt 0 rfl).cell 1
            have K1_0 : ∀ W, KS w BS W → W.cell? ⟨nb, 0, none⟩ = some (.int .i64 0) := fun W h => by rw [hBS] at h; exact (h.blkAt 1 rfl).cell 0
            have K1_1 : ∀ W, KS w BS W → W.cell? ⟨nb, 1, none⟩ = some (.int .i64 0) := fun W h => by rw [hBS] at h; exact (h.blkAt 1 rfl).cell 1
            have K2_0 : ∀ W, KS w BS W → W.cell? ⟨w.heap.size, 0, none⟩ = some (.int .i64 n) := fun W h => by rw [hBS] at h; exact (h.blkAt 2 rfl).cell 0
            have K2_1 : ∀ W, KS w BS W → W.cell? ⟨w.heap.size, 1, none⟩ = some (.int .i64 d) := fun W h => by rw [hBS] at h; exact (h.blkAt 2 rfl).cell 1
            have HBS := Lib.hid hBS
            clear hBS
            go_region_held3 (KS w BS)
              (first | assumption | exact KS.drew (by assumption) | exact KS.alloc (by assumption) _ | exact KS.drew (KS.alloc (by assumption) _) | exact KS.alloc (KS.drew (by assumption)) _ | go_keep)
              (first | (go_at_call 35; (with_reducible refine (to_any _ _ _).mono ?_); rintro e wn ⟨rfl, hb⟩; have hSn := KS.below (by first | assumption | exact KS.drew (by assumption)) hb; clear hb))
            all_goals
              have sE := KS.sub (w := w) (bs := BS) (bs' := [(w.heap.size, #[.int .i64 n, .int .i64 d], 36)]) (by first | assumption | exact KS.drew (by assumption)) (fun x h => by rw [HBS.out]; simp at h; subst h; simp)
              have SE := Lib.hid sE
              clear sE
              go_wp2_with fail
              exact tot_rest g o cap _ L M S F n d w _ _ _ _ _ _ _ _ _ _ _ _ _ _ _ _ _ _ _ _ _ _ _ _ _ _ _ _ _ _ _ _ _ _ _ _ _ _ _ _ _ _ _ _ _ _ _ _ _ _ _ _ _ _ _ _ _ _ _ _ _ _ _ _ _ _ _ _ _ _ _ _ _ _ _ _ _ _ _ _ _ _ _ _ _ _ _ _ _ _ _ _ _ _ _ _ _ (by assumption) HK0.out HL.out HX0.out SE.out
          · skip
            have z5 : KZ w [(nb, #[.int .i64 0, .int .i64 0], 48), (w.heap.size, #[.int .i64 n, .int .i64 d], 36)] zb #[.int .i64 p, .int .i64 q] 54 wr := ⟨s5.sub (fun x h => by simp at h ⊢; exact .inr h), s5.blkAt 0 rfl, hsep.out, hsz.out⟩
            have c0 := z5.c0
            have c1 := z5.c1
            have f0 := z5.f 0
            have f1 := z5.f 1
            have Z5 := Lib.hid z5
            clear z5 s5
            go_wp2_with fail
            have S6 := Lib.hid (Z5.out.set2 (x' := .int .i64 0) (y' := .int .i64 0))
            clear c0 c1 f0 f1
            obtain ⟨BS, hBS⟩ : ∃ BS : List (Nat × Array Value × TypeId), BS = [(zb, #[.int .i64 0, .int .i64 0], 54), (nb, #[.int .i64 0, .int .i64 0], 48), (w.heap.size, #[.int .i64 n, .int .i64 d], 36)] := ⟨_, rfl⟩
            have hS := S6.out; rw [← hBS] at hS
            have K0_0 : ∀ W, KS w BS W → W.cell? ⟨zb, 0, none⟩ = some (.int .i64 0) := fun W h => by rw [hBS] at h; exact (h.blkAt 0 rfl).cell 0
            have K0_1 : ∀ W, KS w BS W → W.cell? ⟨zb, 1, none⟩ = some (.int .i64 0) := fun W h => by rw [hBS] at h; exact (h.blkAt 0 rfl).cell 1
            have K1_0 : ∀ W, KS w BS W → W.cell? ⟨nb, 0, none⟩ = some (.int .i64 0) := fun W h => by rw [hBS] at h; exact (h.blkAt 1 rfl).cell 0
            have K1_1 : ∀ W, KS w BS W → W.cell? ⟨nb, 1, none⟩ = some (.int .i64 0) := fun W h => by rw [hBS] at h; exact (h.blkAt 1 rfl).cell 1
            have K2_0 : ∀ W, KS w BS W → W.cell? ⟨w.heap.size, 0, none⟩ = some (.int .i64 n) := fun W h => by rw [hBS] at h; exact (h.blkAt 2 rfl).cell 0
            have K2_1 : ∀ W, KS w BS W → W.cell? ⟨w.heap.size, 1, none⟩ = some (.int .i64 d) := fun W h => by rw [hBS] at h; exact (h.blkAt 2 rfl).cell 1
            have HBS := Lib.hid hBS
            clear hBS
            go_region_held3 (KS w BS)
              (first | assumption | exact KS.drew (by assumption) | exact KS.alloc (by assumption) _ | exact KS.drew (KS.alloc (by assumption) _) | exact KS.alloc (KS.drew (by assumption)) _ | go_keep)
              (first | (go_at_call 35; (with_reducible refine (to_any _ _ _).mono ?_); rintro e wn ⟨rfl, hb⟩; have hSn := KS.below (by first | assumption | exact KS.drew (by assumption)) hb; clear hb))
            all_goals
              have sE := KS.sub (w := w) (bs := BS) (bs' := [(w.heap.size, #[.int .i64 n, .int .i64 d], 36)]) (by first | assumption | exact KS.drew (by assumption)) (fun x h => by rw [HBS.out]; simp at h; subst h; simp)
              have SE := Lib.hid sE
              clear sE
              go_wp2_with fail
              exact tot_rest g o cap _ L M S F n d w _ _ _ _ _ _ _ _ _ _ _ _ _ _ _ _ _ _ _ _ _ _ _ _ _ _ _ _ _ _ _ _ _ _ _ _ _ _ _ _ _ _ _ _ _ _ _ _ _ _ _ _ _ _ _ _ _ _ _ _ _ _ _ _ _ _ _ _ _ _ _ _ _ _ _ _ _ _ _ _ _ _ _ _ _ _ _ _ _ _ _ _ _ _ _ _ _ (by assumption) HK0.out HL.out HX0.out SE.out

end Go.Proofs.Ytkfobnhnehbkeaa
