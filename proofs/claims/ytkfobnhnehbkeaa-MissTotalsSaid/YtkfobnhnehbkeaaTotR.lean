/- MissTotals: what follows the sum. -/
import Derived.Test.YtkfobnhnehbkeaaMiss1
import Derived.Test.YtkfobnhnehbkeaaAreas
namespace Go.Proofs.Ytkfobnhnehbkeaa
open Go.RowKit Go.Shelf

/-- what is left behind the first n statements -/
def dropSeq : Nat → Code → Code
  | 0, c => c
  | n + 1, .seq _ b => dropSeq n b
  | _ + 1, _ => .skip
/-- the first statement -/
def headSeq : Code → Code
  | .seq a _ => a
  | c => c
/-- the ways through a region meet again -/
theorem wp_joinG {ι : Type} {P : Program} {code : Code} {Q : Exit → Act → World → Prop} {a : Act} {W : World} (f : Act → ι → Act) (mid : ι → World → Prop)
    (h1 : code.wp P (fun e a' W' => e = .normal ∧ ∃ b, a' = f a b ∧ mid b W') a W) (h2 : ∀ b W', mid b W' → Q .normal (f a b) W') : code.wp P Q a W :=
  Code.wp_mono (fun e a' W' h => by obtain ⟨rfl, b, rfl, hm⟩ := h; exact h2 b W' hm) h1
def tRest (w : World) : Exit → Act → World → Prop := bodyPost Try.prog Try.f5 (fun e w' => e = .returned (.bool true) ∧ Below w.heap.size w w')

set_option maxRecDepth 100000 in
set_option maxHeartbeats 8000000 in
theorem tot_restA (g o cap k : Nat) (L M S F n d : Int) (w W : World) (y4 y5 y6 y7 y8 y9 y10 y11 y12 y13 y14 y15 y16 y17 y18 y19 y20 y21 y22 y23 y24 y25 y26 y27 y28 y29 y30 y31 y32 y33 y34 y35 y36 y37 y38 y39 y40 y41 y42 y43 y44 y45 y46 y47 y48 y49 y50 y51 y52 y53 y54 y55 y56 y57 y58 y59 y60 y61 y62 y63 y64 y65 y66 y67 y68 y69 y70 y71 y72 y73 y74 y75 y76 y77 y78 y79 y80 y81 y82 y83 y84 y85 y86 y87 y88 y89 y90 y91 y92 y93 y94 y95 y96 y97 y98 : Value) (K : Act → World → Prop)
    (hK : ∀ a W', Code.wp Try.prog (dropSeq 13 (Try.f5.body.getD .skip)) (tRest w) a W' → K a W')
    (hk0 : 0 < k) (hlt : g < w.heap.size) (hx : AreasAt w g o [⟨L, M, S, F⟩]) (h : areaB L M S F = false) (hS0 : KS w [(w.heap.size, #[.int .i64 n, .int .i64 d], 36)] W) :
    Code.wp Try.prog (headSeq (dropSeq 12 (Try.f5.body.getD .skip))) (Exit.then K (tRest w)) { tmps := #[.slice (some ⟨g, o, none⟩) k cap, fracV n d, undef, .pointer (some ⟨w.heap.size, 0, none⟩), y4, y5, y6, y7, y8, y9, y10, y11, y12, y13, y14, y15, y16, y17, y18, y19, y20, y21, y22, y23, y24, y25, y26, y27, y28, y29, y30, y31, y32, y33, y34, y35, y36, y37, y38, y39, y40, y41, y42, y43, y44, y45, y46, y47, y48, y49, y50, y51, y52, y53, y54, y55, y56, y57, y58, y59, y60, y61, y62, y63, y64, y65, y66, y67, y68, y69, y70, y71, y72, y73, y74, y75, y76, y77, y78, y79, y80, y81, y82, y83, y84, y85, y86, y87, y88, y89, y90, y91, y92, y93, y94, y95, y96, y97, y98, undef, undef, undef, undef, undef, undef, undef, undef, undef, undef, undef, undef, undef, undef, undef, undef, undef, undef, undef, undef, undef, undef, undef, undef, undef, undef, undef, undef, undef, undef, undef, undef, undef, undef, undef, undef, undef, undef, undef, undef, undef, undef, undef, undef, undef, undef, undef, undef, undef, undef, undef, undef, undef, undef, undef, undef, undef, undef, undef, undef, undef, undef, undef, undef, undef, undef, undef, undef, undef, undef, undef], defers := [] } W := by
  have C36 : Hid (∀ w, Calls Try.prog 36 #[areaV L M S F, fracV n d] w fun e w' => e = .returned (.tuple #[rangeV 0 0, .int .i64 1]) ∧ Below w.heap.size w w') := Lib.hid (fun w => by
    have C := Missed_any L M S F n d w
    unfold TotalPost at C
    rw [show totRes [⟨L, M, S, F⟩] n d = (0, 0, 1) by simp [totRes, A4.ok, h]] at C
    exact C)
  have C22 := Lib.hid (fun w => fault_any L M S F w)
  rw [show faultI L M S F = 1 by simp [faultI, h]] at C22
  clear h
  obtain ⟨k0, k1, k2, k3⟩ := hx 0 _ rfl
  simp only [Nat.zero_mul, Nat.add_zero] at k0 k1 k2 k3
  have X0 : ∀ W (bs : List (Nat × Array Value × TypeId)), KS w bs W → W.cell? ⟨g, o, none⟩ = some (.int .i64 L) := fun W bs h => (h.bel.cell (p := ⟨g, _, none⟩) hlt).trans k0
  have X1 : ∀ W (bs : List (Nat × Array Value × TypeId)), KS w bs W → W.cell? ⟨g, o + 1, none⟩ = some (.int .i64 M) := fun W bs h => (h.bel.cell (p := ⟨g, _, none⟩) hlt).trans k1
  have X2 : ∀ W (bs : List (Nat × Array Value × TypeId)), KS w bs W → W.cell? ⟨g, o + 2, none⟩ = some (.int .i64 S) := fun W bs h => (h.bel.cell (p := ⟨g, _, none⟩) hlt).trans k2
  have X3 : ∀ W (bs : List (Nat × Array Value × TypeId)), KS w bs W → W.cell? ⟨g, o + 3, none⟩ = some (.int .i64 F) := fun W bs h => (h.bel.cell (p := ⟨g, _, none⟩) hlt).trans k3
  have HX := Lib.hid (And.intro X0 (And.intro X1 (And.intro X2 X3)))
  have hk1 : decide ((0 : Int) < (k : Int)) = true := by simp; omega
  clear k0 k1 k2 k3 X0 X1 X2 X3 hx
  have HK := Lib.hid hK
  clear hK
  have S0 := Lib.hid hS0
  clear hS0
  conv => arg 2; whnf
  obtain ⟨BS, hBS⟩ : ∃ BS : List (Nat × Array Value × TypeId), BS = [(w.heap.size, #[.int .i64 n, .int .i64 d], 36)] := ⟨_, rfl⟩
  have hS : KS w BS W := by rw [hBS]; exact S0.out
  have K0_0 : ∀ W, KS w BS W → W.cell? ⟨w.heap.size, 0, none⟩ = some (.int .i64 n) := fun W h => by rw [hBS] at h; exact (h.blkAt 0 rfl).cell 0
  have K0_1 : ∀ W, KS w BS W → W.cell? ⟨w.heap.size, 1, none⟩ = some (.int .i64 d) := fun W h => by rw [hBS] at h; exact (h.blkAt 0 rfl).cell 1
  have KZ0 : ∀ W b, KZ w BS b #[.int .i64 0, .int .i64 0] 48 W → W.cell? ⟨b, 0, none⟩ = some (.int .i64 0) := fun W b h => h.c0
  have KZ1 : ∀ W b, KZ w BS b #[.int .i64 0, .int .i64 0] 48 W → W.cell? ⟨b, 1, none⟩ = some (.int .i64 0) := fun W b h => h.c1
  have KF0 : ∀ W b, KZ w BS b #[.int .i64 0, .int .i64 0] 48 W → W.frozen? ⟨b, 0, none⟩ = false := fun W b h => h.f 0
  have KF1 : ∀ W b, KZ w BS b #[.int .i64 0, .int .i64 0] 48 W → W.frozen? ⟨b, 1, none⟩ = false := fun W b h => h.f 1
  have Y0 : ∀ W, KS w BS W → W.cell? ⟨g, o, none⟩ = some (.int .i64 L) := fun W h => HX.out.1 W _ h
  have Y1 : ∀ W, KS w BS W → W.cell? ⟨g, o + 1, none⟩ = some (.int .i64 M) := fun W h => HX.out.2.1 W _ h
  have Y2 : ∀ W, KS w BS W → W.cell? ⟨g, o + 2, none⟩ = some (.int .i64 S) := fun W h => HX.out.2.2.1 W _ h
  have Y3 : ∀ W, KS w BS W → W.cell? ⟨g, o + 3, none⟩ = some (.int .i64 F) := fun W h => HX.out.2.2.2 W _ h
  have HBS := Lib.hid hBS
  clear hBS 
  refine wp_join (f := fun a b => ((((((((((((a.put (some 100) (.slice (some ⟨g, o, none⟩) k cap)).put (some 101) (.pointer (some ⟨g, o, none⟩))).put (some 102) (.agg #[.int .i64 L, .int .i64 M, .int .i64 S, .int .i64 F])).put (some 103) (.agg #[.int .i64 L, .int .i64 M, .int .i64 S, .int .i64 F])).put (some 104) (.agg #[.int .i64 n, .int .i64 d])).put (some 105) (.agg #[.int .i64 n, .int .i64 d])).put (some 106) (.tuple #[.agg #[.int .i64 0, .int .i64 0], .int .i64 1])).put (some 99) (.tuple #[.agg #[.int .i64 0, .int .i64 0], .int .i64 1])).put (some 107) (.agg #[.int .i64 0, .int .i64 0])).put (some 108) (.int .i64 1)).put (some 14) (.int .i64 1)).put (some 13) (.pointer (some ⟨b, 0, none⟩)))) (mid := fun b W' => KS w ((b, #[.int .i64 0, .int .i64 0], 48) :: BS) W') ?_ ?_
  · go_region_held3 (KS w BS)
      (first | assumption | exact KS.drew (by assumption) | exact KS.alloc (by assumption) _ | exact KS.drew (KS.alloc (by assumption) _) | exact KS.alloc (KS.drew (by assumption)) _ | exact KZ.ks (by assumption) | exact (KZ.new (by assumption) _ _).ks | exact KZ.keep2 (by assumption) | exact (KZ.keep2 (by assumption)).drew | exact (KZ.drew (by assumption)).keep2 | go_keep)
      (first | (go_at_call 20; (with_reducible refine (Area_any _ _ _ _ _).mono ?_); rintro e wn ⟨rfl, hb⟩; have hSn := KS.below (w := w) (bs := BS) (by first | assumption | exact KS.drew (by assumption)) hb; (first | (have hZ := KZ.below (w := w) (bs := BS) (cs := #[.int .i64 0, .int .i64 0]) (t := 48) (by assumption) hb) | (have hZ := KZ.below (w := w) (bs := BS) (KZ.new (by assumption) #[.int .i64 0, .int .i64 0] 48) hb) | (have hZ := KZ.below (w := w) (bs := BS) (KZ.newD (by assumption) #[.int .i64 0, .int .i64 0] 48) hb) | skip); clear hb) | (go_at_call 25; (with_reducible refine (part_any _ _ _).mono ?_); rintro e wn ⟨rfl, hb⟩; have hSn := KS.below (w := w) (bs := BS) (by first | assumption | exact KS.drew (by assumption)) hb; (first | (have hZ := KZ.below (w := w) (bs := BS) (cs := #[.int .i64 0, .int .i64 0]) (t := 48) (by assumption) hb) | (have hZ := KZ.below (w := w) (bs := BS) (KZ.new (by assumption) #[.int .i64 0, .int .i64 0] 48) hb) | (have hZ := KZ.below (w := w) (bs := BS) (KZ.newD (by assumption) #[.int .i64 0, .int .i64 0] 48) hb) | skip); clear hb) | (go_at_call 36; (with_reducible refine (C36.out _).mono ?_); rintro e wn ⟨rfl, hb⟩; have hSn := KS.below (w := w) (bs := BS) (by first | assumption | exact KS.drew (by assumption)) hb; (first | (have hZ := KZ.below (w := w) (bs := BS) (cs := #[.int .i64 0, .int .i64 0]) (t := 48) (by assumption) hb) | (have hZ := KZ.below (w := w) (bs := BS) (KZ.new (by assumption) #[.int .i64 0, .int .i64 0] 48) hb) | (have hZ := KZ.below (w := w) (bs := BS) (KZ.newD (by assumption) #[.int .i64 0, .int .i64 0] 48) hb) | skip); clear hb))
    all_goals first | exact ⟨rfl, _, rfl, KS.new (by assumption) _ _⟩ | exact ⟨rfl, _, rfl, KZ.set2 (by assumption)⟩ | exact ⟨rfl, _, rfl, KZ.set2D (by assumption)⟩ | exact ⟨rfl, _, rfl, (KZ.set2 (by assumption)).drew⟩
  intro nb1 w1 hM
  simp only [Act.put, List.setIfInBounds_toArray, List.set_cons_zero, List.set_cons_succ]
  have s1 : KS w [(nb1, #[.int .i64 0, .int .i64 0], 48), (w.heap.size, #[.int .i64 n, .int .i64 d], 36)] w1 := by have h := hM; rw [HBS.out] at h; exact h
  clear hS hM HBS KZ0 KZ1 KF0 KF1 K0_0 K0_1 Y0 Y1 Y2 Y3
  obtain ⟨kb1_0, kb1_1, _⟩ := (s1.blkAt 0 rfl).c2
  obtain ⟨kb0_0, kb0_1, _⟩ := (s1.blkAt 1 rfl).c2
  have S1 := Lib.hid s1
  clear s1
  obtain ⟨a0, a1, a2, a3⟩ := HX.out
  replace a0 := a0 _ _ S1.out
  replace a1 := a1 _ _ S1.out
  replace a2 := a2 _ _ S1.out
  replace a3 := a3 _ _ S1.out
  refine HK.out _ _ ?_
  conv => arg 2; whnf
  go_wp2_with fail
  refine (C22.out _).mono ?_
  rintro e w2 ⟨rfl, h2⟩
  clear kb1_0 kb1_1 kb0_0 kb0_1
  have s2 := S1.out.below h2
  obtain ⟨kb1_0, kb1_1, _⟩ := (s2.blkAt 0 rfl).c2
  obtain ⟨kb0_0, kb0_1, _⟩ := (s2.blkAt 1 rfl).c2
  have S2 := Lib.hid s2
  clear h2 s2
  have S99 := S2
  clear a0 a1 a2 a3
  go_wp2_with (first | (go_at_call 24; (with_reducible refine (awake_any _).mono ?_); rintro e w99 ⟨rfl, h99⟩; have S99 := Lib.hid (S2.out.below h99); clear h99))
  go_ret
  exact ⟨rfl, S99.out.bel⟩

set_option maxRecDepth 100000 in
set_option maxHeartbeats 8000000 in
theorem tot_restB (g o cap k : Nat) (L M S F n d : Int) (w W : World) (y4 y5 y6 y7 y8 y9 y10 y11 y12 y13 y14 y15 y16 y17 y18 y19 y20 y21 y22 y23 y24 y25 y26 y27 y28 y29 y30 y31 y32 y33 y34 y35 y36 y37 y38 y39 y40 y41 y42 y43 y44 y45 y46 y47 y48 y49 y50 y51 y52 y53 y54 y55 y56 y57 y58 y59 y60 y61 y62 y63 y64 y65 y66 y67 y68 y69 y70 y71 y72 y73 y74 y75 y76 y77 y78 y79 y80 y81 y82 y83 y84 y85 y86 y87 y88 y89 y90 y91 y92 y93 y94 y95 y96 y97 y98 : Value) (K : Act → World → Prop)
    (hK : ∀ a W', Code.wp Try.prog (dropSeq 13 (Try.f5.body.getD .skip)) (tRest w) a W' → K a W')
    (hk0 : 0 < k) (hlt : g < w.heap.size) (hx : AreasAt w g o [⟨L, M, S, F⟩]) (h : areaB L M S F = true) (hl : levB n d = false) (hS0 : KS w [(w.heap.size, #[.int .i64 n, .int .i64 d], 36)] W) :
    Code.wp Try.prog (headSeq (dropSeq 12 (Try.f5.body.getD .skip))) (Exit.then K (tRest w)) { tmps := #[.slice (some ⟨g, o, none⟩) k cap, fracV n d, undef, .pointer (some ⟨w.heap.size, 0, none⟩), y4, y5, y6, y7, y8, y9, y10, y11, y12, y13, y14, y15, y16, y17, y18, y19, y20, y21, y22, y23, y24, y25, y26, y27, y28, y29, y30, y31, y32, y33, y34, y35, y36, y37, y38, y39, y40, y41, y42, y43, y44, y45, y46, y47, y48, y49, y50, y51, y52, y53, y54, y55, y56, y57, y58, y59, y60, y61, y62, y63, y64, y65, y66, y67, y68, y69, y70, y71, y72, y73, y74, y75, y76, y77, y78, y79, y80, y81, y82, y83, y84, y85, y86, y87, y88, y89, y90, y91, y92, y93, y94, y95, y96, y97, y98, undef, undef, undef, undef, undef, undef, undef, undef, undef, undef, undef, undef, undef, undef, undef, undef, undef, undef, undef, undef, undef, undef, undef, undef, undef, undef, undef, undef, undef, undef, undef, undef, undef, undef, undef, undef, undef, undef, undef, undef, undef, undef, undef, undef, undef, undef, undef, undef, undef, undef, undef, undef, undef, undef, undef, undef, undef, undef, undef, undef, undef, undef, undef, undef, undef, undef, undef, undef, undef, undef, undef], defers := [] } W := by
  have C36 : Hid (∀ w, Calls Try.prog 36 #[areaV L M S F, fracV n d] w fun e w' => e = .returned (.tuple #[rangeV 0 0, .int .i64 2]) ∧ Below w.heap.size w w') := Lib.hid (fun w => by
    have C := Missed_any L M S F n d w
    unfold TotalPost at C
    rw [show totRes [⟨L, M, S, F⟩] n d = (0, 0, 2) by simp [totRes, A4.ok, h, hl]] at C
    exact C)
  have C22 := Lib.hid (fun w => fault_any L M S F w)
  rw [show faultI L M S F = 0 by simp [faultI, h]] at C22
  have C33 := Lib.hid (fun w => rIsLevel_any n d w)
  rw [hl] at C33
  clear h hl
  obtain ⟨k0, k1, k2, k3⟩ := hx 0 _ rfl
  simp only [Nat.zero_mul, Nat.add_zero] at k0 k1 k2 k3
  have X0 : ∀ W (bs : List (Nat × Array Value × TypeId)), KS w bs W → W.cell? ⟨g, o, none⟩ = some (.int .i64 L) := fun W bs h => (h.bel.cell (p := ⟨g, _, none⟩) hlt).trans k0
  have X1 : ∀ W (bs : List (Nat × Array Value × TypeId)), KS w bs W → W.cell? ⟨g, o + 1, none⟩ = some (.int .i64 M) := fun W bs h => (h.bel.cell (p := ⟨g, _, none⟩) hlt).trans k1
  have X2 : ∀ W (bs : List (Nat × Array Value × TypeId)), KS w bs W → W.cell? ⟨g, o + 2, none⟩ = some (.int .i64 S) := fun W bs h => (h.bel.cell (p := ⟨g, _, none⟩) hlt).trans k2
  have X3 : ∀ W (bs : List (Nat × Array Value × TypeId)), KS w bs W → W.cell? ⟨g, o + 3, none⟩ = some (.int .i64 F) := fun W bs h => (h.bel.cell (p := ⟨g, _, none⟩) hlt).trans k3
  have HX := Lib.hid (And.intro X0 (And.intro X1 (And.intro X2 X3)))
  have hk1 : decide ((0 : Int) < (k : Int)) = true := by simp; omega
  clear k0 k1 k2 k3 X0 X1 X2 X3 hx
  have HK := Lib.hid hK
  clear hK
  have S0 := Lib.hid hS0
  clear hS0
  conv => arg 2; whnf
  obtain ⟨BS, hBS⟩ : ∃ BS : List (Nat × Array Value × TypeId), BS = [(w.heap.size, #[.int .i64 n, .int .i64 d], 36)] := ⟨_, rfl⟩
  have hS : KS w BS W := by rw [hBS]; exact S0.out
  have K0_0 : ∀ W, KS w BS W → W.cell? ⟨w.heap.size, 0, none⟩ = some (.int .i64 n) := fun W h => by rw [hBS] at h; exact (h.blkAt 0 rfl).cell 0
  have K0_1 : ∀ W, KS w BS W → W.cell? ⟨w.heap.size, 1, none⟩ = some (.int .i64 d) := fun W h => by rw [hBS] at h; exact (h.blkAt 0 rfl).cell 1
  have KZ0 : ∀ W b, KZ w BS b #[.int .i64 0, .int .i64 0] 48 W → W.cell? ⟨b, 0, none⟩ = some (.int .i64 0) := fun W b h => h.c0
  have KZ1 : ∀ W b, KZ w BS b #[.int .i64 0, .int .i64 0] 48 W → W.cell? ⟨b, 1, none⟩ = some (.int .i64 0) := fun W b h => h.c1
  have KF0 : ∀ W b, KZ w BS b #[.int .i64 0, .int .i64 0] 48 W → W.frozen? ⟨b, 0, none⟩ = false := fun W b h => h.f 0
  have KF1 : ∀ W b, KZ w BS b #[.int .i64 0, .int .i64 0] 48 W → W.frozen? ⟨b, 1, none⟩ = false := fun W b h => h.f 1
  have Y0 : ∀ W, KS w BS W → W.cell? ⟨g, o, none⟩ = some (.int .i64 L) := fun W h => HX.out.1 W _ h
  have Y1 : ∀ W, KS w BS W → W.cell? ⟨g, o + 1, none⟩ = some (.int .i64 M) := fun W h => HX.out.2.1 W _ h
  have Y2 : ∀ W, KS w BS W → W.cell? ⟨g, o + 2, none⟩ = some (.int .i64 S) := fun W h => HX.out.2.2.1 W _ h
  have Y3 : ∀ W, KS w BS W → W.cell? ⟨g, o + 3, none⟩ = some (.int .i64 F) := fun W h => HX.out.2.2.2 W _ h
  have HBS := Lib.hid hBS
  clear hBS 
  refine wp_join (f := fun a b => ((((((((((((a.put (some 100) (.slice (some ⟨g, o, none⟩) k cap)).put (some 101) (.pointer (some ⟨g, o, none⟩))).put (some 102) (.agg #[.int .i64 L, .int .i64 M, .int .i64 S, .int .i64 F])).put (some 103) (.agg #[.int .i64 L, .int .i64 M, .int .i64 S, .int .i64 F])).put (some 104) (.agg #[.int .i64 n, .int .i64 d])).put (some 105) (.agg #[.int .i64 n, .int .i64 d])).put (some 106) (.tuple #[.agg #[.int .i64 0, .int .i64 0], .int .i64 2])).put (some 99) (.tuple #[.agg #[.int .i64 0, .int .i64 0], .int .i64 2])).put (some 107) (.agg #[.int .i64 0, .int .i64 0])).put (some 108) (.int .i64 2)).put (some 14) (.int .i64 2)).put (some 13) (.pointer (some ⟨b, 0, none⟩)))) (mid := fun b W' => KS w ((b, #[.int .i64 0, .int .i64 0], 48) :: BS) W') ?_ ?_
  · go_region_held3 (KS w BS)
      (first | assumption | exact KS.drew (by assumption) | exact KS.alloc (by assumption) _ | exact KS.drew (KS.alloc (by assumption) _) | exact KS.alloc (KS.drew (by assumption)) _ | exact KZ.ks (by assumption) | exact (KZ.new (by assumption) _ _).ks | exact KZ.keep2 (by assumption) | exact (KZ.keep2 (by assumption)).drew | exact (KZ.drew (by assumption)).keep2 | go_keep)
      (first | (go_at_call 20; (with_reducible refine (Area_any _ _ _ _ _).mono ?_); rintro e wn ⟨rfl, hb⟩; have hSn := KS.below (w := w) (bs := BS) (by first | assumption | exact KS.drew (by assumption)) hb; (first | (have hZ := KZ.below (w := w) (bs := BS) (cs := #[.int .i64 0, .int .i64 0]) (t := 48) (by assumption) hb) | (have hZ := KZ.below (w := w) (bs := BS) (KZ.new (by assumption) #[.int .i64 0, .int .i64 0] 48) hb) | (have hZ := KZ.below (w := w) (bs := BS) (KZ.newD (by assumption) #[.int .i64 0, .int .i64 0] 48) hb) | skip); clear hb) | (go_at_call 25; (with_reducible refine (part_any _ _ _).mono ?_); rintro e wn ⟨rfl, hb⟩; have hSn := KS.below (w := w) (bs := BS) (by first | assumption | exact KS.drew (by assumption)) hb; (first | (have hZ := KZ.below (w := w) (bs := BS) (cs := #[.int .i64 0, .int .i64 0]) (t := 48) (by assumption) hb) | (have hZ := KZ.below (w := w) (bs := BS) (KZ.new (by assumption) #[.int .i64 0, .int .i64 0] 48) hb) | (have hZ := KZ.below (w := w) (bs := BS) (KZ.newD (by assumption) #[.int .i64 0, .int .i64 0] 48) hb) | skip); clear hb) | (go_at_call 36; (with_reducible refine (C36.out _).mono ?_); rintro e wn ⟨rfl, hb⟩; have hSn := KS.below (w := w) (bs := BS) (by first | assumption | exact KS.drew (by assumption)) hb; (first | (have hZ := KZ.below (w := w) (bs := BS) (cs := #[.int .i64 0, .int .i64 0]) (t := 48) (by assumption) hb) | (have hZ := KZ.below (w := w) (bs := BS) (KZ.new (by assumption) #[.int .i64 0, .int .i64 0] 48) hb) | (have hZ := KZ.below (w := w) (bs := BS) (KZ.newD (by assumption) #[.int .i64 0, .int .i64 0] 48) hb) | skip); clear hb))
    all_goals first | exact ⟨rfl, _, rfl, KS.new (by assumption) _ _⟩ | exact ⟨rfl, _, rfl, KZ.set2 (by assumption)⟩ | exact ⟨rfl, _, rfl, KZ.set2D (by assumption)⟩ | exact ⟨rfl, _, rfl, (KZ.set2 (by assumption)).drew⟩
  intro nb1 w1 hM
  simp only [Act.put, List.setIfInBounds_toArray, List.set_cons_zero, List.set_cons_succ]
  have s1 : KS w [(nb1, #[.int .i64 0, .int .i64 0], 48), (w.heap.size, #[.int .i64 n, .int .i64 d], 36)] w1 := by have h := hM; rw [HBS.out] at h; exact h
  clear hS hM HBS KZ0 KZ1 KF0 KF1 K0_0 K0_1 Y0 Y1 Y2 Y3
  obtain ⟨kb1_0, kb1_1, _⟩ := (s1.blkAt 0 rfl).c2
  obtain ⟨kb0_0, kb0_1, _⟩ := (s1.blkAt 1 rfl).c2
  have S1 := Lib.hid s1
  clear s1
  obtain ⟨a0, a1, a2, a3⟩ := HX.out
  replace a0 := a0 _ _ S1.out
  replace a1 := a1 _ _ S1.out
  replace a2 := a2 _ _ S1.out
  replace a3 := a3 _ _ S1.out
  refine HK.out _ _ ?_
  conv => arg 2; whnf
  go_wp2_with fail
  refine (C22.out _).mono ?_
  rintro e w2 ⟨rfl, h2⟩
  clear kb1_0 kb1_1 kb0_0 kb0_1
  have s2 := S1.out.below h2
  obtain ⟨kb1_0, kb1_1, _⟩ := (s2.blkAt 0 rfl).c2
  obtain ⟨kb0_0, kb0_1, _⟩ := (s2.blkAt 1 rfl).c2
  have S2 := Lib.hid s2
  clear h2 s2
  clear a0 a1 a2 a3
  go_wp2_with fail
  refine (C33.out _).mono ?_
  rintro e w3 ⟨rfl, h3⟩
  clear kb1_0 kb1_1 kb0_0 kb0_1
  have s3 := S2.out.below h3
  obtain ⟨kb1_0, kb1_1, _⟩ := (s3.blkAt 0 rfl).c2
  obtain ⟨kb0_0, kb0_1, _⟩ := (s3.blkAt 1 rfl).c2
  have S3 := Lib.hid s3
  clear h3 s3
  go_wp2_with (first | (go_at_call 24; (with_reducible refine (awake_any _).mono ?_); rintro e w99 ⟨rfl, h99⟩; have S99 := Lib.hid (S3.out.below h99); clear h99))
  go_ret
  exact ⟨rfl, S99.out.bel⟩

set_option maxRecDepth 100000 in
set_option maxHeartbeats 8000000 in
theorem tot_restN (g o cap k : Nat) (L M S F n d : Nat) (w W : World) (y4 y5 y6 y7 y8 y9 y10 y11 y12 y13 y14 y15 y16 y17 y18 y19 y20 y21 y22 y23 y24 y25 y26 y27 y28 y29 y30 y31 y32 y33 y34 y35 y36 y37 y38 y39 y40 y41 y42 y43 y44 y45 y46 y47 y48 y49 y50 y51 y52 y53 y54 y55 y56 y57 y58 y59 y60 y61 y62 y63 y64 y65 y66 y67 y68 y69 y70 y71 y72 y73 y74 y75 y76 y77 y78 y79 y80 y81 y82 y83 y84 y85 y86 y87 y88 y89 y90 y91 y92 y93 y94 y95 y96 y97 y98 : Value) (K : Act → World → Prop)
    (hK : ∀ a W', Code.wp Try.prog (dropSeq 13 (Try.f5.body.getD .skip)) (tRest w) a W' → K a W')
    (hk0 : 0 < k) (hlt : g < w.heap.size) (hx : AreasAt w g o [⟨L, M, S, F⟩]) (h : okA L M S F) (hl : levB n d = true) (hr : rangeOf L M S F n d = none) (hS0 : KS w [(w.heap.size, #[.int .i64 n, .int .i64 d], 36)] W) :
    Code.wp Try.prog (headSeq (dropSeq 12 (Try.f5.body.getD .skip))) (Exit.then K (tRest w)) { tmps := #[.slice (some ⟨g, o, none⟩) k cap, fracV n d, undef, .pointer (some ⟨w.heap.size, 0, none⟩), y4, y5, y6, y7, y8, y9, y10, y11, y12, y13, y14, y15, y16, y17, y18, y19, y20, y21, y22, y23, y24, y25, y26, y27, y28, y29, y30, y31, y32, y33, y34, y35, y36, y37, y38, y39, y40, y41, y42, y43, y44, y45, y46, y47, y48, y49, y50, y51, y52, y53, y54, y55, y56, y57, y58, y59, y60, y61, y62, y63, y64, y65, y66, y67, y68, y69, y70, y71, y72, y73, y74, y75, y76, y77, y78, y79, y80, y81, y82, y83, y84, y85, y86, y87, y88, y89, y90, y91, y92, y93, y94, y95, y96, y97, y98, undef, undef, undef, undef, undef, undef, undef, undef, undef, undef, undef, undef, undef, undef, undef, undef, undef, undef, undef, undef, undef, undef, undef, undef, undef, undef, undef, undef, undef, undef, undef, undef, undef, undef, undef, undef, undef, undef, undef, undef, undef, undef, undef, undef, undef, undef, undef, undef, undef, undef, undef, undef, undef, undef, undef, undef, undef, undef, undef, undef, undef, undef, undef, undef, undef, undef, undef, undef, undef, undef, undef], defers := [] } W := by
  have C36 : Hid (∀ w, Calls Try.prog 36 #[areaV L M S F, fracV n d] w fun e w' => e = .returned (.tuple #[rangeV 0 0, .int .i64 9]) ∧ Below w.heap.size w w') := Lib.hid (fun w => by
    have C := Missed_any L M S F n d w
    unfold TotalPost at C
    rw [totRes_one h hl, hr] at C
    exact C)
  have C22 := Lib.hid (fun w => fault_any L M S F w)
  rw [show faultI L M S F = 0 by simp [faultI, h.b]] at C22
  have C33 := Lib.hid (fun w => rIsLevel_any n d w)
  rw [hl] at C33
  have C34 := Lib.hid (fun w => rMissed_any h n d (lev_of hl).1 (lev_of hl).2.1 (lev_of hl).2.2 w)
  rw [hr] at C34
  clear h hl hr
  obtain ⟨k0, k1, k2, k3⟩ := hx 0 _ rfl
  simp only [Nat.zero_mul, Nat.add_zero] at k0 k1 k2 k3
  have X0 : ∀ W (bs : List (Nat × Array Value × TypeId)), KS w bs W → W.cell? ⟨g, o, none⟩ = some (.int .i64 L) := fun W bs h => (h.bel.cell (p := ⟨g, _, none⟩) hlt).trans k0
  have X1 : ∀ W (bs : List (Nat × Array Value × TypeId)), KS w bs W → W.cell? ⟨g, o + 1, none⟩ = some (.int .i64 M) := fun W bs h => (h.bel.cell (p := ⟨g, _, none⟩) hlt).trans k1
  have X2 : ∀ W (bs : List (Nat × Array Value × TypeId)), KS w bs W → W.cell? ⟨g, o + 2, none⟩ = some (.int .i64 S) := fun W bs h => (h.bel.cell (p := ⟨g, _, none⟩) hlt).trans k2
  have X3 : ∀ W (bs : List (Nat × Array Value × TypeId)), KS w bs W → W.cell? ⟨g, o + 3, none⟩ = some (.int .i64 F) := fun W bs h => (h.bel.cell (p := ⟨g, _, none⟩) hlt).trans k3
  have HX := Lib.hid (And.intro X0 (And.intro X1 (And.intro X2 X3)))
  have hk1 : decide ((0 : Int) < (k : Int)) = true := by simp; omega
  clear k0 k1 k2 k3 X0 X1 X2 X3 hx
  have HK := Lib.hid hK
  clear hK
  have S0 := Lib.hid hS0
  clear hS0
  conv => arg 2; whnf
  obtain ⟨BS, hBS⟩ : ∃ BS : List (Nat × Array Value × TypeId), BS = [(w.heap.size, #[.int .i64 n, .int .i64 d], 36)] := ⟨_, rfl⟩
  have hS : KS w BS W := by rw [hBS]; exact S0.out
  have K0_0 : ∀ W, KS w BS W → W.cell? ⟨w.heap.size, 0, none⟩ = some (.int .i64 n) := fun W h => by rw [hBS] at h; exact (h.blkAt 0 rfl).cell 0
  have K0_1 : ∀ W, KS w BS W → W.cell? ⟨w.heap.size, 1, none⟩ = some (.int .i64 d) := fun W h => by rw [hBS] at h; exact (h.blkAt 0 rfl).cell 1
  have KZ0 : ∀ W b, KZ w BS b #[.int .i64 0, .int .i64 0] 48 W → W.cell? ⟨b, 0, none⟩ = some (.int .i64 0) := fun W b h => h.c0
  have KZ1 : ∀ W b, KZ w BS b #[.int .i64 0, .int .i64 0] 48 W → W.cell? ⟨b, 1, none⟩ = some (.int .i64 0) := fun W b h => h.c1
  have KF0 : ∀ W b, KZ w BS b #[.int .i64 0, .int .i64 0] 48 W → W.frozen? ⟨b, 0, none⟩ = false := fun W b h => h.f 0
  have KF1 : ∀ W b, KZ w BS b #[.int .i64 0, .int .i64 0] 48 W → W.frozen? ⟨b, 1, none⟩ = false := fun W b h => h.f 1
  have Y0 : ∀ W, KS w BS W → W.cell? ⟨g, o, none⟩ = some (.int .i64 L) := fun W h => HX.out.1 W _ h
  have Y1 : ∀ W, KS w BS W → W.cell? ⟨g, o + 1, none⟩ = some (.int .i64 M) := fun W h => HX.out.2.1 W _ h
  have Y2 : ∀ W, KS w BS W → W.cell? ⟨g, o + 2, none⟩ = some (.int .i64 S) := fun W h => HX.out.2.2.1 W _ h
  have Y3 : ∀ W, KS w BS W → W.cell? ⟨g, o + 3, none⟩ = some (.int .i64 F) := fun W h => HX.out.2.2.2 W _ h
  have HBS := Lib.hid hBS
  clear hBS 
  refine wp_join (f := fun a b => ((((((((((((a.put (some 100) (.slice (some ⟨g, o, none⟩) k cap)).put (some 101) (.pointer (some ⟨g, o, none⟩))).put (some 102) (.agg #[.int .i64 L, .int .i64 M, .int .i64 S, .int .i64 F])).put (some 103) (.agg #[.int .i64 L, .int .i64 M, .int .i64 S, .int .i64 F])).put (some 104) (.agg #[.int .i64 n, .int .i64 d])).put (some 105) (.agg #[.int .i64 n, .int .i64 d])).put (some 106) (.tuple #[.agg #[.int .i64 0, .int .i64 0], .int .i64 9])).put (some 99) (.tuple #[.agg #[.int .i64 0, .int .i64 0], .int .i64 9])).put (some 107) (.agg #[.int .i64 0, .int .i64 0])).put (some 108) (.int .i64 9)).put (some 14) (.int .i64 9)).put (some 13) (.pointer (some ⟨b, 0, none⟩)))) (mid := fun b W' => KS w ((b, #[.int .i64 0, .int .i64 0], 48) :: BS) W') ?_ ?_
  · go_region_held3 (KS w BS)
      (first | assumption | exact KS.drew (by assumption) | exact KS.alloc (by assumption) _ | exact KS.drew (KS.alloc (by assumption) _) | exact KS.alloc (KS.drew (by assumption)) _ | exact KZ.ks (by assumption) | exact (KZ.new (by assumption) _ _).ks | exact KZ.keep2 (by assumption) | exact (KZ.keep2 (by assumption)).drew | exact (KZ.drew (by assumption)).keep2 | go_keep)
      (first | (go_at_call 20; (with_reducible refine (Area_any _ _ _ _ _).mono ?_); rintro e wn ⟨rfl, hb⟩; have hSn := KS.below (w := w) (bs := BS) (by first | assumption | exact KS.drew (by assumption)) hb; (first | (have hZ := KZ.below (w := w) (bs := BS) (cs := #[.int .i64 0, .int .i64 0]) (t := 48) (by assumption) hb) | (have hZ := KZ.below (w := w) (bs := BS) (KZ.new (by assumption) #[.int .i64 0, .int .i64 0] 48) hb) | (have hZ := KZ.below (w := w) (bs := BS) (KZ.newD (by assumption) #[.int .i64 0, .int .i64 0] 48) hb) | skip); clear hb) | (go_at_call 25; (with_reducible refine (part_any _ _ _).mono ?_); rintro e wn ⟨rfl, hb⟩; have hSn := KS.below (w := w) (bs := BS) (by first | assumption | exact KS.drew (by assumption)) hb; (first | (have hZ := KZ.below (w := w) (bs := BS) (cs := #[.int .i64 0, .int .i64 0]) (t := 48) (by assumption) hb) | (have hZ := KZ.below (w := w) (bs := BS) (KZ.new (by assumption) #[.int .i64 0, .int .i64 0] 48) hb) | (have hZ := KZ.below (w := w) (bs := BS) (KZ.newD (by assumption) #[.int .i64 0, .int .i64 0] 48) hb) | skip); clear hb) | (go_at_call 36; (with_reducible refine (C36.out _).mono ?_); rintro e wn ⟨rfl, hb⟩; have hSn := KS.below (w := w) (bs := BS) (by first | assumption | exact KS.drew (by assumption)) hb; (first | (have hZ := KZ.below (w := w) (bs := BS) (cs := #[.int .i64 0, .int .i64 0]) (t := 48) (by assumption) hb) | (have hZ := KZ.below (w := w) (bs := BS) (KZ.new (by assumption) #[.int .i64 0, .int .i64 0] 48) hb) | (have hZ := KZ.below (w := w) (bs := BS) (KZ.newD (by assumption) #[.int .i64 0, .int .i64 0] 48) hb) | skip); clear hb))
    all_goals first | exact ⟨rfl, _, rfl, KS.new (by assumption) _ _⟩ | exact ⟨rfl, _, rfl, KZ.set2 (by assumption)⟩ | exact ⟨rfl, _, rfl, KZ.set2D (by assumption)⟩ | exact ⟨rfl, _, rfl, (KZ.set2 (by assumption)).drew⟩
  intro nb1 w1 hM
  simp only [Act.put, List.setIfInBounds_toArray, List.set_cons_zero, List.set_cons_succ]
  have s1 : KS w [(nb1, #[.int .i64 0, .int .i64 0], 48), (w.heap.size, #[.int .i64 n, .int .i64 d], 36)] w1 := by have h := hM; rw [HBS.out] at h; exact h
  clear hS hM HBS KZ0 KZ1 KF0 KF1 K0_0 K0_1 Y0 Y1 Y2 Y3
  obtain ⟨kb1_0, kb1_1, _⟩ := (s1.blkAt 0 rfl).c2
  obtain ⟨kb0_0, kb0_1, _⟩ := (s1.blkAt 1 rfl).c2
  have S1 := Lib.hid s1
  clear s1
  obtain ⟨a0, a1, a2, a3⟩ := HX.out
  replace a0 := a0 _ _ S1.out
  replace a1 := a1 _ _ S1.out
  replace a2 := a2 _ _ S1.out
  replace a3 := a3 _ _ S1.out
  refine HK.out _ _ ?_
  conv => arg 2; whnf
  go_wp2_with fail
  refine (C22.out _).mono ?_
  rintro e w2 ⟨rfl, h2⟩
  clear kb1_0 kb1_1 kb0_0 kb0_1
  have s2 := S1.out.below h2
  obtain ⟨kb1_0, kb1_1, _⟩ := (s2.blkAt 0 rfl).c2
  obtain ⟨kb0_0, kb0_1, _⟩ := (s2.blkAt 1 rfl).c2
  have S2 := Lib.hid s2
  clear h2 s2
  clear a0 a1 a2 a3
  go_wp2_with fail
  refine (C33.out _).mono ?_
  rintro e w3 ⟨rfl, h3⟩
  clear kb1_0 kb1_1 kb0_0 kb0_1
  have s3 := S2.out.below h3
  obtain ⟨kb1_0, kb1_1, _⟩ := (s3.blkAt 0 rfl).c2
  obtain ⟨kb0_0, kb0_1, _⟩ := (s3.blkAt 1 rfl).c2
  have S3 := Lib.hid s3
  clear h3 s3
  go_wp2_with fail
  obtain ⟨BS, hBS⟩ : ∃ BS : List (Nat × Array Value × TypeId), BS = [(nb1, #[.int .i64 0, .int .i64 0], 48), (w.heap.size, #[.int .i64 n, .int .i64 d], 36)] := ⟨_, rfl⟩
  have hS : KS w BS w3 := by rw [hBS]; exact S3.out
  have K0_0 : ∀ W, KS w BS W → W.cell? ⟨nb1, 0, none⟩ = some (.int .i64 0) := fun W h => by rw [hBS] at h; exact (h.blkAt 0 rfl).cell 0
  have K0_1 : ∀ W, KS w BS W → W.cell? ⟨nb1, 1, none⟩ = some (.int .i64 0) := fun W h => by rw [hBS] at h; exact (h.blkAt 0 rfl).cell 1
  have K1_0 : ∀ W, KS w BS W → W.cell? ⟨w.heap.size, 0, none⟩ = some (.int .i64 n) := fun W h => by rw [hBS] at h; exact (h.blkAt 1 rfl).cell 0
  have K1_1 : ∀ W, KS w BS W → W.cell? ⟨w.heap.size, 1, none⟩ = some (.int .i64 d) := fun W h => by rw [hBS] at h; exact (h.blkAt 1 rfl).cell 1
  have KZ0 : ∀ W b, KZ w BS b #[.int .i64 0, .int .i64 0] 54 W → W.cell? ⟨b, 0, none⟩ = some (.int .i64 0) := fun W b h => h.c0
  have KZ1 : ∀ W b, KZ w BS b #[.int .i64 0, .int .i64 0] 54 W → W.cell? ⟨b, 1, none⟩ = some (.int .i64 0) := fun W b h => h.c1
  have KF0 : ∀ W b, KZ w BS b #[.int .i64 0, .int .i64 0] 54 W → W.frozen? ⟨b, 0, none⟩ = false := fun W b h => h.f 0
  have KF1 : ∀ W b, KZ w BS b #[.int .i64 0, .int .i64 0] 54 W → W.frozen? ⟨b, 1, none⟩ = false := fun W b h => h.f 1
  have Y0 : ∀ W, KS w BS W → W.cell? ⟨g, o, none⟩ = some (.int .i64 L) := fun W h => HX.out.1 W _ h
  have Y1 : ∀ W, KS w BS W → W.cell? ⟨g, o + 1, none⟩ = some (.int .i64 M) := fun W h => HX.out.2.1 W _ h
  have Y2 : ∀ W, KS w BS W → W.cell? ⟨g, o + 2, none⟩ = some (.int .i64 S) := fun W h => HX.out.2.2.1 W _ h
  have Y3 : ∀ W, KS w BS W → W.cell? ⟨g, o + 3, none⟩ = some (.int .i64 F) := fun W h => HX.out.2.2.2 W _ h
  have HBS := Lib.hid hBS
  clear hBS kb1_0 kb1_1 kb0_0 kb0_1
  refine wp_join (f := fun a b => ((((((((((a.put (some 140) (.slice (some ⟨g, o, none⟩) k cap)).put (some 141) (.pointer (some ⟨g, o, none⟩))).put (some 142) (.agg #[.int .i64 L, .int .i64 M, .int .i64 S, .int .i64 F])).put (some 143) (.agg #[.int .i64 n, .int .i64 d])).put (some 144) (.tuple #[.agg #[.int .i64 99, .int .i64 (-1)], .bool false])).put (some 139) (.tuple #[.agg #[.int .i64 99, .int .i64 (-1)], .bool false])).put (some 145) (.agg #[.int .i64 99, .int .i64 (-1)])).put (some 146) (.bool false)).put (some 16) (.bool false)).put (some 15) (.pointer (some ⟨b, 0, none⟩)))) (mid := fun b W' => KS w ((b, #[.int .i64 99, .int .i64 (-1)], 54) :: BS) W') ?_ ?_
  · go_region_held3 (KS w BS)
      (first | assumption | exact KS.drew (by assumption) | exact KS.alloc (by assumption) _ | exact KS.drew (KS.alloc (by assumption) _) | exact KS.alloc (KS.drew (by assumption)) _ | exact KZ.ks (by assumption) | exact (KZ.new (by assumption) _ _).ks | exact KZ.keep2 (by assumption) | exact (KZ.keep2 (by assumption)).drew | exact (KZ.drew (by assumption)).keep2 | go_keep)
      (first | (go_at_call 34; (with_reducible refine (C34.out _).mono ?_); rintro e wn ⟨rfl, hb⟩; have hSn := KS.below (w := w) (bs := BS) (by first | assumption | exact KS.drew (by assumption)) hb; (first | (have hZ := KZ.below (w := w) (bs := BS) (cs := #[.int .i64 0, .int .i64 0]) (t := 54) (by assumption) hb) | (have hZ := KZ.below (w := w) (bs := BS) (KZ.new (by assumption) #[.int .i64 0, .int .i64 0] 54) hb) | (have hZ := KZ.below (w := w) (bs := BS) (KZ.newD (by assumption) #[.int .i64 0, .int .i64 0] 54) hb) | skip); clear hb))
    all_goals first | exact ⟨rfl, _, rfl, KS.new (by assumption) _ _⟩ | exact ⟨rfl, _, rfl, KZ.set2 (by assumption)⟩ | exact ⟨rfl, _, rfl, KZ.set2D (by assumption)⟩ | exact ⟨rfl, _, rfl, (KZ.set2 (by assumption)).drew⟩
  intro nb4 w4 hM
  simp only [Act.put, List.setIfInBounds_toArray, List.set_cons_zero, List.set_cons_succ]
  have s4 : KS w [(nb4, #[.int .i64 99, .int .i64 (-1)], 54), (nb1, #[.int .i64 0, .int .i64 0], 48), (w.heap.size, #[.int .i64 n, .int .i64 d], 36)] w4 := by have h := hM; rw [HBS.out] at h; exact h
  clear hS hM HBS KZ0 KZ1 KF0 KF1 K0_0 K0_1 K1_0 K1_1 Y0 Y1 Y2 Y3
  obtain ⟨kb2_0, kb2_1, _⟩ := (s4.blkAt 0 rfl).c2
  obtain ⟨kb1_0, kb1_1, _⟩ := (s4.blkAt 1 rfl).c2
  obtain ⟨kb0_0, kb0_1, _⟩ := (s4.blkAt 2 rfl).c2
  have S4 := Lib.hid s4
  clear s4
  go_wp2_with (first | (go_at_call 24; (with_reducible refine (awake_any _).mono ?_); rintro e w99 ⟨rfl, h99⟩; have S99 := Lib.hid (S4.out.below h99); clear h99))
  go_ret
  exact ⟨rfl, S99.out.bel⟩

set_option maxRecDepth 100000 in
set_option maxHeartbeats 8000000 in
theorem tot_restR (g o cap k : Nat) (L M S F n d : Nat) (w W : World) (y4 y5 y6 y7 y8 y9 y10 y11 y12 y13 y14 y15 y16 y17 y18 y19 y20 y21 y22 y23 y24 y25 y26 y27 y28 y29 y30 y31 y32 y33 y34 y35 y36 y37 y38 y39 y40 y41 y42 y43 y44 y45 y46 y47 y48 y49 y50 y51 y52 y53 y54 y55 y56 y57 y58 y59 y60 y61 y62 y63 y64 y65 y66 y67 y68 y69 y70 y71 y72 y73 y74 y75 y76 y77 y78 y79 y80 y81 y82 y83 y84 y85 y86 y87 y88 y89 y90 y91 y92 y93 y94 y95 y96 y97 y98 : Value) (K : Act → World → Prop)
    (hK : ∀ a W', Code.wp Try.prog (dropSeq 13 (Try.f5.body.getD .skip)) (tRest w) a W' → K a W')
    (hk0 : 0 < k) (hlt : g < w.heap.size) (hx : AreasAt w g o [⟨L, M, S, F⟩]) (h : okA L M S F) (hl : levB n d = true) (lo hi : Nat) (hr : rangeOf L M S F n d = some (lo, hi)) (hS0 : KS w [(w.heap.size, #[.int .i64 n, .int .i64 d], 36)] W) :
    Code.wp Try.prog (headSeq (dropSeq 12 (Try.f5.body.getD .skip))) (Exit.then K (tRest w)) { tmps := #[.slice (some ⟨g, o, none⟩) k cap, fracV n d, undef, .pointer (some ⟨w.heap.size, 0, none⟩), y4, y5, y6, y7, y8, y9, y10, y11, y12, y13, y14, y15, y16, y17, y18, y19, y20, y21, y22, y23, y24, y25, y26, y27, y28, y29, y30, y31, y32, y33, y34, y35, y36, y37, y38, y39, y40, y41, y42, y43, y44, y45, y46, y47, y48, y49, y50, y51, y52, y53, y54, y55, y56, y57, y58, y59, y60, y61, y62, y63, y64, y65, y66, y67, y68, y69, y70, y71, y72, y73, y74, y75, y76, y77, y78, y79, y80, y81, y82, y83, y84, y85, y86, y87, y88, y89, y90, y91, y92, y93, y94, y95, y96, y97, y98, undef, undef, undef, undef, undef, undef, undef, undef, undef, undef, undef, undef, undef, undef, undef, undef, undef, undef, undef, undef, undef, undef, undef, undef, undef, undef, undef, undef, undef, undef, undef, undef, undef, undef, undef, undef, undef, undef, undef, undef, undef, undef, undef, undef, undef, undef, undef, undef, undef, undef, undef, undef, undef, undef, undef, undef, undef, undef, undef, undef, undef, undef, undef, undef, undef, undef, undef, undef, undef, undef, undef], defers := [] } W := by
  have C36 : Hid (∀ w, Calls Try.prog 36 #[areaV L M S F, fracV n d] w fun e w' => e = .returned (.tuple #[rangeV lo hi, .int .i64 0]) ∧ Below w.heap.size w w') := Lib.hid (fun w => by
    have C := Missed_any L M S F n d w
    unfold TotalPost at C
    rw [totRes_one h hl, hr] at C
    exact C)
  have C22 := Lib.hid (fun w => fault_any L M S F w)
  rw [show faultI L M S F = 0 by simp [faultI, h.b]] at C22
  have C33 := Lib.hid (fun w => rIsLevel_any n d w)
  rw [hl] at C33
  have C34 := Lib.hid (fun w => rMissed_any h n d (lev_of hl).1 (lev_of hl).2.1 (lev_of hl).2.2 w)
  rw [hr] at C34
  clear h hl hr
  obtain ⟨k0, k1, k2, k3⟩ := hx 0 _ rfl
  simp only [Nat.zero_mul, Nat.add_zero] at k0 k1 k2 k3
  have X0 : ∀ W (bs : List (Nat × Array Value × TypeId)), KS w bs W → W.cell? ⟨g, o, none⟩ = some (.int .i64 L) := fun W bs h => (h.bel.cell (p := ⟨g, _, none⟩) hlt).trans k0
  have X1 : ∀ W (bs : List (Nat × Array Value × TypeId)), KS w bs W → W.cell? ⟨g, o + 1, none⟩ = some (.int .i64 M) := fun W bs h => (h.bel.cell (p := ⟨g, _, none⟩) hlt).trans k1
  have X2 : ∀ W (bs : List (Nat × Array Value × TypeId)), KS w bs W → W.cell? ⟨g, o + 2, none⟩ = some (.int .i64 S) := fun W bs h => (h.bel.cell (p := ⟨g, _, none⟩) hlt).trans k2
  have X3 : ∀ W (bs : List (Nat × Array Value × TypeId)), KS w bs W → W.cell? ⟨g, o + 3, none⟩ = some (.int .i64 F) := fun W bs h => (h.bel.cell (p := ⟨g, _, none⟩) hlt).trans k3
  have HX := Lib.hid (And.intro X0 (And.intro X1 (And.intro X2 X3)))
  have hk1 : decide ((0 : Int) < (k : Int)) = true := by simp; omega
  clear k0 k1 k2 k3 X0 X1 X2 X3 hx
  have HK := Lib.hid hK
  clear hK
  have S0 := Lib.hid hS0
  clear hS0
  conv => arg 2; whnf
  obtain ⟨BS, hBS⟩ : ∃ BS : List (Nat × Array Value × TypeId), BS = [(w.heap.size, #[.int .i64 n, .int .i64 d], 36)] := ⟨_, rfl⟩
  have hS : KS w BS W := by rw [hBS]; exact S0.out
  have K0_0 : ∀ W, KS w BS W → W.cell? ⟨w.heap.size, 0, none⟩ = some (.int .i64 n) := fun W h => by rw [hBS] at h; exact (h.blkAt 0 rfl).cell 0
  have K0_1 : ∀ W, KS w BS W → W.cell? ⟨w.heap.size, 1, none⟩ = some (.int .i64 d) := fun W h => by rw [hBS] at h; exact (h.blkAt 0 rfl).cell 1
  have KZ0 : ∀ W b, KZ w BS b #[.int .i64 0, .int .i64 0] 48 W → W.cell? ⟨b, 0, none⟩ = some (.int .i64 0) := fun W b h => h.c0
  have KZ1 : ∀ W b, KZ w BS b #[.int .i64 0, .int .i64 0] 48 W → W.cell? ⟨b, 1, none⟩ = some (.int .i64 0) := fun W b h => h.c1
  have KF0 : ∀ W b, KZ w BS b #[.int .i64 0, .int .i64 0] 48 W → W.frozen? ⟨b, 0, none⟩ = false := fun W b h => h.f 0
  have KF1 : ∀ W b, KZ w BS b #[.int .i64 0, .int .i64 0] 48 W → W.frozen? ⟨b, 1, none⟩ = false := fun W b h => h.f 1
  have Y0 : ∀ W, KS w BS W → W.cell? ⟨g, o, none⟩ = some (.int .i64 L) := fun W h => HX.out.1 W _ h
  have Y1 : ∀ W, KS w BS W → W.cell? ⟨g, o + 1, none⟩ = some (.int .i64 M) := fun W h => HX.out.2.1 W _ h
  have Y2 : ∀ W, KS w BS W → W.cell? ⟨g, o + 2, none⟩ = some (.int .i64 S) := fun W h => HX.out.2.2.1 W _ h
  have Y3 : ∀ W, KS w BS W → W.cell? ⟨g, o + 3, none⟩ = some (.int .i64 F) := fun W h => HX.out.2.2.2 W _ h
  have HBS := Lib.hid hBS
  clear hBS 
  refine wp_join (f := fun a b => ((((((((((((a.put (some 100) (.slice (some ⟨g, o, none⟩) k cap)).put (some 101) (.pointer (some ⟨g, o, none⟩))).put (some 102) (.agg #[.int .i64 L, .int .i64 M, .int .i64 S, .int .i64 F])).put (some 103) (.agg #[.int .i64 L, .int .i64 M, .int .i64 S, .int .i64 F])).put (some 104) (.agg #[.int .i64 n, .int .i64 d])).put (some 105) (.agg #[.int .i64 n, .int .i64 d])).put (some 106) (.tuple #[.agg #[.int .i64 lo, .int .i64 hi], .int .i64 0])).put (some 99) (.tuple #[.agg #[.int .i64 lo, .int .i64 hi], .int .i64 0])).put (some 107) (.agg #[.int .i64 lo, .int .i64 hi])).put (some 108) (.int .i64 0)).put (some 14) (.int .i64 0)).put (some 13) (.pointer (some ⟨b, 0, none⟩)))) (mid := fun b W' => KS w ((b, #[.int .i64 lo, .int .i64 hi], 48) :: BS) W') ?_ ?_
  · go_region_held3 (KS w BS)
      (first | assumption | exact KS.drew (by assumption) | exact KS.alloc (by assumption) _ | exact KS.drew (KS.alloc (by assumption) _) | exact KS.alloc (KS.drew (by assumption)) _ | exact KZ.ks (by assumption) | exact (KZ.new (by assumption) _ _).ks | exact KZ.keep2 (by assumption) | exact (KZ.keep2 (by assumption)).drew | exact (KZ.drew (by assumption)).keep2 | go_keep)
      (first | (go_at_call 20; (with_reducible refine (Area_any _ _ _ _ _).mono ?_); rintro e wn ⟨rfl, hb⟩; have hSn := KS.below (w := w) (bs := BS) (by first | assumption | exact KS.drew (by assumption)) hb; (first | (have hZ := KZ.below (w := w) (bs := BS) (cs := #[.int .i64 0, .int .i64 0]) (t := 48) (by assumption) hb) | (have hZ := KZ.below (w := w) (bs := BS) (KZ.new (by assumption) #[.int .i64 0, .int .i64 0] 48) hb) | (have hZ := KZ.below (w := w) (bs := BS) (KZ.newD (by assumption) #[.int .i64 0, .int .i64 0] 48) hb) | skip); clear hb) | (go_at_call 25; (with_reducible refine (part_any _ _ _).mono ?_); rintro e wn ⟨rfl, hb⟩; have hSn := KS.below (w := w) (bs := BS) (by first | assumption | exact KS.drew (by assumption)) hb; (first | (have hZ := KZ.below (w := w) (bs := BS) (cs := #[.int .i64 0, .int .i64 0]) (t := 48) (by assumption) hb) | (have hZ := KZ.below (w := w) (bs := BS) (KZ.new (by assumption) #[.int .i64 0, .int .i64 0] 48) hb) | (have hZ := KZ.below (w := w) (bs := BS) (KZ.newD (by assumption) #[.int .i64 0, .int .i64 0] 48) hb) | skip); clear hb) | (go_at_call 36; (with_reducible refine (C36.out _).mono ?_); rintro e wn ⟨rfl, hb⟩; have hSn := KS.below (w := w) (bs := BS) (by first | assumption | exact KS.drew (by assumption)) hb; (first | (have hZ := KZ.below (w := w) (bs := BS) (cs := #[.int .i64 0, .int .i64 0]) (t := 48) (by assumption) hb) | (have hZ := KZ.below (w := w) (bs := BS) (KZ.new (by assumption) #[.int .i64 0, .int .i64 0] 48) hb) | (have hZ := KZ.below (w := w) (bs := BS) (KZ.newD (by assumption) #[.int .i64 0, .int .i64 0] 48) hb) | skip); clear hb))
    all_goals first | exact ⟨rfl, _, rfl, KS.new (by assumption) _ _⟩ | exact ⟨rfl, _, rfl, KZ.set2 (by assumption)⟩ | exact ⟨rfl, _, rfl, KZ.set2D (by assumption)⟩ | exact ⟨rfl, _, rfl, (KZ.set2 (by assumption)).drew⟩
  intro nb1 w1 hM
  simp only [Act.put, List.setIfInBounds_toArray, List.set_cons_zero, List.set_cons_succ]
  have s1 : KS w [(nb1, #[.int .i64 lo, .int .i64 hi], 48), (w.heap.size, #[.int .i64 n, .int .i64 d], 36)] w1 := by have h := hM; rw [HBS.out] at h; exact h
  clear hS hM HBS KZ0 KZ1 KF0 KF1 K0_0 K0_1 Y0 Y1 Y2 Y3
  obtain ⟨kb1_0, kb1_1, _⟩ := (s1.blkAt 0 rfl).c2
  obtain ⟨kb0_0, kb0_1, _⟩ := (s1.blkAt 1 rfl).c2
  have S1 := Lib.hid s1
  clear s1
  obtain ⟨a0, a1, a2, a3⟩ := HX.out
  replace a0 := a0 _ _ S1.out
  replace a1 := a1 _ _ S1.out
  replace a2 := a2 _ _ S1.out
  replace a3 := a3 _ _ S1.out
  refine HK.out _ _ ?_
  conv => arg 2; whnf
  go_wp2_with fail
  refine (C22.out _).mono ?_
  rintro e w2 ⟨rfl, h2⟩
  clear kb1_0 kb1_1 kb0_0 kb0_1
  have s2 := S1.out.below h2
  obtain ⟨kb1_0, kb1_1, _⟩ := (s2.blkAt 0 rfl).c2
  obtain ⟨kb0_0, kb0_1, _⟩ := (s2.blkAt 1 rfl).c2
  have S2 := Lib.hid s2
  clear h2 s2
  clear a0 a1 a2 a3
  go_wp2_with fail
  refine (C33.out _).mono ?_
  rintro e w3 ⟨rfl, h3⟩
  clear kb1_0 kb1_1 kb0_0 kb0_1
  have s3 := S2.out.below h3
  obtain ⟨kb1_0, kb1_1, _⟩ := (s3.blkAt 0 rfl).c2
  obtain ⟨kb0_0, kb0_1, _⟩ := (s3.blkAt 1 rfl).c2
  have S3 := Lib.hid s3
  clear h3 s3
  go_wp2_with fail
  obtain ⟨BS, hBS⟩ : ∃ BS : List (Nat × Array Value × TypeId), BS = [(nb1, #[.int .i64 lo, .int .i64 hi], 48), (w.heap.size, #[.int .i64 n, .int .i64 d], 36)] := ⟨_, rfl⟩
  have hS : KS w BS w3 := by rw [hBS]; exact S3.out
  have K0_0 : ∀ W, KS w BS W → W.cell? ⟨nb1, 0, none⟩ = some (.int .i64 lo) := fun W h => by rw [hBS] at h; exact (h.blkAt 0 rfl).cell 0
  have K0_1 : ∀ W, KS w BS W → W.cell? ⟨nb1, 1, none⟩ = some (.int .i64 hi) := fun W h => by rw [hBS] at h; exact (h.blkAt 0 rfl).cell 1
  have K1_0 : ∀ W, KS w BS W → W.cell? ⟨w.heap.size, 0, none⟩ = some (.int .i64 n) := fun W h => by rw [hBS] at h; exact (h.blkAt 1 rfl).cell 0
  have K1_1 : ∀ W, KS w BS W → W.cell? ⟨w.heap.size, 1, none⟩ = some (.int .i64 d) := fun W h => by rw [hBS] at h; exact (h.blkAt 1 rfl).cell 1
  have KZ0 : ∀ W b, KZ w BS b #[.int .i64 0, .int .i64 0] 54 W → W.cell? ⟨b, 0, none⟩ = some (.int .i64 0) := fun W b h => h.c0
  have KZ1 : ∀ W b, KZ w BS b #[.int .i64 0, .int .i64 0] 54 W → W.cell? ⟨b, 1, none⟩ = some (.int .i64 0) := fun W b h => h.c1
  have KF0 : ∀ W b, KZ w BS b #[.int .i64 0, .int .i64 0] 54 W → W.frozen? ⟨b, 0, none⟩ = false := fun W b h => h.f 0
  have KF1 : ∀ W b, KZ w BS b #[.int .i64 0, .int .i64 0] 54 W → W.frozen? ⟨b, 1, none⟩ = false := fun W b h => h.f 1
  have Y0 : ∀ W, KS w BS W → W.cell? ⟨g, o, none⟩ = some (.int .i64 L) := fun W h => HX.out.1 W _ h
  have Y1 : ∀ W, KS w BS W → W.cell? ⟨g, o + 1, none⟩ = some (.int .i64 M) := fun W h => HX.out.2.1 W _ h
  have Y2 : ∀ W, KS w BS W → W.cell? ⟨g, o + 2, none⟩ = some (.int .i64 S) := fun W h => HX.out.2.2.1 W _ h
  have Y3 : ∀ W, KS w BS W → W.cell? ⟨g, o + 3, none⟩ = some (.int .i64 F) := fun W h => HX.out.2.2.2 W _ h
  have HBS := Lib.hid hBS
  clear hBS kb1_0 kb1_1 kb0_0 kb0_1
  refine wp_join (f := fun a b => ((((((((((a.put (some 140) (.slice (some ⟨g, o, none⟩) k cap)).put (some 141) (.pointer (some ⟨g, o, none⟩))).put (some 142) (.agg #[.int .i64 L, .int .i64 M, .int .i64 S, .int .i64 F])).put (some 143) (.agg #[.int .i64 n, .int .i64 d])).put (some 144) (.tuple #[.agg #[.int .i64 lo, .int .i64 hi], .bool true])).put (some 139) (.tuple #[.agg #[.int .i64 lo, .int .i64 hi], .bool true])).put (some 145) (.agg #[.int .i64 lo, .int .i64 hi])).put (some 146) (.bool true)).put (some 16) (.bool true)).put (some 15) (.pointer (some ⟨b, 0, none⟩)))) (mid := fun b W' => KS w ((b, #[.int .i64 lo, .int .i64 hi], 54) :: BS) W') ?_ ?_
  · go_region_held3 (KS w BS)
      (first | assumption | exact KS.drew (by assumption) | exact KS.alloc (by assumption) _ | exact KS.drew (KS.alloc (by assumption) _) | exact KS.alloc (KS.drew (by assumption)) _ | exact KZ.ks (by assumption) | exact (KZ.new (by assumption) _ _).ks | exact KZ.keep2 (by assumption) | exact (KZ.keep2 (by assumption)).drew | exact (KZ.drew (by assumption)).keep2 | go_keep)
      (first | (go_at_call 34; (with_reducible refine (C34.out _).mono ?_); rintro e wn ⟨rfl, hb⟩; have hSn := KS.below (w := w) (bs := BS) (by first | assumption | exact KS.drew (by assumption)) hb; (first | (have hZ := KZ.below (w := w) (bs := BS) (cs := #[.int .i64 0, .int .i64 0]) (t := 54) (by assumption) hb) | (have hZ := KZ.below (w := w) (bs := BS) (KZ.new (by assumption) #[.int .i64 0, .int .i64 0] 54) hb) | (have hZ := KZ.below (w := w) (bs := BS) (KZ.newD (by assumption) #[.int .i64 0, .int .i64 0] 54) hb) | skip); clear hb))
    all_goals first | exact ⟨rfl, _, rfl, KS.new (by assumption) _ _⟩ | exact ⟨rfl, _, rfl, KZ.set2 (by assumption)⟩ | exact ⟨rfl, _, rfl, KZ.set2D (by assumption)⟩ | exact ⟨rfl, _, rfl, (KZ.set2 (by assumption)).drew⟩
  intro nb4 w4 hM
  simp only [Act.put, List.setIfInBounds_toArray, List.set_cons_zero, List.set_cons_succ]
  have s4 : KS w [(nb4, #[.int .i64 lo, .int .i64 hi], 54), (nb1, #[.int .i64 lo, .int .i64 hi], 48), (w.heap.size, #[.int .i64 n, .int .i64 d], 36)] w4 := by have h := hM; rw [HBS.out] at h; exact h
  clear hS hM HBS KZ0 KZ1 KF0 KF1 K0_0 K0_1 K1_0 K1_1 Y0 Y1 Y2 Y3
  obtain ⟨kb2_0, kb2_1, _⟩ := (s4.blkAt 0 rfl).c2
  obtain ⟨kb1_0, kb1_1, _⟩ := (s4.blkAt 1 rfl).c2
  obtain ⟨kb0_0, kb0_1, _⟩ := (s4.blkAt 2 rfl).c2
  have S4 := Lib.hid s4
  clear s4
  go_wp2_with fail
  obtain ⟨BS, hBS⟩ : ∃ BS : List (Nat × Array Value × TypeId), BS = [(nb4, #[.int .i64 lo, .int .i64 hi], 54), (nb1, #[.int .i64 lo, .int .i64 hi], 48), (w.heap.size, #[.int .i64 n, .int .i64 d], 36)] := ⟨_, rfl⟩
  have hS : KS w BS w4 := by rw [hBS]; exact S4.out
  have K0_0 : ∀ W, KS w BS W → W.cell? ⟨nb4, 0, none⟩ = some (.int .i64 lo) := fun W h => by rw [hBS] at h; exact (h.blkAt 0 rfl).cell 0
  have K0_1 : ∀ W, KS w BS W → W.cell? ⟨nb4, 1, none⟩ = some (.int .i64 hi) := fun W h => by rw [hBS] at h; exact (h.blkAt 0 rfl).cell 1
  have K1_0 : ∀ W, KS w BS W → W.cell? ⟨nb1, 0, none⟩ = some (.int .i64 lo) := fun W h => by rw [hBS] at h; exact (h.blkAt 1 rfl).cell 0
  have K1_1 : ∀ W, KS w BS W → W.cell? ⟨nb1, 1, none⟩ = some (.int .i64 hi) := fun W h => by rw [hBS] at h; exact (h.blkAt 1 rfl).cell 1
  have K2_0 : ∀ W, KS w BS W → W.cell? ⟨w.heap.size, 0, none⟩ = some (.int .i64 n) := fun W h => by rw [hBS] at h; exact (h.blkAt 2 rfl).cell 0
  have K2_1 : ∀ W, KS w BS W → W.cell? ⟨w.heap.size, 1, none⟩ = some (.int .i64 d) := fun W h => by rw [hBS] at h; exact (h.blkAt 2 rfl).cell 1
  have HBS := Lib.hid hBS
  clear hBS kb2_0 kb2_1 kb1_0 kb1_1 kb0_0 kb0_1
  go_region_held3 (KS w BS)
    (first | assumption | exact KS.drew (by assumption) | exact KS.alloc (by assumption) _ | exact KS.drew (KS.alloc (by assumption) _) | exact KS.alloc (KS.drew (by assumption)) _ | go_keep)
    (first | (go_at_call 35; (with_reducible refine (to_any _ _ _).mono ?_); rintro e wn ⟨rfl, hb⟩; have hSn := KS.below (by first | assumption | exact KS.drew (by assumption)) hb; clear hb) | (go_at_call 24; (with_reducible refine (awake_any _).mono ?_); rintro e wn ⟨rfl, hb⟩; have hSn := KS.below (by first | assumption | exact KS.drew (by assumption)) hb; clear hb))
  all_goals
    go_wp2_with fail
    go_ret
    first | exact ⟨rfl, KS.bel (w := w) (bs := BS) (by assumption)⟩ | exact ⟨rfl, (KS.drew (w := w) (bs := BS) (by assumption)).bel⟩

end Go.Proofs.Ytkfobnhnehbkeaa
