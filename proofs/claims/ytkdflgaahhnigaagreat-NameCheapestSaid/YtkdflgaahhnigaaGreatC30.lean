/- Aligned: an alignment by words. -/
import Derived.Test.YtkdflgaahhnigaaGreatC22
import Derived.Lib.BufferWrite
set_option linter.unusedVariables false
set_option linter.unusedSimpArgs false
namespace Go.Proofs.YtkdflgaahhnigaaGreat
open Go.RowKit Go.Shelf

theorem ws_both {R : RB} (hg : Good R) {x y : ByteArray} {s : List (Int × Int)} {i k : Nat} (h : ∃ t, t ≤ 100 * s.length ∧ WS R x y s = some (i, k, t)) (hi : i < x.size) (hk : k < y.size) : ∃ t, t ≤ 100 * (s.length + 1) ∧ WS R x y (s ++ [((i : Int), (k : Int))]) = some (i + 1, k + 1, t) := by
  obtain ⟨t, hb, h⟩ := h
  unfold WS at *
  refine ⟨t + SWR R x y i k, by have := SWR_le hg x y i k; omega, ?_⟩
  rw [Nm.walkS_snoc, h]
  show Nm.step1 _ _ _ _ _ (i, k, t) _ = _
  unfold Nm.step1
  rw [if_pos ⟨rfl, rfl, hi, hk⟩]
theorem ws_first {R : RB} (hg : Good R) {x y : ByteArray} {s : List (Int × Int)} {i k : Nat} (h : ∃ t, t ≤ 100 * s.length ∧ WS R x y s = some (i, k, t)) (hi : i < x.size) : ∃ t, t ≤ 100 * (s.length + 1) ∧ WS R x y (s ++ [((i : Int), (-1 : Int))]) = some (i + 1, k, t) := by
  obtain ⟨t, hb, h⟩ := h
  unfold WS at *
  refine ⟨t + SAR R x i, by have := SAR_le hg x i; omega, ?_⟩
  rw [Nm.walkS_snoc, h]
  show Nm.step1 _ _ _ _ _ (i, k, t) _ = _
  unfold Nm.step1
  rw [if_neg (fun h => by have h2 : (-1 : Int) = (k : Int) := h.2.1; omega), if_pos ⟨rfl, rfl, hi⟩]
theorem ws_second {R : RB} (hg : Good R) {x y : ByteArray} {s : List (Int × Int)} {i k : Nat} (h : ∃ t, t ≤ 100 * s.length ∧ WS R x y s = some (i, k, t)) (hk : k < y.size) : ∃ t, t ≤ 100 * (s.length + 1) ∧ WS R x y (s ++ [((-1 : Int), (k : Int))]) = some (i, k + 1, t) := by
  obtain ⟨t, hb, h⟩ := h
  unfold WS at *
  refine ⟨t + SAR R y k, by have := SAR_le hg y k; omega, ?_⟩
  rw [Nm.walkS_snoc, h]
  show Nm.step1 _ _ _ _ _ (i, k, t) _ = _
  unfold Nm.step1
  rw [if_neg (fun h => by have h2 : (-1 : Int) = (i : Int) := h.1; omega), if_neg (fun h => by have h2 : (-1 : Int) = (i : Int) := h.1; omega), if_pos ⟨rfl, rfl, hk⟩]
/-- so far -/
def AdR (w : World) (x y : ByteArray) (i k : Nat) (s : List (Int × Int)) (v : Value) (W : World) : Prop := W.ownsRow w.heap.size 124 2 v s.length (stepsV s) ∧ (∀ R, Good R → ∃ t, t ≤ 100 * s.length ∧ WS R x y s = some (i, k, t)) ∧ s.length ≤ i + k ∧ Below w.heap.size w W
theorem AdR.app {w W W' : World} {x y : ByteArray} {i' k' : Nat} {s : List (Int × Int)} {v v' : Value} {st : Int × Int} (h1 : ∀ R, Good R → ∃ t, t ≤ 100 * (s.length + 1) ∧ WS R x y (s ++ [st]) = some (i', k', t)) (h2 : s.length + 1 ≤ i' + k') (hr : W.ownsRow w.heap.size 124 2 v s.length (stepsV s)) (hb : Below w.heap.size w W) (hg : W.grownBy W' v.ownBlock) (hv : W'.ownsRow w.heap.size 124 2 v' (s.length + 1) (stepsV s ++ [.int .i64 st.1, .int .i64 st.2])) : AdR w x y i' k' (s ++ [st]) v' W' := by
  refine ⟨by rw [stepsV_snoc, List.length_append]; exact hv, by rw [List.length_append]; exact h1, by rw [List.length_append]; exact h2, hb.grown hg hb.size (fun r e => (hr.lt r e).1)⟩
def AdP (w : World) (x y : ByteArray) (e : Ending) (w' : World) : Prop := ∃ (v : Value) (s : List (Int × Int)), e = .returned v ∧ AdR w x y x.size y.size s v w'
set_option maxRecDepth 100000 in
set_option maxHeartbeats 8000000 in
theorem Aligned47 (x y : ByteArray) (hx : x.size ≤ 12) (hy : y.size ≤ 12) (a : Option Addr) (g o c m : Nat) (l : List Nat) (w : World) (h : U16K w a g o m l) (hm : m ≤ 9223372036854775807) : Calls Tryz.prog 47 #[.string x, .string y, .slice a m c] w (AdP w x y) := by
  have CN := Lib.hid (fun W n (hW : Below w.heap.size w W) (hn : n ≤ 1000000) => word79 a g o c m l n W (h.below hW) hm hn)
  obtain ⟨i0, hi0, hz0, hz1, hz2⟩ := info_parts tInfo124
  have HI := Lib.hid (And.intro hi0 (And.intro hz0 (And.intro hz1 hz2)))
  have HP := Lib.hid (show AdP w x y = fun e w' => ∃ (v : Value) (s : List (Int × Int)), e = .returned v ∧ AdR w x y x.size y.size s v w' from rfl)
  clear hi0 hz0 hz1 hz2 h hm
  go_enter Tryz.func47, Tryz.ntmps47
  go_wp2_with fail
  go_loopw [7, 8, 9, 10] (fun y7 y8 y9 y10 wr => ∃ (i k n : Nat) (s : List (Int × Int)), i ≤ x.size ∧ k ≤ y.size ∧ n ≤ i + k ∧ y8 = .int .i64 (i : Int) ∧ y9 = .int .i64 (k : Int) ∧ y10 = .int .i64 (n : Int) ∧ Hid (AdR w x y i k s y7 wr)) (fun _ y8 y9 _ _ => x.size + y.size - ((intOf y8).toNat + (intOf y9).toNat))
  case atStart => exact ⟨0, 0, 0, [], Nat.zero_le _, Nat.zero_le _, Nat.le_refl _, rfl, rfl, rfl, World.ownsRow_nil _ _ _ _, fun R _ => ⟨0, Nat.zero_le _, rfl⟩, Nat.le_refl _, Below.refl _ _⟩
  case round =>
    obtain ⟨i, k, n, s, hi, hk, hn, rfl, rfl, rfl, H⟩ := hrel
    have hlen := H.out.2.2.1
    have p0 : (0 : Int) ≤ (i : Int) := by omega
    have p00 : (0 : Int) ≤ (k : Int) := by omega
    have pn : IntKind.i64.wrap ((n : Int) + 1) = (n : Int) + 1 := IntWalk.i64_in _ (by omega)
    obtain ⟨wn, hwn⟩ : ∃ u, u = wordN l n := ⟨_, rfl⟩
    have CW := Lib.hid (fun W (hW : Below w.heap.size w W) => CN.out W n hW (by omega))
    rw [← hwn] at CW
    obtain ⟨r, hr⟩ : ∃ u, u = wn % 4 := ⟨_, rfl⟩
    have hr4 : r < 4 := by omega
    have erem : (wn : Int).tmod 4 = (r : Int) := by rw [hr]; exact (Int.ofNat_tmod wn 4).symm
    have erem2 : (wn : Int) % 4 = (r : Int) := by rw [hr]; exact (Int.natCast_emod wn 4).symm
    have er : IntKind.i64.wrap (r : Int) = (r : Int) := IntWalk.i64_in _ (by omega)
    clear hwn hr
    by_cases hki : k < y.size
    · have pk : (k : Int) < (y.size : Int) := by omega
      have qk : ((k : Int) == (y.size : Int)) = false := by rw [beq_eq_false_iff_ne]; omega
      by_cases hii : i < x.size
      · have pi : (i : Int) < (x.size : Int) := by omega
        have qi : ((i : Int) == (x.size : Int)) = false := by rw [beq_eq_false_iff_ne]; omega
        by_cases hr2 : r = 2
        · have q2 : ((r : Int) == 2) = true := by rw [beq_iff_eq]; omega
          have HWS := Lib.hid (fun R (hg : Good R) => ws_first hg (H.out.2.1 R hg) (by omega))
          have hjj : i + 1 ≤ x.size ∧ k ≤ y.size := by omega
          have HQ := Lib.hid hjj
          have ei : IntKind.i64.wrap ((i : Int) + 1) = (i : Int) + 1 := IntWalk.i64_in _ (by omega)
          have ek : IntKind.i64.wrap ((k : Int) + 1) = (k : Int) + 1 := IntWalk.i64_in _ (by omega)
          clear hjj hki hii hr2
          go_wp2_with (first | (go_at_call 79; (refine (CW.out _ (H.out.2.2.2.alloc H.out.2.2.2.size _)).mono ?_); rintro e w2 ⟨rfl, hw⟩; have hb2 := Blk.new wr #[.int .i64 i, .int .i64 k] 124; have hr2 := H.out.1.alloc (.cells #[.int .i64 i, .int .i64 k] 124); have hl2 := H.out.2.2.2.alloc H.out.2.2.2.size (.cells #[.int .i64 i, .int .i64 k] 124); have sz2 : wr.heap.size < w2.heap.size := (by rw [hw]; simp); rw [← hw] at hb2 hr2 hl2; have B2 := Lib.hid hb2; have R2 := Lib.hid hr2; have L2 := Lib.hid hl2; obtain ⟨z0, z1, z2, z3⟩ := hb2.c2; obtain ⟨y0, y1, y2, y3⟩ := (hb2.set 1 (.int .i64 (-1))).c2; have R3 := Lib.hid (show World.ownsRow (w2.setCell ⟨wr.heap.size, 1, none⟩ (.int .i64 (-1))) w.heap.size 124 2 _ s.length (stepsV s) from R2.out.kept (Lib.grownBy_setCell _ _ _ _) (by refine .inr (fun e => ?_); have := (H.out.1.lt _ e).2; omega)); have L3 := Lib.hid (show Below w.heap.size w (w2.setCell ⟨wr.heap.size, 1, none⟩ (.int .i64 (-1))) from L2.out.setCell (by have := H.out.2.2.2.size; exact this) _); have nb := Blk.new (w2.setCell ⟨wr.heap.size, 1, none⟩ (.int .i64 (-1))) #[.int .i64 (i : Int), .int .i64 (-1 : Int)] 124; rw [World.size_setCell] at nb; have NB := Lib.hid nb; clear nb; clear hb2 hr2 hl2 hw) | (at_builtin; refine Hid.out ?_))
          refine Lib.hid ?_
          refine wpList_append_own _ rfl _ _ 73 rfl w.heap.size 124 i0 _ 2 16 Tryz.underlying73 HI.out.1 HI.out.2.1 HI.out.2.2.1 HI.out.2.2.2 rfl (by decide) _ _ _ rfl (R3.out.alloc _) ⟨w2.heap.size, 0, none⟩ 1 1 [.int .i64 (i : Int), .int .i64 (-1 : Int)] rfl rfl (news_two (NB.out.cell 0) (NB.out.cell 1)) (by simp [Value.oneCell']) (by unfold maxLen; omega) (by omega) (by have := L3.out.size; exact Nat.le_trans this (by simp)) ?_
          intro v' w5 hown hgrow _
          have h5 := AdR.app HWS.out (by omega) (R3.out.alloc _) (L3.out.alloc L3.out.size _) hgrow hown
          have H5 := Lib.hid h5
          clear hown hgrow h5
          go_wp2_with fail
          go_roundw
          case rel => exact ⟨i + 1, k, n + 1, _, HQ.out.1, HQ.out.2, by omega, by go_num, by rfl, by go_num, H5.out⟩
          case measure => simp [intOf]; omega
        · have q2 : ((r : Int) == 2) = false := by rw [beq_eq_false_iff_ne]; omega
          by_cases hr3 : r = 3
          · have q3 : ((r : Int) == 3) = true := by rw [beq_iff_eq]; omega
            have HWS := Lib.hid (fun R (hg : Good R) => ws_second hg (H.out.2.1 R hg) (by omega))
            have hjj : i ≤ x.size ∧ k + 1 ≤ y.size := by omega
            have HQ := Lib.hid hjj
            have ei : IntKind.i64.wrap ((i : Int) + 1) = (i : Int) + 1 := IntWalk.i64_in _ (by omega)
            have ek : IntKind.i64.wrap ((k : Int) + 1) = (k : Int) + 1 := IntWalk.i64_in _ (by omega)
            clear hjj hki hii hr2 hr3
            go_wp2_with (first | (go_at_call 79; (refine (CW.out _ (H.out.2.2.2.alloc H.out.2.2.2.size _)).mono ?_); rintro e w2 ⟨rfl, hw⟩; have hb2 := Blk.new wr #[.int .i64 i, .int .i64 k] 124; have hr2 := H.out.1.alloc (.cells #[.int .i64 i, .int .i64 k] 124); have hl2 := H.out.2.2.2.alloc H.out.2.2.2.size (.cells #[.int .i64 i, .int .i64 k] 124); have sz2 : wr.heap.size < w2.heap.size := (by rw [hw]; simp); rw [← hw] at hb2 hr2 hl2; have B2 := Lib.hid hb2; have R2 := Lib.hid hr2; have L2 := Lib.hid hl2; obtain ⟨z0, z1, z2, z3⟩ := hb2.c2; obtain ⟨y0, y1, y2, y3⟩ := (hb2.set 0 (.int .i64 (-1))).c2; have R3 := Lib.hid (show World.ownsRow (w2.setCell ⟨wr.heap.size, 0, none⟩ (.int .i64 (-1))) w.heap.size 124 2 _ s.length (stepsV s) from R2.out.kept (Lib.grownBy_setCell _ _ _ _) (by refine .inr (fun e => ?_); have := (H.out.1.lt _ e).2; omega)); have L3 := Lib.hid (show Below w.heap.size w (w2.setCell ⟨wr.heap.size, 0, none⟩ (.int .i64 (-1))) from L2.out.setCell (by have := H.out.2.2.2.size; exact this) _); have nb := Blk.new (w2.setCell ⟨wr.heap.size, 0, none⟩ (.int .i64 (-1))) #[.int .i64 (-1 : Int), .int .i64 (k : Int)] 124; rw [World.size_setCell] at nb; have NB := Lib.hid nb; clear nb; clear hb2 hr2 hl2 hw) | (at_builtin; refine Hid.out ?_))
            refine Lib.hid ?_
            refine wpList_append_own _ rfl _ _ 73 rfl w.heap.size 124 i0 _ 2 16 Tryz.underlying73 HI.out.1 HI.out.2.1 HI.out.2.2.1 HI.out.2.2.2 rfl (by decide) _ _ _ rfl (R3.out.alloc _) ⟨w2.heap.size, 0, none⟩ 1 1 [.int .i64 (-1 : Int), .int .i64 (k : Int)] rfl rfl (news_two (NB.out.cell 0) (NB.out.cell 1)) (by simp [Value.oneCell']) (by unfold maxLen; omega) (by omega) (by have := L3.out.size; exact Nat.le_trans this (by simp)) ?_
            intro v' w5 hown hgrow _
            have h5 := AdR.app HWS.out (by omega) (R3.out.alloc _) (L3.out.alloc L3.out.size _) hgrow hown
            have H5 := Lib.hid h5
            clear hown hgrow h5
            go_wp2_with fail
            go_roundw
            case rel => exact ⟨i, k + 1, n + 1, _, HQ.out.1, HQ.out.2, by omega, by rfl, by go_num, by go_num, H5.out⟩
            case measure => simp [intOf]; omega
          · have q3 : ((r : Int) == 3) = false := by rw [beq_eq_false_iff_ne]; omega
            have HWS := Lib.hid (fun R (hg : Good R) => ws_both hg (H.out.2.1 R hg) (by omega) (by omega))
            have hjj : i + 1 ≤ x.size ∧ k + 1 ≤ y.size := by omega
            have HQ := Lib.hid hjj
            have ei : IntKind.i64.wrap ((i : Int) + 1) = (i : Int) + 1 := IntWalk.i64_in _ (by omega)
            have ek : IntKind.i64.wrap ((k : Int) + 1) = (k : Int) + 1 := IntWalk.i64_in _ (by omega)
            clear hjj hki hii hr2 hr3
            go_wp2_with (first | (go_at_call 79; (refine (CW.out _ (H.out.2.2.2.alloc H.out.2.2.2.size _)).mono ?_); rintro e w2 ⟨rfl, hw⟩; have hb2 := Blk.new wr #[.int .i64 i, .int .i64 k] 124; have hr2 := H.out.1.alloc (.cells #[.int .i64 i, .int .i64 k] 124); have hl2 := H.out.2.2.2.alloc H.out.2.2.2.size (.cells #[.int .i64 i, .int .i64 k] 124); have sz2 : wr.heap.size < w2.heap.size := (by rw [hw]; simp); rw [← hw] at hb2 hr2 hl2; have B2 := Lib.hid hb2; have R2 := Lib.hid hr2; have L2 := Lib.hid hl2; obtain ⟨z0, z1, z2, z3⟩ := hb2.c2; have R3 := R2; have L3 := L2; have NB := Lib.hid (Blk.new w2 #[.int .i64 (i : Int), .int .i64 (k : Int)] 124); clear hb2 hr2 hl2 hw) | (at_builtin; refine Hid.out ?_))
            refine Lib.hid ?_
            refine wpList_append_own _ rfl _ _ 73 rfl w.heap.size 124 i0 _ 2 16 Tryz.underlying73 HI.out.1 HI.out.2.1 HI.out.2.2.1 HI.out.2.2.2 rfl (by decide) _ _ _ rfl (R3.out.alloc _) ⟨w2.heap.size, 0, none⟩ 1 1 [.int .i64 (i : Int), .int .i64 (k : Int)] rfl rfl (news_two (NB.out.cell 0) (NB.out.cell 1)) (by simp [Value.oneCell']) (by unfold maxLen; omega) (by omega) (by have := L3.out.size; exact Nat.le_trans this (by simp)) ?_
            intro v' w5 hown hgrow _
            have h5 := AdR.app HWS.out (by omega) (R3.out.alloc _) (L3.out.alloc L3.out.size _) hgrow hown
            have H5 := Lib.hid h5
            clear hown hgrow h5
            go_wp2_with fail
            go_roundw
            case rel => exact ⟨i + 1, k + 1, n + 1, _, HQ.out.1, HQ.out.2, by omega, by go_num, by go_num, by go_num, H5.out⟩
            case measure => simp [intOf]; omega
      · have pi : ¬ (i : Int) < (x.size : Int) := by omega
        have qi : ((i : Int) == (x.size : Int)) = true := by rw [beq_iff_eq]; omega
        by_cases hr2 : r = 2
        · have q2 : ((r : Int) == 2) = true := by rw [beq_iff_eq]; omega
          have HWS := Lib.hid (fun R (hg : Good R) => ws_second hg (H.out.2.1 R hg) (by omega))
          have hjj : i ≤ x.size ∧ k + 1 ≤ y.size := by omega
          have HQ := Lib.hid hjj
          have ei : IntKind.i64.wrap ((i : Int) + 1) = (i : Int) + 1 := IntWalk.i64_in _ (by omega)
          have ek : IntKind.i64.wrap ((k : Int) + 1) = (k : Int) + 1 := IntWalk.i64_in _ (by omega)
          clear hjj hki hii hr2
          go_wp2_with (first | (go_at_call 79; (refine (CW.out _ (H.out.2.2.2.alloc H.out.2.2.2.size _)).mono ?_); rintro e w2 ⟨rfl, hw⟩; have hb2 := Blk.new wr #[.int .i64 i, .int .i64 k] 124; have hr2 := H.out.1.alloc (.cells #[.int .i64 i, .int .i64 k] 124); have hl2 := H.out.2.2.2.alloc H.out.2.2.2.size (.cells #[.int .i64 i, .int .i64 k] 124); have sz2 : wr.heap.size < w2.heap.size := (by rw [hw]; simp); rw [← hw] at hb2 hr2 hl2; have B2 := Lib.hid hb2; have R2 := Lib.hid hr2; have L2 := Lib.hid hl2; obtain ⟨z0, z1, z2, z3⟩ := hb2.c2; obtain ⟨y0, y1, y2, y3⟩ := (hb2.set 0 (.int .i64 (-1))).c2; have R3 := Lib.hid (show World.ownsRow (w2.setCell ⟨wr.heap.size, 0, none⟩ (.int .i64 (-1))) w.heap.size 124 2 _ s.length (stepsV s) from R2.out.kept (Lib.grownBy_setCell _ _ _ _) (by refine .inr (fun e => ?_); have := (H.out.1.lt _ e).2; omega)); have L3 := Lib.hid (show Below w.heap.size w (w2.setCell ⟨wr.heap.size, 0, none⟩ (.int .i64 (-1))) from L2.out.setCell (by have := H.out.2.2.2.size; exact this) _); have nb := Blk.new (w2.setCell ⟨wr.heap.size, 0, none⟩ (.int .i64 (-1))) #[.int .i64 (-1 : Int), .int .i64 (k : Int)] 124; rw [World.size_setCell] at nb; have NB := Lib.hid nb; clear nb; clear hb2 hr2 hl2 hw) | (at_builtin; refine Hid.out ?_))
          refine Lib.hid ?_
          refine wpList_append_own _ rfl _ _ 73 rfl w.heap.size 124 i0 _ 2 16 Tryz.underlying73 HI.out.1 HI.out.2.1 HI.out.2.2.1 HI.out.2.2.2 rfl (by decide) _ _ _ rfl (R3.out.alloc _) ⟨w2.heap.size, 0, none⟩ 1 1 [.int .i64 (-1 : Int), .int .i64 (k : Int)] rfl rfl (news_two (NB.out.cell 0) (NB.out.cell 1)) (by simp [Value.oneCell']) (by unfold maxLen; omega) (by omega) (by have := L3.out.size; exact Nat.le_trans this (by simp)) ?_
          intro v' w5 hown hgrow _
          have h5 := AdR.app HWS.out (by omega) (R3.out.alloc _) (L3.out.alloc L3.out.size _) hgrow hown
          have H5 := Lib.hid h5
          clear hown hgrow h5
          go_wp2_with fail
          go_roundw
          case rel => exact ⟨i, k + 1, n + 1, _, HQ.out.1, HQ.out.2, by omega, by rfl, by go_num, by go_num, H5.out⟩
          case measure => simp [intOf]; omega
        · have q2 : ((r : Int) == 2) = false := by rw [beq_eq_false_iff_ne]; omega
          have HWS := Lib.hid (fun R (hg : Good R) => ws_second hg (H.out.2.1 R hg) (by omega))
          have hjj : i ≤ x.size ∧ k + 1 ≤ y.size := by omega
          have HQ := Lib.hid hjj
          have ei : IntKind.i64.wrap ((i : Int) + 1) = (i : Int) + 1 := IntWalk.i64_in _ (by omega)
          have ek : IntKind.i64.wrap ((k : Int) + 1) = (k : Int) + 1 := IntWalk.i64_in _ (by omega)
          clear hjj hki hii hr2
          go_wp2_with (first | (go_at_call 79; (refine (CW.out _ (H.out.2.2.2.alloc H.out.2.2.2.size _)).mono ?_); rintro e w2 ⟨rfl, hw⟩; have hb2 := Blk.new wr #[.int .i64 i, .int .i64 k] 124; have hr2 := H.out.1.alloc (.cells #[.int .i64 i, .int .i64 k] 124); have hl2 := H.out.2.2.2.alloc H.out.2.2.2.size (.cells #[.int .i64 i, .int .i64 k] 124); have sz2 : wr.heap.size < w2.heap.size := (by rw [hw]; simp); rw [← hw] at hb2 hr2 hl2; have B2 := Lib.hid hb2; have R2 := Lib.hid hr2; have L2 := Lib.hid hl2; obtain ⟨z0, z1, z2, z3⟩ := hb2.c2; obtain ⟨y0, y1, y2, y3⟩ := (hb2.set 0 (.int .i64 (-1))).c2; have R3 := Lib.hid (show World.ownsRow (w2.setCell ⟨wr.heap.size, 0, none⟩ (.int .i64 (-1))) w.heap.size 124 2 _ s.length (stepsV s) from R2.out.kept (Lib.grownBy_setCell _ _ _ _) (by refine .inr (fun e => ?_); have := (H.out.1.lt _ e).2; omega)); have L3 := Lib.hid (show Below w.heap.size w (w2.setCell ⟨wr.heap.size, 0, none⟩ (.int .i64 (-1))) from L2.out.setCell (by have := H.out.2.2.2.size; exact this) _); have nb := Blk.new (w2.setCell ⟨wr.heap.size, 0, none⟩ (.int .i64 (-1))) #[.int .i64 (-1 : Int), .int .i64 (k : Int)] 124; rw [World.size_setCell] at nb; have NB := Lib.hid nb; clear nb; clear hb2 hr2 hl2 hw) | (at_builtin; refine Hid.out ?_))
          refine Lib.hid ?_
          refine wpList_append_own _ rfl _ _ 73 rfl w.heap.size 124 i0 _ 2 16 Tryz.underlying73 HI.out.1 HI.out.2.1 HI.out.2.2.1 HI.out.2.2.2 rfl (by decide) _ _ _ rfl (R3.out.alloc _) ⟨w2.heap.size, 0, none⟩ 1 1 [.int .i64 (-1 : Int), .int .i64 (k : Int)] rfl rfl (news_two (NB.out.cell 0) (NB.out.cell 1)) (by simp [Value.oneCell']) (by unfold maxLen; omega) (by omega) (by have := L3.out.size; exact Nat.le_trans this (by simp)) ?_
          intro v' w5 hown hgrow _
          have h5 := AdR.app HWS.out (by omega) (R3.out.alloc _) (L3.out.alloc L3.out.size _) hgrow hown
          have H5 := Lib.hid h5
          clear hown hgrow h5
          go_wp2_with fail
          go_roundw
          case rel => exact ⟨i, k + 1, n + 1, _, HQ.out.1, HQ.out.2, by omega, by rfl, by go_num, by go_num, H5.out⟩
          case measure => simp [intOf]; omega
    · have pk : ¬ (k : Int) < (y.size : Int) := by omega
      have qk : ((k : Int) == (y.size : Int)) = true := by rw [beq_iff_eq]; omega
      by_cases hii : i < x.size
      · have pi : (i : Int) < (x.size : Int) := by omega
        have qi : ((i : Int) == (x.size : Int)) = false := by rw [beq_eq_false_iff_ne]; omega
        have HWS := Lib.hid (fun R (hg : Good R) => ws_first hg (H.out.2.1 R hg) (by omega))
        have hjj : i + 1 ≤ x.size ∧ k ≤ y.size := by omega
        have HQ := Lib.hid hjj
        have ei : IntKind.i64.wrap ((i : Int) + 1) = (i : Int) + 1 := IntWalk.i64_in _ (by omega)
        have ek : IntKind.i64.wrap ((k : Int) + 1) = (k : Int) + 1 := IntWalk.i64_in _ (by omega)
        clear hjj hki hii
        go_wp2_with (first | (go_at_call 79; (refine (CW.out _ (H.out.2.2.2.alloc H.out.2.2.2.size _)).mono ?_); rintro e w2 ⟨rfl, hw⟩; have hb2 := Blk.new wr #[.int .i64 i, .int .i64 k] 124; have hr2 := H.out.1.alloc (.cells #[.int .i64 i, .int .i64 k] 124); have hl2 := H.out.2.2.2.alloc H.out.2.2.2.size (.cells #[.int .i64 i, .int .i64 k] 124); have sz2 : wr.heap.size < w2.heap.size := (by rw [hw]; simp); rw [← hw] at hb2 hr2 hl2; have B2 := Lib.hid hb2; have R2 := Lib.hid hr2; have L2 := Lib.hid hl2; obtain ⟨z0, z1, z2, z3⟩ := hb2.c2; obtain ⟨y0, y1, y2, y3⟩ := (hb2.set 1 (.int .i64 (-1))).c2; have R3 := Lib.hid (show World.ownsRow (w2.setCell ⟨wr.heap.size, 1, none⟩ (.int .i64 (-1))) w.heap.size 124 2 _ s.length (stepsV s) from R2.out.kept (Lib.grownBy_setCell _ _ _ _) (by refine .inr (fun e => ?_); have := (H.out.1.lt _ e).2; omega)); have L3 := Lib.hid (show Below w.heap.size w (w2.setCell ⟨wr.heap.size, 1, none⟩ (.int .i64 (-1))) from L2.out.setCell (by have := H.out.2.2.2.size; exact this) _); have nb := Blk.new (w2.setCell ⟨wr.heap.size, 1, none⟩ (.int .i64 (-1))) #[.int .i64 (i : Int), .int .i64 (-1 : Int)] 124; rw [World.size_setCell] at nb; have NB := Lib.hid nb; clear nb; clear hb2 hr2 hl2 hw) | (at_builtin; refine Hid.out ?_))
        refine Lib.hid ?_
        refine wpList_append_own _ rfl _ _ 73 rfl w.heap.size 124 i0 _ 2 16 Tryz.underlying73 HI.out.1 HI.out.2.1 HI.out.2.2.1 HI.out.2.2.2 rfl (by decide) _ _ _ rfl (R3.out.alloc _) ⟨w2.heap.size, 0, none⟩ 1 1 [.int .i64 (i : Int), .int .i64 (-1 : Int)] rfl rfl (news_two (NB.out.cell 0) (NB.out.cell 1)) (by simp [Value.oneCell']) (by unfold maxLen; omega) (by omega) (by have := L3.out.size; exact Nat.le_trans this (by simp)) ?_
        intro v' w5 hown hgrow _
        have h5 := AdR.app HWS.out (by omega) (R3.out.alloc _) (L3.out.alloc L3.out.size _) hgrow hown
        have H5 := Lib.hid h5
        clear hown hgrow h5
        go_wp2_with fail
        go_roundw
        case rel => exact ⟨i + 1, k, n + 1, _, HQ.out.1, HQ.out.2, by omega, by go_num, by rfl, by go_num, H5.out⟩
        case measure => simp [intOf]; omega
      · have pi : ¬ (i : Int) < (x.size : Int) := by omega
        have qi : ((i : Int) == (x.size : Int)) = true := by rw [beq_iff_eq]; omega
        obtain rfl : i = x.size := by omega
        obtain rfl : k = y.size := by omega
        clear hki hii
        go_wp2_with fail
        go_ret
        rw [HP.out]
        exact ⟨_, s, rfl, H.out⟩
end Go.Proofs.YtkdflgaahhnigaaGreat
