/- Texts of package name, for this seat. -/
import Derived.Test.YtkdflgaahhnigaaC2
import Derived.Maps.OwnOps
import Derived.DeepKeys4
import Derived.Test.YtkdflgaahhnigaaCmt
import Derived.RangeFuncBox
import Derived.RangeFuncNested
import Derived.RangeFuncLeaves
import Derived.RangeFuncCalls
import Derived.Shelf.RegionOpen
import Derived.OwnWalkIn
import Derived.TacticsInMore
import Derived.LoopNIn
import Derived.LoopIn
import Derived.Maps.AppendAt
import Derived.OrdersIn
import Derived.OrdersHeld
import Derived.Deep.RegionHeld
set_option linter.unusedVariables false
set_option linter.unusedSimpArgs false
namespace Go.Proofs.Ytkdflgaahhnigaa
open Go.RowKit Go.Shelf

theorem u8_sub (b : UInt8) (h : isL b = true) : IntKind.u8.wrap ((b.toNat : Int) - 65) = ((b.toNat - 65 : Nat) : Int) ∧ b.toNat - 65 < 26 ∧ 65 ≤ b.toNat := by
  simp only [isL, decide_eq_true_eq] at h
  refine ⟨?_, by omega, h.1⟩
  have e : (2 : Int) ^ IntKind.u8.bits = 256 := rfl
  have e2 : IntKind.u8.signed = false := rfl
  simp only [IntKind.wrap, e, e2, Bool.false_and, Bool.false_eq_true, if_false]
  omega
set_option maxRecDepth 100000 in
set_option maxHeartbeats 1000000 in
theorem both_eq (d : Nat) (a : Option Addr) (n c : Nat) (s : ByteArray) (al ot sk ss db : Int) (x y : ByteArray) (sn : UInt8 → UInt8) (mb : Nat) (w : World) (hD : Duel w d a n c s al ot sk ss db x y sn mb) (i j : Nat) (hi : i < x.size) (hj : j < y.size) (hx : x.size ≤ 1000) (hy : y.size ≤ 1000) (hxl : isL x[i] = true) (hyl : isL y[j] = true) (he : x[i] = y[j]) :
    Calls Try.prog 49 #[.pointer (some ⟨d, 0, none⟩), cellV i j] w fun e w' => e = .returned (.tuple #[.agg #[.int .i64 i, .int .i64 j], .int .i64 0, .bool true]) ∧ Below w.heap.size w w' := by
  have t1 : ((i : Int) == (x.size : Int)) = false := by simp; omega
  have t2 : ((j : Int) == (y.size : Int)) = false := by simp; omega
  have i1 : (i : Int) < (x.size : Int) := by omega
  have j1 : (j : Int) < (y.size : Int) := by omega
  have hlt := hD.lt
  have hqx := hD.x
  have hqy := hD.y
  have hsx := hD.sn x[i] hxl
  have hsy := hD.sn y[j] hyl
  obtain ⟨ux, ux2, ux3⟩ := u8_sub x[i] hxl
  obtain ⟨uy, uy2, uy3⟩ := u8_sub y[j] hyl
  have t3 : (((x[i].toNat : Nat) : Int) == ((y[j].toNat : Nat) : Int)) = true := by rw [he]; simp
  clear he hsx hsy ux ux2 ux3 uy uy2 uy3
  have s0 := (KS.start w).new #[.int .i64 i, .int .i64 j] 53
  have z0 := KZ.new s0 #[.int .i64 0, .int .i64 0] 41
  rw [World.size_alloc] at z0
  have Z0 := Lib.hid z0
  clear s0 z0
  have HD := Lib.hid hD
  clear hD hxl hyl
  go_enter Try.func49, Try.ntmps49
  go_wp2_with fail
  go_quiet (fail)
  go_wp2_with fail
  have Z1 : Hid (KZ w [(w.heap.size, #[.int .i64 i, .int .i64 j], 53)] (w.heap.size + 1) #[.int .i64 0, .int .i64 0] 41 (((w.alloc (.cells #[.int .i64 i, .int .i64 j] 53)).alloc (.cells #[.int .i64 0, .int .i64 0] 41)).drewN nq)) := Lib.hid ⟨Z0.out.1.drewN _, Z0.out.2⟩
  have L1 := Lib.hid Z0.out.2.1.lt
  clear Z0
  generalize (((w.alloc (.cells #[.int .i64 i, .int .i64 j] 53)).alloc (.cells #[.int .i64 0, .int .i64 0] 41)).drewN nq) = V at *
  generalize hzb : w.heap.size + 1 = zb at *
  have HZB := Lib.hid hzb
  clear hzb
  obtain ⟨BS, hBS⟩ : ∃ BS : List (Nat × Array Value × TypeId), BS = [(zb, #[.int .i64 0, .int .i64 0], 41), (w.heap.size, #[.int .i64 i, .int .i64 j], 53)] := ⟨_, rfl⟩
  have hS : KS w BS V := by rw [hBS]; exact Z1.out.all
  have K1_0 : ∀ W, KS w BS W → W.cell? ⟨w.heap.size, 0, none⟩ = some (.int .i64 i) := fun W h => by rw [hBS] at h; exact (h.blkAt 1 rfl).cell 0
  have K1_1 : ∀ W, KS w BS W → W.cell? ⟨w.heap.size, 1, none⟩ = some (.int .i64 j) := fun W h => by rw [hBS] at h; exact (h.blkAt 1 rfl).cell 1
  have Dx : ∀ W, KS w BS W → W.cell? ⟨d, 7, none⟩ = some (.string x) := fun W h => (h.bel.cell (p := ⟨d, _, none⟩) HD.out.lt).trans HD.out.x
  have Dy : ∀ W, KS w BS W → W.cell? ⟨d, 8, none⟩ = some (.string y) := fun W h => (h.bel.cell (p := ⟨d, _, none⟩) HD.out.lt).trans HD.out.y
  have KZ0 : ∀ W b, KZ w BS b #[.int .i64 0, .int .i64 0] 41 W → W.cell? ⟨b, 0, none⟩ = some (.int .i64 0) := fun W b h => h.c0
  have KF0 : ∀ W b, KZ w BS b #[.int .i64 0, .int .i64 0] 41 W → W.frozen? ⟨b, 0, none⟩ = false := fun W b h => h.f 0
  have KZ1 : ∀ W b, KZ w BS b #[.int .i64 0, .int .i64 0] 41 W → W.cell? ⟨b, 1, none⟩ = some (.int .i64 0) := fun W b h => h.c1
  have KF1 : ∀ W b, KZ w BS b #[.int .i64 0, .int .i64 0] 41 W → W.frozen? ⟨b, 1, none⟩ = false := fun W b h => h.f 1
  have HBS := Lib.hid hBS
  clear hBS hqx hqy
  refine wp_joinG (ι := Nat) (f := fun aa bb => ((((((((((((((((((((((aa.put (some 29) (.pointer (some ⟨d, 0, none⟩))).put (some 30) (.pointer (some ⟨d, 0, none⟩))).put (some 31) (.pointer (some ⟨d, 7, none⟩))).put (some 32) (.string x)).put (some 33) (.pointer (some ⟨w.heap.size, 0, none⟩))).put (some 34) (.int .i64 i)).put (some 35) (.int .u8 (x[i].toNat : Int))).put (some 36) (.pointer (some ⟨d, 0, none⟩))).put (some 37) (.pointer (some ⟨d, 0, none⟩))).put (some 38) (.pointer (some ⟨d, 8, none⟩))).put (some 39) (.string y)).put (some 40) (.pointer (some ⟨w.heap.size, 1, none⟩))).put (some 41) (.int .i64 j)).put (some 42) (.int .u8 (y[j].toNat : Int))).put (some 43) (.pointer (some ⟨w.heap.size, 0, none⟩))).put (some 44) (.int .i64 i)).put (some 45) (.pointer (some ⟨w.heap.size, 1, none⟩))).put (some 46) (.int .i64 j)).put (some 47) (.agg #[.int .i64 i, .int .i64 j])).put (some 7) (.int .u8 (x[i].toNat : Int))).put (some 8) (.int .u8 (y[j].toNat : Int))).put (some 9) (.pointer (some ⟨bb, 0, none⟩)))) (mid := fun bb W' => KZ w BS bb #[.int .i64 i, .int .i64 j] 41 W') ?_ ?_
  · go_region_held3 (KS w BS)
      (first | assumption | exact KS.drew (by assumption) | exact KS.alloc (by assumption) _ | exact KS.drew (KS.alloc (by assumption) _) | exact KS.alloc (KS.drew (by assumption)) _ | exact KZ.ks (by assumption) | exact (KZ.new (by assumption) _ _).ks | exact KZ.keep2 (by assumption) | exact (KZ.keep2 (by assumption)).drew | exact (KZ.drew (by assumption)).keep2 | go_keep)
      (first | fail)
    all_goals first | exact ⟨rfl, _, rfl, KZ.new (by assumption) _ _⟩ | exact ⟨rfl, _, rfl, KZ.newD (by assumption) _ _⟩ | exact ⟨rfl, _, rfl, KZ.put2 (by assumption)⟩ | exact ⟨rfl, _, rfl, KZ.put2D (by assumption)⟩ | exact ⟨rfl, _, rfl, (KZ.put2 (by assumption)).drew⟩ | exact ⟨rfl, _, rfl, (KZ.put2D (by assumption)).drew⟩
  intro nb w1 hM
  simp only [Act.put, List.setIfInBounds_toArray, List.set_cons_zero, List.set_cons_succ]
  clear hS KZ0 KZ1 KF0 KF1 K1_0 K1_1 Dx Dy
  have hK : KZ w [(nb, #[.int .i64 i, .int .i64 j], 41), (w.heap.size, #[.int .i64 i, .int .i64 j], 53)] zb #[.int .i64 0, .int .i64 0] 41 w1 := by
    have h := hM
    rw [HBS.out] at h
    refine ⟨h.all.sub (fun x hx => by simp at hx ⊢; rcases hx with h | h <;> simp [h]), h.1.blkAt 0 rfl, fun x hx => ?_, by rw [← HZB.out]; omega⟩
    simp at hx
    rcases hx with rfl | rfl
    · exact fun e => h.2.2.1 (zb, #[.int .i64 0, .int .i64 0], 41) (by simp) e.symm
    · show w.heap.size ≠ zb
      rw [← HZB.out]; omega
  have HK := Lib.hid hK
  have ZG := Lib.hid hK.2.2.2
  obtain ⟨n0, n1, _, _⟩ := (hK.1.blkAt 0 rfl).c2
  obtain ⟨z0, z1, f0, f1⟩ := hK.2.1.c2
  clear hM hK
  go_wp2_with fail
  have HE := HK.out.put2 (x' := .int .i64 i) (y' := .int .i64 j)
  obtain ⟨e0, e1, _, _⟩ := HE.2.1.c2
  refine bodyPost_ret (v := .tuple #[.agg #[.int .i64 i, .int .i64 j], .int .i64 0, .bool true]) (by simp [results, Try.results49, go_sem, e0, e1]) rfl ⟨rfl, ?_⟩
  exact HE.1.bel
set_option maxRecDepth 100000 in
set_option maxHeartbeats 1000000 in
theorem both_alike (d : Nat) (a : Option Addr) (n c : Nat) (s : ByteArray) (al ot sk ss db : Int) (x y : ByteArray) (sn : UInt8 → UInt8) (mb : Nat) (w : World) (hD : Duel w d a n c s al ot sk ss db x y sn mb) (i j : Nat) (hi : i < x.size) (hj : j < y.size) (hx : x.size ≤ 1000) (hy : y.size ≤ 1000) (hxl : isL x[i] = true) (hyl : isL y[j] = true) (he : x[i] ≠ y[j]) (ha : sn x[i] = sn y[j]) :
    Calls Try.prog 49 #[.pointer (some ⟨d, 0, none⟩), cellV i j] w fun e w' => e = .returned (.tuple #[.agg #[.int .i64 i, .int .i64 j], .int .i64 al, .bool true]) ∧ Below w.heap.size w w' := by
  have t1 : ((i : Int) == (x.size : Int)) = false := by simp; omega
  have t2 : ((j : Int) == (y.size : Int)) = false := by simp; omega
  have i1 : (i : Int) < (x.size : Int) := by omega
  have j1 : (j : Int) < (y.size : Int) := by omega
  have hlt := hD.lt
  have hqx := hD.x
  have hqy := hD.y
  have hsx := hD.sn x[i] hxl
  have hsy := hD.sn y[j] hyl
  obtain ⟨ux, ux2, ux3⟩ := u8_sub x[i] hxl
  obtain ⟨uy, uy2, uy3⟩ := u8_sub y[j] hyl
  have t3 : (((x[i].toNat : Nat) : Int) == ((y[j].toNat : Nat) : Int)) = false := by
    rw [beq_eq_false_iff_ne]; intro e; exact he (UInt8.toNat_inj.1 (by omega))
  have t4 : (((sn x[i]).toNat : Int) == ((sn y[j]).toNat : Int)) = true := by
    rw [ha]; simp
  clear he ha
  have s0 := (KS.start w).new #[.int .i64 i, .int .i64 j] 53
  have z0 := KZ.new s0 #[.int .i64 0, .int .i64 0] 41
  rw [World.size_alloc] at z0
  have Z0 := Lib.hid z0
  clear s0 z0
  have HD := Lib.hid hD
  clear hD hxl hyl
  have HSX := Lib.hid hsx
  have HSY := Lib.hid hsy
  clear hsx hsy
  go_enter Try.func49, Try.ntmps49
  go_wp2_with fail
  go_quiet (fail)
  go_wp2_with fail
  have Z1 : Hid (KZ w [(w.heap.size, #[.int .i64 i, .int .i64 j], 53)] (w.heap.size + 1) #[.int .i64 0, .int .i64 0] 41 (((w.alloc (.cells #[.int .i64 i, .int .i64 j] 53)).alloc (.cells #[.int .i64 0, .int .i64 0] 41)).drewN nq)) := Lib.hid ⟨Z0.out.1.drewN _, Z0.out.2⟩
  have L1 := Lib.hid Z0.out.2.1.lt
  clear Z0
  generalize (((w.alloc (.cells #[.int .i64 i, .int .i64 j] 53)).alloc (.cells #[.int .i64 0, .int .i64 0] 41)).drewN nq) = V at *
  generalize hzb : w.heap.size + 1 = zb at *
  have HZB := Lib.hid hzb
  clear hzb
  obtain ⟨BS, hBS⟩ : ∃ BS : List (Nat × Array Value × TypeId), BS = [(zb, #[.int .i64 0, .int .i64 0], 41), (w.heap.size, #[.int .i64 i, .int .i64 j], 53)] := ⟨_, rfl⟩
  have hS : KS w BS V := by rw [hBS]; exact Z1.out.all
  have K1_0 : ∀ W, KS w BS W → W.cell? ⟨w.heap.size, 0, none⟩ = some (.int .i64 i) := fun W h => by rw [hBS] at h; exact (h.blkAt 1 rfl).cell 0
  have K1_1 : ∀ W, KS w BS W → W.cell? ⟨w.heap.size, 1, none⟩ = some (.int .i64 j) := fun W h => by rw [hBS] at h; exact (h.blkAt 1 rfl).cell 1
  have Dx : ∀ W, KS w BS W → W.cell? ⟨d, 7, none⟩ = some (.string x) := fun W h => (h.bel.cell (p := ⟨d, _, none⟩) HD.out.lt).trans HD.out.x
  have Dy : ∀ W, KS w BS W → W.cell? ⟨d, 8, none⟩ = some (.string y) := fun W h => (h.bel.cell (p := ⟨d, _, none⟩) HD.out.lt).trans HD.out.y
  have KZ0 : ∀ W b, KZ w BS b #[.int .i64 0, .int .i64 0] 41 W → W.cell? ⟨b, 0, none⟩ = some (.int .i64 0) := fun W b h => h.c0
  have KF0 : ∀ W b, KZ w BS b #[.int .i64 0, .int .i64 0] 41 W → W.frozen? ⟨b, 0, none⟩ = false := fun W b h => h.f 0
  have KZ1 : ∀ W b, KZ w BS b #[.int .i64 0, .int .i64 0] 41 W → W.cell? ⟨b, 1, none⟩ = some (.int .i64 0) := fun W b h => h.c1
  have KF1 : ∀ W b, KZ w BS b #[.int .i64 0, .int .i64 0] 41 W → W.frozen? ⟨b, 1, none⟩ = false := fun W b h => h.f 1
  have HBS := Lib.hid hBS
  clear hBS hqx hqy
  refine wp_joinG (ι := Nat) (f := fun aa bb => ((((((((((((((((((((((aa.put (some 29) (.pointer (some ⟨d, 0, none⟩))).put (some 30) (.pointer (some ⟨d, 0, none⟩))).put (some 31) (.pointer (some ⟨d, 7, none⟩))).put (some 32) (.string x)).put (some 33) (.pointer (some ⟨w.heap.size, 0, none⟩))).put (some 34) (.int .i64 i)).put (some 35) (.int .u8 (x[i].toNat : Int))).put (some 36) (.pointer (some ⟨d, 0, none⟩))).put (some 37) (.pointer (some ⟨d, 0, none⟩))).put (some 38) (.pointer (some ⟨d, 8, none⟩))).put (some 39) (.string y)).put (some 40) (.pointer (some ⟨w.heap.size, 1, none⟩))).put (some 41) (.int .i64 j)).put (some 42) (.int .u8 (y[j].toNat : Int))).put (some 43) (.pointer (some ⟨w.heap.size, 0, none⟩))).put (some 44) (.int .i64 i)).put (some 45) (.pointer (some ⟨w.heap.size, 1, none⟩))).put (some 46) (.int .i64 j)).put (some 47) (.agg #[.int .i64 i, .int .i64 j])).put (some 7) (.int .u8 (x[i].toNat : Int))).put (some 8) (.int .u8 (y[j].toNat : Int))).put (some 9) (.pointer (some ⟨bb, 0, none⟩)))) (mid := fun bb W' => KZ w BS bb #[.int .i64 i, .int .i64 j] 41 W') ?_ ?_
  · go_region_held3 (KS w BS)
      (first | assumption | exact KS.drew (by assumption) | exact KS.alloc (by assumption) _ | exact KS.drew (KS.alloc (by assumption) _) | exact KS.alloc (KS.drew (by assumption)) _ | exact KZ.ks (by assumption) | exact (KZ.new (by assumption) _ _).ks | exact KZ.keep2 (by assumption) | exact (KZ.keep2 (by assumption)).drew | exact (KZ.drew (by assumption)).keep2 | go_keep)
      (first | fail)
    all_goals first | exact ⟨rfl, _, rfl, KZ.new (by assumption) _ _⟩ | exact ⟨rfl, _, rfl, KZ.newD (by assumption) _ _⟩ | exact ⟨rfl, _, rfl, KZ.put2 (by assumption)⟩ | exact ⟨rfl, _, rfl, KZ.put2D (by assumption)⟩ | exact ⟨rfl, _, rfl, (KZ.put2 (by assumption)).drew⟩ | exact ⟨rfl, _, rfl, (KZ.put2D (by assumption)).drew⟩
  intro nb w1 hM
  simp only [Act.put, List.setIfInBounds_toArray, List.set_cons_zero, List.set_cons_succ]
  clear hS KZ0 KZ1 KF0 KF1 K1_0 K1_1 Dx Dy
  have hK : KZ w [(nb, #[.int .i64 i, .int .i64 j], 41), (w.heap.size, #[.int .i64 i, .int .i64 j], 53)] zb #[.int .i64 0, .int .i64 0] 41 w1 := by
    have h := hM
    rw [HBS.out] at h
    refine ⟨h.all.sub (fun x hx => by simp at hx ⊢; rcases hx with h | h <;> simp [h]), h.1.blkAt 0 rfl, fun x hx => ?_, by rw [← HZB.out]; omega⟩
    simp at hx
    rcases hx with rfl | rfl
    · exact fun e => h.2.2.1 (zb, #[.int .i64 0, .int .i64 0], 41) (by simp) e.symm
    · show w.heap.size ≠ zb
      rw [← HZB.out]; omega
  have HK := Lib.hid hK
  have ZG := Lib.hid hK.2.2.2
  obtain ⟨n0, n1, _, _⟩ := (hK.1.blkAt 0 rfl).c2
  obtain ⟨z0, z1, f0, f1⟩ := hK.2.1.c2
  clear hM hK
  have hl1 : d < w1.heap.size := Nat.lt_of_lt_of_le HD.out.lt HK.out.1.size
  have hsx := (HK.out.1.bel.cell (p := ⟨d, _, none⟩) HD.out.lt).trans HSX.out
  have hsy := (HK.out.1.bel.cell (p := ⟨d, _, none⟩) HD.out.lt).trans HSY.out
  go_wp2_with fail
  go_quiet (fail)
  go_wp2_with fail
  have Z2 : Hid (KZ w [(nb, #[.int .i64 i, .int .i64 j], 41), (w.heap.size, #[.int .i64 i, .int .i64 j], 53)] zb #[.int .i64 0, .int .i64 0] 41 (w1.drewN nq)) := Lib.hid (HK.out.drewN _)
  clear n0 n1 z0 z1 f0 f1 hl1 hsx hsy HK
  generalize w1.drewN nq = V2 at *
  clear HBS
  obtain ⟨BS, hBS⟩ : ∃ BS : List (Nat × Array Value × TypeId), BS = [(nb, #[.int .i64 i, .int .i64 j], 41), (w.heap.size, #[.int .i64 i, .int .i64 j], 53)] := ⟨_, rfl⟩
  have hZ : KZ w BS zb #[.int .i64 0, .int .i64 0] 41 V2 := by rw [hBS]; exact Z2.out
  have hS : KS w BS V2 := hZ.ks
  have K0_0 : ∀ W, KS w BS W → W.cell? ⟨nb, 0, none⟩ = some (.int .i64 i) := fun W h => by rw [hBS] at h; exact (h.blkAt 0 rfl).cell 0
  have K0_1 : ∀ W, KS w BS W → W.cell? ⟨nb, 1, none⟩ = some (.int .i64 j) := fun W h => by rw [hBS] at h; exact (h.blkAt 0 rfl).cell 1
  have K1_0 : ∀ W, KS w BS W → W.cell? ⟨w.heap.size, 0, none⟩ = some (.int .i64 i) := fun W h => by rw [hBS] at h; exact (h.blkAt 1 rfl).cell 0
  have K1_1 : ∀ W, KS w BS W → W.cell? ⟨w.heap.size, 1, none⟩ = some (.int .i64 j) := fun W h => by rw [hBS] at h; exact (h.blkAt 1 rfl).cell 1
  have Dr2 : ∀ W, KS w BS W → W.cell? ⟨d, 2, none⟩ = some (.int .i64 al) := fun W h => (h.bel.cell (p := ⟨d, _, none⟩) HD.out.lt).trans HD.out.r2
  have KZ0 : ∀ W, KZ w BS zb #[.int .i64 0, .int .i64 0] 41 W → W.cell? ⟨zb, 0, none⟩ = some (.int .i64 0) := fun W h => h.c0
  have KF0 : ∀ W, KZ w BS zb #[.int .i64 0, .int .i64 0] 41 W → W.frozen? ⟨zb, 0, none⟩ = false := fun W h => h.f 0
  have KZ1 : ∀ W, KZ w BS zb #[.int .i64 0, .int .i64 0] 41 W → W.cell? ⟨zb, 1, none⟩ = some (.int .i64 0) := fun W h => h.c1
  have KF1 : ∀ W, KZ w BS zb #[.int .i64 0, .int .i64 0] 41 W → W.frozen? ⟨zb, 1, none⟩ = false := fun W h => h.f 1
  have HBS := Lib.hid hBS
  clear hBS
  refine wp_joinG (ι := Unit) (f := fun aa _ => ((((((((aa.put (some 69) (.agg #[.int .i64 i, .int .i64 j])).put (some 70) (.pointer (some ⟨d, 0, none⟩))).put (some 71) (.pointer (some ⟨d, 0, none⟩))).put (some 72) (.pointer (some ⟨d, 0, none⟩))).put (some 73) (.pointer (some ⟨d, 2, none⟩))).put (some 74) (.int .i64 al)).put (some 5) (.int .i64 al)).put (some 6) (.bool true))) (mid := fun _ W' => KS w ((zb, #[.int .i64 i, .int .i64 j], 41) :: BS) W') ?_ ?_
  · go_region_held3 (KS w BS)
      (first | assumption | exact KS.drew (by assumption) | exact KS.alloc (by assumption) _ | exact KS.drew (KS.alloc (by assumption) _) | exact KS.alloc (KS.drew (by assumption)) _ | exact KZ.ks (by assumption) | exact KZ.keep2 (by assumption) | exact (KZ.keep2 (by assumption)).drew | exact (KZ.drew (by assumption)).keep2 | go_keep)
      (first | fail)
    all_goals first | exact ⟨rfl, (), rfl, KZ.set2 (by assumption)⟩ | exact ⟨rfl, (), rfl, KZ.set2D (by assumption)⟩ | exact ⟨rfl, (), rfl, (KZ.set2 (by assumption)).drew⟩ | exact ⟨rfl, (), rfl, (KZ.set2D (by assumption)).drew⟩
  intro _ w2 hM
  simp only [Act.put, List.setIfInBounds_toArray, List.set_cons_zero, List.set_cons_succ]
  clear hS hZ KZ0 KZ1 KF0 KF1 K0_0 K0_1 K1_0 K1_1 Dr2
  have HE := hM
  obtain ⟨e0, e1, _, _⟩ := (HE.blkAt 0 rfl).c2
  have HE2 := Lib.hid HE.bel
  clear hM HE
  go_wp2_with fail
  refine bodyPost_ret (v := .tuple #[.agg #[.int .i64 i, .int .i64 j], .int .i64 al, .bool true]) (by simp [results, Try.results49, go_sem, e0, e1]) rfl ⟨rfl, ?_⟩
  exact HE2.out
set_option maxRecDepth 100000 in
set_option maxHeartbeats 1000000 in
theorem both_other (d : Nat) (a : Option Addr) (n c : Nat) (s : ByteArray) (al ot sk ss db : Int) (x y : ByteArray) (sn : UInt8 → UInt8) (mb : Nat) (w : World) (hD : Duel w d a n c s al ot sk ss db x y sn mb) (i j : Nat) (hi : i < x.size) (hj : j < y.size) (hx : x.size ≤ 1000) (hy : y.size ≤ 1000) (hxl : isL x[i] = true) (hyl : isL y[j] = true) (he : x[i] ≠ y[j]) (ha : sn x[i] ≠ sn y[j]) :
    Calls Try.prog 49 #[.pointer (some ⟨d, 0, none⟩), cellV i j] w fun e w' => e = .returned (.tuple #[.agg #[.int .i64 i, .int .i64 j], .int .i64 ot, .bool true]) ∧ Below w.heap.size w w' := by
  have t1 : ((i : Int) == (x.size : Int)) = false := by simp; omega
  have t2 : ((j : Int) == (y.size : Int)) = false := by simp; omega
  have i1 : (i : Int) < (x.size : Int) := by omega
  have j1 : (j : Int) < (y.size : Int) := by omega
  have hlt := hD.lt
  have hqx := hD.x
  have hqy := hD.y
  have hsx := hD.sn x[i] hxl
  have hsy := hD.sn y[j] hyl
  obtain ⟨ux, ux2, ux3⟩ := u8_sub x[i] hxl
  obtain ⟨uy, uy2, uy3⟩ := u8_sub y[j] hyl
  have t3 : (((x[i].toNat : Nat) : Int) == ((y[j].toNat : Nat) : Int)) = false := by
    rw [beq_eq_false_iff_ne]; intro e; exact he (UInt8.toNat_inj.1 (by omega))
  have t4 : (((sn x[i]).toNat : Int) == ((sn y[j]).toNat : Int)) = false := by
    rw [beq_eq_false_iff_ne]; intro e; exact ha (UInt8.toNat_inj.1 (by omega))
  clear he ha
  have s0 := (KS.start w).new #[.int .i64 i, .int .i64 j] 53
  have z0 := KZ.new s0 #[.int .i64 0, .int .i64 0] 41
  rw [World.size_alloc] at z0
  have Z0 := Lib.hid z0
  clear s0 z0
  have HD := Lib.hid hD
  clear hD hxl hyl
  have HSX := Lib.hid hsx
  have HSY := Lib.hid hsy
  clear hsx hsy
  go_enter Try.func49, Try.ntmps49
  go_wp2_with fail
  go_quiet (fail)
  go_wp2_with fail
  have Z1 : Hid (KZ w [(w.heap.size, #[.int .i64 i, .int .i64 j], 53)] (w.heap.size + 1) #[.int .i64 0, .int .i64 0] 41 (((w.alloc (.cells #[.int .i64 i, .int .i64 j] 53)).alloc (.cells #[.int .i64 0, .int .i64 0] 41)).drewN nq)) := Lib.hid ⟨Z0.out.1.drewN _, Z0.out.2⟩
  have L1 := Lib.hid Z0.out.2.1.lt
  clear Z0
  generalize (((w.alloc (.cells #[.int .i64 i, .int .i64 j] 53)).alloc (.cells #[.int .i64 0, .int .i64 0] 41)).drewN nq) = V at *
  generalize hzb : w.heap.size + 1 = zb at *
  have HZB := Lib.hid hzb
  clear hzb
  obtain ⟨BS, hBS⟩ : ∃ BS : List (Nat × Array Value × TypeId), BS = [(zb, #[.int .i64 0, .int .i64 0], 41), (w.heap.size, #[.int .i64 i, .int .i64 j], 53)] := ⟨_, rfl⟩
  have hS : KS w BS V := by rw [hBS]; exact Z1.out.all
  have K1_0 : ∀ W, KS w BS W → W.cell? ⟨w.heap.size, 0, none⟩ = some (.int .i64 i) := fun W h => by rw [hBS] at h; exact (h.blkAt 1 rfl).cell 0
  have K1_1 : ∀ W, KS w BS W → W.cell? ⟨w.heap.size, 1, none⟩ = some (.int .i64 j) := fun W h => by rw [hBS] at h; exact (h.blkAt 1 rfl).cell 1
  have Dx : ∀ W, KS w BS W → W.cell? ⟨d, 7, none⟩ = some (.string x) := fun W h => (h.bel.cell (p := ⟨d, _, none⟩) HD.out.lt).trans HD.out.x
  have Dy : ∀ W, KS w BS W → W.cell? ⟨d, 8, none⟩ = some (.string y) := fun W h => (h.bel.cell (p := ⟨d, _, none⟩) HD.out.lt).trans HD.out.y
  have KZ0 : ∀ W b, KZ w BS b #[.int .i64 0, .int .i64 0] 41 W → W.cell? ⟨b, 0, none⟩ = some (.int .i64 0) := fun W b h => h.c0
  have KF0 : ∀ W b, KZ w BS b #[.int .i64 0, .int .i64 0] 41 W → W.frozen? ⟨b, 0, none⟩ = false := fun W b h => h.f 0
  have KZ1 : ∀ W b, KZ w BS b #[.int .i64 0, .int .i64 0] 41 W → W.cell? ⟨b, 1, none⟩ = some (.int .i64 0) := fun W b h => h.c1
  have KF1 : ∀ W b, KZ w BS b #[.int .i64 0, .int .i64 0] 41 W → W.frozen? ⟨b, 1, none⟩ = false := fun W b h => h.f 1
  have HBS := Lib.hid hBS
  clear hBS hqx hqy
  refine wp_joinG (ι := Nat) (f := fun aa bb => ((((((((((((((((((((((aa.put (some 29) (.pointer (some ⟨d, 0, none⟩))).put (some 30) (.pointer (some ⟨d, 0, none⟩))).put (some 31) (.pointer (some ⟨d, 7, none⟩))).put (some 32) (.string x)).put (some 33) (.pointer (some ⟨w.heap.size, 0, none⟩))).put (some 34) (.int .i64 i)).put (some 35) (.int .u8 (x[i].toNat : Int))).put (some 36) (.pointer (some ⟨d, 0, none⟩))).put (some 37) (.pointer (some ⟨d, 0, none⟩))).put (some 38) (.pointer (some ⟨d, 8, none⟩))).put (some 39) (.string y)).put (some 40) (.pointer (some ⟨w.heap.size, 1, none⟩))).put (some 41) (.int .i64 j)).put (some 42) (.int .u8 (y[j].toNat : Int))).put (some 43) (.pointer (some ⟨w.heap.size, 0, none⟩))).put (some 44) (.int .i64 i)).put (some 45) (.pointer (some ⟨w.heap.size, 1, none⟩))).put (some 46) (.int .i64 j)).put (some 47) (.agg #[.int .i64 i, .int .i64 j])).put (some 7) (.int .u8 (x[i].toNat : Int))).put (some 8) (.int .u8 (y[j].toNat : Int))).put (some 9) (.pointer (some ⟨bb, 0, none⟩)))) (mid := fun bb W' => KZ w BS bb #[.int .i64 i, .int .i64 j] 41 W') ?_ ?_
  · go_region_held3 (KS w BS)
      (first | assumption | exact KS.drew (by assumption) | exact KS.alloc (by assumption) _ | exact KS.drew (KS.alloc (by assumption) _) | exact KS.alloc (KS.drew (by assumption)) _ | exact KZ.ks (by assumption) | exact (KZ.new (by assumption) _ _).ks | exact KZ.keep2 (by assumption) | exact (KZ.keep2 (by assumption)).drew | exact (KZ.drew (by assumption)).keep2 | go_keep)
      (first | fail)
    all_goals first | exact ⟨rfl, _, rfl, KZ.new (by assumption) _ _⟩ | exact ⟨rfl, _, rfl, KZ.newD (by assumption) _ _⟩ | exact ⟨rfl, _, rfl, KZ.put2 (by assumption)⟩ | exact ⟨rfl, _, rfl, KZ.put2D (by assumption)⟩ | exact ⟨rfl, _, rfl, (KZ.put2 (by assumption)).drew⟩ | exact ⟨rfl, _, rfl, (KZ.put2D (by assumption)).drew⟩
  intro nb w1 hM
  simp only [Act.put, List.setIfInBounds_toArray, List.set_cons_zero, List.set_cons_succ]
  clear hS KZ0 KZ1 KF0 KF1 K1_0 K1_1 Dx Dy
  have hK : KZ w [(nb, #[.int .i64 i, .int .i64 j], 41), (w.heap.size, #[.int .i64 i, .int .i64 j], 53)] zb #[.int .i64 0, .int .i64 0] 41 w1 := by
    have h := hM
    rw [HBS.out] at h
    refine ⟨h.all.sub (fun x hx => by simp at hx ⊢; rcases hx with h | h <;> simp [h]), h.1.blkAt 0 rfl, fun x hx => ?_, by rw [← HZB.out]; omega⟩
    simp at hx
    rcases hx with rfl | rfl
    · exact fun e => h.2.2.1 (zb, #[.int .i64 0, .int .i64 0], 41) (by simp) e.symm
    · show w.heap.size ≠ zb
      rw [← HZB.out]; omega
  have HK := Lib.hid hK
  have ZG := Lib.hid hK.2.2.2
  obtain ⟨n0, n1, _, _⟩ := (hK.1.blkAt 0 rfl).c2
  obtain ⟨z0, z1, f0, f1⟩ := hK.2.1.c2
  clear hM hK
  have hl1 : d < w1.heap.size := Nat.lt_of_lt_of_le HD.out.lt HK.out.1.size
  have hsx := (HK.out.1.bel.cell (p := ⟨d, _, none⟩) HD.out.lt).trans HSX.out
  have hsy := (HK.out.1.bel.cell (p := ⟨d, _, none⟩) HD.out.lt).trans HSY.out
  go_wp2_with fail
  go_quiet (fail)
  go_wp2_with fail
  have Z2 : Hid (KZ w [(nb, #[.int .i64 i, .int .i64 j], 41), (w.heap.size, #[.int .i64 i, .int .i64 j], 53)] zb #[.int .i64 0, .int .i64 0] 41 (w1.drewN nq)) := Lib.hid (HK.out.drewN _)
  clear n0 n1 z0 z1 f0 f1 hl1 hsx hsy HK
  generalize w1.drewN nq = V2 at *
  clear HBS
  obtain ⟨BS, hBS⟩ : ∃ BS : List (Nat × Array Value × TypeId), BS = [(nb, #[.int .i64 i, .int .i64 j], 41), (w.heap.size, #[.int .i64 i, .int .i64 j], 53)] := ⟨_, rfl⟩
  have hZ : KZ w BS zb #[.int .i64 0, .int .i64 0] 41 V2 := by rw [hBS]; exact Z2.out
  have hS : KS w BS V2 := hZ.ks
  have K0_0 : ∀ W, KS w BS W → W.cell? ⟨nb, 0, none⟩ = some (.int .i64 i) := fun W h => by rw [hBS] at h; exact (h.blkAt 0 rfl).cell 0
  have K0_1 : ∀ W, KS w BS W → W.cell? ⟨nb, 1, none⟩ = some (.int .i64 j) := fun W h => by rw [hBS] at h; exact (h.blkAt 0 rfl).cell 1
  have K1_0 : ∀ W, KS w BS W → W.cell? ⟨w.heap.size, 0, none⟩ = some (.int .i64 i) := fun W h => by rw [hBS] at h; exact (h.blkAt 1 rfl).cell 0
  have K1_1 : ∀ W, KS w BS W → W.cell? ⟨w.heap.size, 1, none⟩ = some (.int .i64 j) := fun W h => by rw [hBS] at h; exact (h.blkAt 1 rfl).cell 1
  have Dr3 : ∀ W, KS w BS W → W.cell? ⟨d, 3, none⟩ = some (.int .i64 ot) := fun W h => (h.bel.cell (p := ⟨d, _, none⟩) HD.out.lt).trans HD.out.r3
  have KZ0 : ∀ W, KZ w BS zb #[.int .i64 0, .int .i64 0] 41 W → W.cell? ⟨zb, 0, none⟩ = some (.int .i64 0) := fun W h => h.c0
  have KF0 : ∀ W, KZ w BS zb #[.int .i64 0, .int .i64 0] 41 W → W.frozen? ⟨zb, 0, none⟩ = false := fun W h => h.f 0
  have KZ1 : ∀ W, KZ w BS zb #[.int .i64 0, .int .i64 0] 41 W → W.cell? ⟨zb, 1, none⟩ = some (.int .i64 0) := fun W h => h.c1
  have KF1 : ∀ W, KZ w BS zb #[.int .i64 0, .int .i64 0] 41 W → W.frozen? ⟨zb, 1, none⟩ = false := fun W h => h.f 1
  have HBS := Lib.hid hBS
  clear hBS
  refine wp_joinG (ι := Unit) (f := fun aa _ => ((((((((aa.put (some 75) (.agg #[.int .i64 i, .int .i64 j])).put (some 76) (.pointer (some ⟨d, 0, none⟩))).put (some 77) (.pointer (some ⟨d, 0, none⟩))).put (some 78) (.pointer (some ⟨d, 0, none⟩))).put (some 79) (.pointer (some ⟨d, 3, none⟩))).put (some 80) (.int .i64 ot)).put (some 5) (.int .i64 ot)).put (some 6) (.bool true))) (mid := fun _ W' => KS w ((zb, #[.int .i64 i, .int .i64 j], 41) :: BS) W') ?_ ?_
  · go_region_held3 (KS w BS)
      (first | assumption | exact KS.drew (by assumption) | exact KS.alloc (by assumption) _ | exact KS.drew (KS.alloc (by assumption) _) | exact KS.alloc (KS.drew (by assumption)) _ | exact KZ.ks (by assumption) | exact KZ.keep2 (by assumption) | exact (KZ.keep2 (by assumption)).drew | exact (KZ.drew (by assumption)).keep2 | go_keep)
      (first | fail)
    all_goals first | exact ⟨rfl, (), rfl, KZ.set2 (by assumption)⟩ | exact ⟨rfl, (), rfl, KZ.set2D (by assumption)⟩ | exact ⟨rfl, (), rfl, (KZ.set2 (by assumption)).drew⟩ | exact ⟨rfl, (), rfl, (KZ.set2D (by assumption)).drew⟩
  intro _ w2 hM
  simp only [Act.put, List.setIfInBounds_toArray, List.set_cons_zero, List.set_cons_succ]
  clear hS hZ KZ0 KZ1 KF0 KF1 K0_0 K0_1 K1_0 K1_1 Dr3
  have HE := hM
  obtain ⟨e0, e1, _, _⟩ := (HE.blkAt 0 rfl).c2
  have HE2 := Lib.hid HE.bel
  clear hM HE
  go_wp2_with fail
  refine bodyPost_ret (v := .tuple #[.agg #[.int .i64 i, .int .i64 j], .int .i64 ot, .bool true]) (by simp [results, Try.results49, go_sem, e0, e1]) rfl ⟨rfl, ?_⟩
  exact HE2.out
end Go.Proofs.Ytkdflgaahhnigaa

namespace Go.Proofs.Ytkdflgaahhnigaa
open Go.RowKit
theorem tLaidOut : laidOutB Try.prog = true := by kernel_rfl
theorem tRow98 : (53 : TypeId) < Try.prog.types.size := of_decide_eq_true (by kernel_rfl)
theorem tWide98 : (match Try.prog.underlying 53 with | some (.array _ _) | some (.struct _) => true | _ => false) = true := by rw [Try.underlying53]
theorem tKey2 : Try.prog.keyTypeAt 2 53 = true := by kernel_rfl
theorem tKeyType : Try.prog.keyType 53 = true := by kernel_rfl
theorem tCells98 : Try.prog.cellsOf 53 = 2 := by kernel_rfl
theorem tCells3 : Try.prog.cellsOf 3 = 1 := by kernel_rfl
set_option maxRecDepth 100000 in
theorem law98 : Maps.Keyed Try.prog 53 := Maps.Keyed.of_law (deep_law_laid tLaidOut (m := 2) (by omega) tRow98 tKey2 tWide98)
theorem tSize : ∃ D, Try.prog.types.size = D + 1 := ⟨Try.prog.types.size - 1, by kernel_rfl⟩
theorem key_cell (n k : Int) (hn : (Lit.int .i64 n).wf = true) (hk : (Lit.int .i64 k).wf = true) : ∃ kl, keyOf Try.prog 53 (cellV n k) = some kl := by
  obtain ⟨D, hs⟩ := tSize
  unfold keyOf
  rw [Try.underlying53]
  simp only [tKeyType, Bool.true_and]
  have hf : (cellV n k).formed Try.prog 53 = true := by simp [Value.formed, Try.underlying53, tCells98]
  rw [if_pos hf, hs]
  simp [Program.keyLits, Try.underlying53, tCells98, tCells3, Value.cells, Try.underlying3, hn, hk]

open Go.WideElems (Fit)
open Go.MapKept Go.ChangeMaps
theorem wf64 {n : Int} (h1 : -9223372036854775808 ≤ n) (h2 : n ≤ 9223372036854775807) : (Lit.int .i64 n).wf = true := WalkArith.wf_i64 ⟨h1, h2⟩

/-- block b is a map of costs, all of them right -/
def Memo (w : World) (b : Nat) (f : Nat → Nat → Nat) : Prop :=
  ∃ es clock, w.heap[b]? = some (.map es clock) ∧ Fit Try.prog 53 (plainElem (H := Unit) Try.prog 3) es clock ∧ ∀ x, x ∈ es.toList → ∃ n k : Nat, n ≤ 60 ∧ k ≤ 60 ∧ x.key = cellV n k ∧ x.val = .int .i64 (f n k : Nat)
theorem Memo.lt {w : World} {b : Nat} {f : Nat → Nat → Nat} (h : Memo w b f) : b < w.heap.size := by
  obtain ⟨es, clock, hb, _⟩ := h
  exact (Array.getElem?_eq_some_iff.1 hb).1
theorem Memo.kept {w w' : World} {row : Option Nat} {b : Nat} {f : Nat → Nat → Nat} (h : Memo w b f) (hg : w.grownBy w' row) (hne : some b ≠ row) : Memo w' b f := by
  have hlt := h.lt
  obtain ⟨es, clock, hb, F, hv⟩ := h
  exact ⟨es, clock, (hg.block b hlt hne).trans hb, F, hv⟩
theorem Memo.alloc {w : World} {b : Nat} {f : Nat → Nat → Nat} (h : Memo w b f) (o : Obj) : Memo (w.alloc o) b f := h.kept (World.grownBy_alloc w o none) (by simp)
theorem Memo.made (w : World) (f : Nat → Nat → Nat) : Memo (w.alloc (.map #[] 0)) w.heap.size f :=
  ⟨#[], 0, (MapKept.heap_alloc w _).1, ⟨by simp, stamped_empty 0, by simp⟩, by simp⟩
theorem Memo.ne_cell {w : World} {b : Nat} {f : Nat → Nat → Nat} (h : Memo w b f) {a : Addr} {v : Value} (hc : w.cell? a = some v) : a.block ≠ b := by
  rintro rfl
  obtain ⟨es, clock, hb, _⟩ := h
  simp [World.cell?, hb] at hc
theorem nodup_len {l : List Nat} {n : Nat} (h : l.Nodup) (hl : ∀ x, x ∈ l → x < n) : l.length ≤ n := by
  have hp : l.Perm ((List.range n).filter fun x => decide (x ∈ l)) := by
    refine (List.perm_ext_iff_of_nodup h (List.Nodup.sublist List.filter_sublist List.nodup_range)).2 fun x => ?_
    simp only [List.mem_filter, List.mem_range, decide_eq_true_eq]
    exact ⟨fun hx => ⟨hl x hx, hx⟩, fun hx => hx.2⟩
  have h1 := hp.length_eq
  have h2 := List.length_filter_le (fun x => decide (x ∈ l)) (List.range n)
  rw [List.length_range] at h2
  omega
/-- the number that stands for a key -/
def codeOf (v : Value) : Nat :=
  match v with
  | .agg cs => match cs.toList with
    | [.int _ n, .int _ k] => n.toNat * 61 + k.toNat
    | _ => 0
  | _ => 0
theorem codeOf_cell (n k : Nat) : codeOf (cellV n k) = n * 61 + k := rfl
theorem memo_room {f : Nat → Nat → Nat} {es : Array MapEntry} {clock : Nat} (F : Fit Try.prog 53 (plainElem (H := Unit) Try.prog 3) es clock) (hv : ∀ x, x ∈ es.toList → ∃ n k : Nat, n ≤ 60 ∧ k ≤ 60 ∧ x.key = cellV n k ∧ x.val = .int .i64 (f n k : Nat)) : es.size < maxLen := by
  have hn : es.toList.Pairwise (fun x y => x.key ≠ y.key) := ((stamped_iff es clock).1 F.stamped).2.2
  have h1 : (es.toList.map fun x => codeOf x.key).Nodup := by
    unfold List.Nodup
    rw [List.pairwise_map]
    refine List.Pairwise.imp_of_mem ?_ hn
    intro a b ha hb hne e
    obtain ⟨n, k, h1, h2, h3, _⟩ := hv a ha
    obtain ⟨n', k', h1', h2', h3', _⟩ := hv b hb
    rw [h3, h3', codeOf_cell, codeOf_cell] at e
    rw [h3, h3'] at hne
    obtain rfl : n = n' := by omega
    obtain rfl : k = k' := by omega
    exact hne rfl
  have h2 := nodup_len (n := 3721) h1 (fun x hx => by
    obtain ⟨y, hy, rfl⟩ := List.mem_map.1 hx
    obtain ⟨n, k, h1, h2, h3, _⟩ := hv y hy
    rw [h3, codeOf_cell]; omega)
  rw [List.length_map, Array.length_toList] at h2
  unfold maxLen; omega
theorem Memo.look {w : World} {b : Nat} {f : Nat → Nat → Nat} (h : Memo w b f) (n k : Nat) (hn : n ≤ 60) (hk : k ≤ 60) :
    (Instr.lookup 81 (.map (some b)) (cellV n k) true).run Try.prog w = .ok (.tuple #[.int .i64 0, .bool false]) w ∨
    (Instr.lookup 81 (.map (some b)) (cellV n k) true).run Try.prog w = .ok (.tuple #[.int .i64 (f n k : Nat), .bool true]) w := by
  obtain ⟨es, clock, hb, F, hv⟩ := h
  obtain ⟨kl, hkl⟩ := key_cell n k (wf64 (by omega) (by omega)) (wf64 (by omega) (by omega))
  rcases Maps.fit_look true law98 Try.underlying81 (Try.zeroValue3 _) hb F hkl with ⟨h1, _, _⟩ | ⟨e0, y, hm, hkey, h1, _, _, _⟩
  · exact .inl h1
  · obtain ⟨n', k', _, _, h3, h4⟩ := hv e0 hm
    rw [hkey] at h3
    simp only [cellV, Value.agg.injEq, Array.mk.injEq, List.cons.injEq, Value.int.injEq, true_and, and_true] at h3
    obtain ⟨ha, hb'⟩ := h3
    obtain rfl : n = n' := by omega
    obtain rfl : k = k' := by omega
    rw [h4] at h1
    exact .inr h1
theorem Memo.store {w : World} {b : Nat} {f : Nat → Nat → Nat} (h : Memo w b f) (n k : Nat) (hc : f n k ≤ 1000000) (hn : n ≤ 60) (hk : k ≤ 60) :
    ∃ w', (Instr.mapUpdate 81 (.map (some b)) (cellV n k) (.int .i64 (f n k : Nat))).run Try.prog w = .ok () w' ∧ Memo w' b f ∧ w.grownBy w' (some b) := by
  obtain ⟨es, clock, hb, F, hv⟩ := h
  obtain ⟨kl, hkl⟩ := key_cell n k (wf64 (by omega) (by omega)) (wf64 (by omega) (by omega))
  obtain ⟨es', clock', hrun, F', _, _, _, hmem⟩ := Maps.fit_store (R' := plainElem (H := Unit) Try.prog 3) law98 Try.underlying81 hb F (memo_room F hv) (fun _ _ _ _ hz => hz) hkl (plainElem_int (H := Unit) Try.underlying3 (wf64 (n := (f n k : Int)) (by omega) (by omega)))
  refine ⟨_, hrun, ⟨es', clock', heap_setBlock_same hb _, F', fun x hx => ?_⟩, ⟨rfl, rfl, rfl, by simp [setBlock], fun i _ hi => heap_setBlock_other hb _ (fun e => hi (by rw [e]))⟩⟩
  rcases hmem x hx with ⟨h1, _⟩ | ⟨h1, h2⟩
  · exact hv x h1
  · exact ⟨n, k, hn, hk, h1, h2⟩
/-- A STORE, AT THE OPERATION, FOR THE WALK. -/
theorem wpList_memo_store (w : World) {ops : Array Oper} {rest : List Oper} {o : Oper} {a : Act} {Q : Exit → Act → World → Prop}
    (hg : o.guard = none) (m x v : Operand) (hop : o.op = Op.mapUpdate 81 m x v) (b n k : Nat) {f : Nat → Nat → Nat} (hc : f n k ≤ 1000000) (hm : a.eval m = .map (some b)) (hmemo : Memo w b f) (hn : n ≤ 60) (hk : k ≤ 60)
    (hx : a.eval x = cellV n k) (hv : a.eval v = .int .i64 (f n k : Nat)) (hK : ∀ w', Memo w' b f → w.grownBy w' (some b) → wpList Try.prog ops Q rest (a.put o.dst undef) w') :
    wpList Try.prog ops Q (o :: rest) a w := by
  refine wpList_plain hg fun K' hK' => ?_
  obtain ⟨w', hrun, r1, r2⟩ := hmemo.store n k hc hn hk
  unfold Oper.wp
  simp [execOp, hop, hm, hx, hv, hrun, Result.andThen]
  exact hK' _ _ (hK w' r1 r2)
section
variable {w w' : World} {b : Nat} {f : Nat → Nat → Nat}
theorem Memo.setCell (h : Memo w b f) {a : Addr} (hne : b ≠ a.block) (v : Value) : Memo (w.setCell a v) b f := by
  obtain ⟨es, clock, hb, F, hv⟩ := h
  exact ⟨es, clock, (Below.heap_setCell w a v b hne).trans hb, F, hv⟩
theorem Memo.drew (h : Memo w b f) : Memo w.drew b f := h
theorem Memo.drewN (h : Memo w b f) (q : Nat) : Memo (w.drewN q) b f := h
theorem Memo.below {B : Nat} (h : Memo w b f) (hb : Below B w w') (hlt : b < B) : Memo w' b f := by
  obtain ⟨es, clock, hb', F, hv⟩ := h
  exact ⟨es, clock, (hb.block b hlt).trans hb', F, hv⟩
end
end Go.Proofs.Ytkdflgaahhnigaa

namespace Go.Proofs.Ytkdflgaahhnigaa
open Go.RowKit Go.Shelf
attribute [local go_sem] Oper.semAt_some

/-- what it costs to skip, to replace -/
def skN (s : ByteArray) (sk ss db : Nat) (t : List UInt8) (i : Nat) : Nat :=
  if 0 < i ∧ t.getD i 0 = t.getD (i - 1) 0 then db else if decide (t.getD i 0 ∈ s.data.toList) = true then ss else sk
def swN (sn : UInt8 → UInt8) (al ot : Nat) (p q : UInt8) : Nat := if p = q then 0 else if sn p = sn q then al else ot
theorem skV_nat (s : ByteArray) (sk ss db : Nat) (t : List UInt8) (i : Nat) : skV s (sk : Int) (ss : Int) (db : Int) t i = ((skN s sk ss db t i : Nat) : Int) := by
  unfold skV skN; split
  · rfl
  · split <;> rfl
/-- the costs of two names' steps -/
abbrev SW (sn : UInt8 → UInt8) (al ot : Nat) (x y : ByteArray) (i j : Nat) : Nat := swN sn al ot (x.data.toList.getD i 0) (y.data.toList.getD j 0)
abbrev SA (s : ByteArray) (sk ss db : Nat) (x : ByteArray) (i : Nat) : Nat := skN s sk ss db x.data.toList i
abbrev stL (s : ByteArray) (al ot sk ss db : Nat) (x y : ByteArray) (sn : UInt8 → UInt8) (i j : Nat) : List Nm.St := Nm.stepsOf (SW sn al ot x y) (SA s sk ss db x) (SA s sk ss db y) x.size y.size i j
abbrev csD (s : ByteArray) (al ot sk ss db : Nat) (x y : ByteArray) (sn : UInt8 → UInt8) (i j : Nat) : Nat := Nm.cs (SW sn al ot x y) (SA s sk ss db x) (SA s sk ss db y) x.size y.size i j
/-- a name -/
def NameB (x : ByteArray) : Prop := x.size ≤ 1000 ∧ ∀ i (h : i < x.size), isL x[i] = true
/-- what a kind of steps answers -/
def Says (k i j : Nat) (s : ByteArray) (al ot sk ss db : Nat) (x y : ByteArray) (sn : UInt8 → UInt8) : Option Nm.St :=
  match k with
  | 0 => if i < x.size ∧ j < y.size then some (((i : Int), (j : Int)), SW sn al ot x y i j) else none
  | 1 => if i < x.size then some (((i : Int), -1), SA s sk ss db x i) else none
  | _ => if j < y.size then some ((-1, (j : Int)), SA s sk ss db y j) else none
theorem stL_says (s : ByteArray) (al ot sk ss db : Nat) (x y : ByteArray) (sn : UInt8 → UInt8) (i j : Nat) : stL s al ot sk ss db x y sn i j = (Says 0 i j s al ot sk ss db x y sn).toList ++ ((Says 1 i j s al ot sk ss db x y sn).toList ++ (Says 2 i j s al ot sk ss db x y sn).toList) := by
  unfold stL Nm.stepsOf Says
  simp only []
  split <;> split <;> split <;> rfl
theorem both_any (d : Nat) (a : Option Addr) (n c : Nat) (s : ByteArray) (al ot sk ss db : Nat) (x y : ByteArray) (sn : UInt8 → UInt8) (mb : Nat) (w : World) (hD : Duel w d a n c s al ot sk ss db x y sn mb) (i j : Nat) (hi : i ≤ x.size) (hj : j ≤ y.size) (hx : NameB x) (hy : NameB y) :
    Calls Try.prog 49 #[.pointer (some ⟨d, 0, none⟩), cellV i j] w fun e w' => e = .returned (match Says 0 i j s al ot sk ss db x y sn with | some t => .tuple #[.agg #[.int .i64 t.1.1, .int .i64 t.1.2], .int .i64 (t.2 : Nat), .bool true] | none => .tuple #[.agg #[.int .i64 0, .int .i64 0], .int .i64 0, .bool false]) ∧ Below w.heap.size w w' := by
  by_cases h1 : i = x.size
  · rw [show Says 0 i j s al ot sk ss db x y sn = none from if_neg (by omega)]
    exact both_no1 d a n c s al ot sk ss db x y sn mb w hD i j h1
  · by_cases h2 : j = y.size
    · rw [show Says 0 i j s al ot sk ss db x y sn = none from if_neg (by omega)]
      exact both_no2 d a n c s al ot sk ss db x y sn mb w hD i j (by omega) h2
    · have hi' : i < x.size := by omega
      have hj' : j < y.size := by omega
      rw [show Says 0 i j s al ot sk ss db x y sn = some (((i : Int), (j : Int)), SW sn al ot x y i j) from if_pos ⟨hi', hj'⟩]
      have e : SW sn al ot x y i j = swN sn al ot x[i] y[j] := by unfold SW; rw [getD_size x i hi', getD_size y j hj']
      simp only [e]
      unfold swN
      by_cases h3 : x[i] = y[j]
      · rw [if_pos h3]; exact both_eq d a n c s al ot sk ss db x y sn mb w hD i j hi' hj' hx.1 hy.1 (hx.2 i hi') (hy.2 j hj') h3
      · rw [if_neg h3]
        by_cases h4 : sn x[i] = sn y[j]
        · rw [if_pos h4]; exact both_alike d a n c s al ot sk ss db x y sn mb w hD i j hi' hj' hx.1 hy.1 (hx.2 i hi') (hy.2 j hj') h3 h4
        · rw [if_neg h4]; exact both_other d a n c s al ot sk ss db x y sn mb w hD i j hi' hj' hx.1 hy.1 (hx.2 i hi') (hy.2 j hj') h3 h4
theorem first_any (d : Nat) (a : Option Addr) (n c : Nat) (s : ByteArray) (al ot sk ss db : Nat) (x y : ByteArray) (sn : UInt8 → UInt8) (mb : Nat) (w : World) (hD : Duel w d a n c s al ot sk ss db x y sn mb) (i j : Nat) (hi : i ≤ x.size) (hx : NameB x) :
    Calls Try.prog 50 #[.pointer (some ⟨d, 0, none⟩), cellV i j] w fun e w' => e = .returned (match Says 1 i j s al ot sk ss db x y sn with | some t => .tuple #[.agg #[.int .i64 t.1.1, .int .i64 t.1.2], .int .i64 (t.2 : Nat), .bool true] | none => .tuple #[.agg #[.int .i64 0, .int .i64 0], .int .i64 0, .bool false]) ∧ Below w.heap.size w w' := by
  by_cases h1 : i = x.size
  · rw [show Says 1 i j s al ot sk ss db x y sn = none from if_neg (by omega)]
    exact first_no d a n c s al ot sk ss db x y sn mb w hD i j h1
  · have hi' : i < x.size := by omega
    rw [show Says 1 i j s al ot sk ss db x y sn = some (((i : Int), -1), SA s sk ss db x i) from if_pos hi']
    have h := first_yes d a n c s al ot sk ss db x y sn mb w hD i j hi' hx.1
    rw [skV_nat] at h
    exact h
theorem second_any (d : Nat) (a : Option Addr) (n c : Nat) (s : ByteArray) (al ot sk ss db : Nat) (x y : ByteArray) (sn : UInt8 → UInt8) (mb : Nat) (w : World) (hD : Duel w d a n c s al ot sk ss db x y sn mb) (i j : Nat) (hj : j ≤ y.size) (hy : NameB y) :
    Calls Try.prog 51 #[.pointer (some ⟨d, 0, none⟩), cellV i j] w fun e w' => e = .returned (match Says 2 i j s al ot sk ss db x y sn with | some t => .tuple #[.agg #[.int .i64 t.1.1, .int .i64 t.1.2], .int .i64 (t.2 : Nat), .bool true] | none => .tuple #[.agg #[.int .i64 0, .int .i64 0], .int .i64 0, .bool false]) ∧ Below w.heap.size w w' := by
  by_cases h1 : j = y.size
  · rw [show Says 2 i j s al ot sk ss db x y sn = none from if_neg (by omega)]
    exact second_no d a n c s al ot sk ss db x y sn mb w hD i j h1
  · have hj' : j < y.size := by omega
    rw [show Says 2 i j s al ot sk ss db x y sn = some ((-1, (j : Int)), SA s sk ss db y j) from if_pos hj']
    have h := second_yes d a n c s al ot sk ss db x y sn mb w hD i j hj' hy.1
    rw [skV_nat] at h
    exact h
end Go.Proofs.Ytkdflgaahhnigaa

namespace Go.Proofs.Ytkdflgaahhnigaa
open Go.RowKit Go.Shelf
attribute [local go_sem] Oper.semAt_some

/-- what a round keeps: whatever is cells, but for the blocks E -/
def KpE (E : Nat → Prop) (W W' : World) : Prop := ∀ k ob, ¬ E k → W.heap[k]? = some ob → ob.isCells = true → W'.heap[k]? = some ob
section
variable {E : Nat → Prop} {W W' W'' : World}
theorem KpE.trans (h : KpE E W W') (k : KpE E W' W'') : KpE E W W'' := fun b ob hE hb hc => k b ob hE (h b ob hE hb hc) hc
theorem KpE.below (h : Below W.heap.size W W') : KpE E W W' := fun b ob _ hb _ => (h.block b (Array.getElem?_eq_some_iff.1 hb).1).trans hb
theorem KpE.grown {row : Option Nat} (h : W.grownBy W' row) (hr : ∀ r, row = some r → E r) : KpE E W W' := fun b ob hE hb _ => (h.block b (Array.getElem?_eq_some_iff.1 hb).1 (fun e => hE (hr b e.symm))).trans hb
theorem KpE.set {a : Addr} (hE : E a.block) (v : Value) : KpE E W (W.setCell a v) := fun b ob hb h _ => (Below.heap_setCell W a v b (fun e => hb (by rw [e]; exact hE))).trans h
theorem KpE.putObj (l : Nat) (ob ob' : Obj) (h : W.heap[l]? = some ob) (hc : ob.isCells = false) : KpE E W (W.putObj l ob') := fun b o2 _ hb h2 => by
  have hne : b ≠ l := by rintro rfl; rw [h] at hb; cases hb; rw [hc] at h2; cases h2
  exact (World.putObj_heap_other hne).trans hb
theorem KpE.blk (h : KpE E W W') {b : Nat} {cs : Array Value} {t : TypeId} (hb : Blk W b cs t) (hE : ¬ E b) : Blk W' b cs t := h b _ hE hb rfl
end
/-- a duel's block is cells -/
structure DuelB (W : World) (d : Nat) (a : Option Addr) (n c : Nat) (s : ByteArray) (al ot sk ss db : Nat) (x y : ByteArray) (sn : UInt8 → UInt8) (mb : Nat) : Prop where
  duel : Duel W d a n c s al ot sk ss db x y sn mb
  cells : ∃ ob, W.heap[d]? = some ob ∧ ob.isCells = true
section
variable {W W' : World} {d : Nat} {a : Option Addr} {n c : Nat} {s : ByteArray} {al ot sk ss db : Nat} {x y : ByteArray} {sn : UInt8 → UInt8} {mb : Nat} {E : Nat → Prop}
theorem DuelB.kept (h : DuelB W d a n c s al ot sk ss db x y sn mb) (hk : KpE E W W') (hE : ¬ E d) : DuelB W' d a n c s al ot sk ss db x y sn mb := by
  obtain ⟨ob, h1, h2⟩ := h.cells
  have h3 := hk d ob hE h1 h2
  refine ⟨h.duel.keep (Array.getElem?_eq_some_iff.1 h3).1 (fun of => ?_), ob, h3, h2⟩
  unfold World.cell?
  simp only [h1, h3]
theorem DuelB.below (h : DuelB W d a n c s al ot sk ss db x y sn mb) (hb : Below W.heap.size W W') : DuelB W' d a n c s al ot sk ss db x y sn mb := by
  obtain ⟨ob, h1, h2⟩ := h.cells
  exact ⟨h.duel.below hb, ob, (hb.block d h.duel.lt).trans h1, h2⟩
end
abbrev StS (s : ByteArray) (al ot sk ss db : Nat) (x y : ByteArray) (sn : UInt8 → UInt8) (i j : Nat) := { t : Nm.St // t ∈ stL s al ot sk ss db x y sn i j }
def preS (s : ByteArray) (al ot sk ss db : Nat) (x y : ByteArray) (sn : UInt8 → UInt8) (i j : Nat) : Nat → List Nm.St
  | 0 => []
  | k + 1 => preS s al ot sk ss db x y sn i j k ++ (Says k i j s al ot sk ss db x y sn).toList
theorem preS_all (s : ByteArray) (al ot sk ss db : Nat) (x y : ByteArray) (sn : UInt8 → UInt8) (i j : Nat) : preS s al ot sk ss db x y sn i j 3 = stL s al ot sk ss db x y sn i j := by
  rw [stL_says]; simp [preS]
theorem preS_pre (s : ByteArray) (al ot sk ss db : Nat) (x y : ByteArray) (sn : UInt8 → UInt8) (i j : Nat) : ∀ k, k ≤ 3 → preS s al ot sk ss db x y sn i j k <+: stL s al ot sk ss db x y sn i j := by
  intro k hk
  rw [← preS_all]
  match k, hk with
  | 0, _ => exact List.nil_prefix
  | 1, _ => exact ⟨_, by simp only [preS, List.append_assoc]; rfl⟩
  | 2, _ => exact ⟨_, by simp only [preS]; rfl⟩
  | 3, _ => exact List.prefix_refl _
theorem preS_len (s : ByteArray) (al ot sk ss db : Nat) (x y : ByteArray) (sn : UInt8 → UInt8) (i j : Nat) : ∀ k, (preS s al ot sk ss db x y sn i j k).length ≤ k
  | 0 => Nat.le_refl _
  | k + 1 => by
    have := preS_len s al ot sk ss db x y sn i j k
    have h2 : ((Says k i j s al ot sk ss db x y sn).toList).length ≤ 1 := by cases Says k i j s al ot sk ss db x y sn <;> simp
    simp only [preS, List.length_append]; omega
theorem preS_snoc (s : ByteArray) (al ot sk ss db : Nat) (x y : ByteArray) (sn : UInt8 → UInt8) (i j : Nat) (k : Nat) {t : Nm.St} (h : Says k i j s al ot sk ss db x y sn = some t) : preS s al ot sk ss db x y sn i j k ++ [t] = preS s al ot sk ss db x y sn i j (k + 1) := by
  simp [preS, h]
theorem says_mem (s : ByteArray) (al ot sk ss db : Nat) (x y : ByteArray) (sn : UInt8 → UInt8) (i j : Nat) (k : Nat) (hk : k < 3) {t : Nm.St} (h : Says k i j s al ot sk ss db x y sn = some t) : t ∈ stL s al ot sk ss db x y sn i j := by
  have := (preS_pre s al ot sk ss db x y sn i j (k + 1) (by omega)).subset
  exact this (by simp [preS, h])
/-- what the iterator reads -/
def StG (W : World) (B0 d Bd Bc i j : Nat) (a : Option Addr) (n c : Nat) (s : ByteArray) (al ot sk ss db : Nat) (x y : ByteArray) (sn : UInt8 → UInt8) (mb : Nat) : Prop :=
  Blk W B0 #[.func (.func 49) #[] #[], .func (.func 50) #[] #[], .func (.func 51) #[] #[]] 94 ∧ DuelB W d a n c s al ot sk ss db x y sn mb ∧ Blk W Bd #[.pointer (some ⟨d, 0, none⟩)] 49 ∧ Blk W Bc #[.int .i64 i, .int .i64 j] 53
section
variable {W W' : World} {B0 d Bd Bc i j : Nat} {a : Option Addr} {n c : Nat} {s : ByteArray} {al ot sk ss db : Nat} {x y : ByteArray} {sn : UInt8 → UInt8} {mb : Nat} {E : Nat → Prop}
theorem StG.below (h : StG W B0 d Bd Bc i j a n c s al ot sk ss db x y sn mb) (hb : Below W.heap.size W W') : StG W' B0 d Bd Bc i j a n c s al ot sk ss db x y sn mb := ⟨h.1.b hb, h.2.1.below hb, h.2.2.1.b hb, h.2.2.2.b hb⟩
theorem StG.kept (h : StG W B0 d Bd Bc i j a n c s al ot sk ss db x y sn mb) (hk : KpE E W W') (h0 : ¬ E B0) (h1 : ¬ E d) (h2 : ¬ E Bd) (h3 : ¬ E Bc) : StG W' B0 d Bd Bc i j a n c s al ot sk ss db x y sn mb := ⟨hk.blk h.1 h0, h.2.1.kept hk h1, hk.blk h.2.2.1 h2, hk.blk h.2.2.2 h3⟩
end
theorem steps_any (d : Nat) (i j : Int) (w : World) : Calls Try.prog 26 #[.pointer (some ⟨d, 0, none⟩), cellV i j] w fun e w' => e = .returned (.func (.func 48) #[] #[.pointer (some ⟨w.heap.size, 0, none⟩), .pointer (some ⟨w.heap.size + 1, 0, none⟩)]) ∧ (w.alloc (.cells #[.pointer (some ⟨d, 0, none⟩)] 49)).alloc (.cells #[.int .i64 i, .int .i64 j] 53) = w' := by
  go_enter Try.func26, Try.ntmps26
  go_wp2
  go_ret
  exact ⟨rfl, rfl⟩

set_option maxRecDepth 100000 in
set_option maxHeartbeats 8000000 in
theorem steps_stops (E : Nat → Prop) (d Bd Bc i j : Nat) (a : Option Addr) (n c : Nat) (s : ByteArray) (al ot sk ss db : Nat) (x y : ByteArray) (sn : UInt8 → UInt8) (mb : Nat) (w : World) (hi : i ≤ x.size) (hj : j ≤ y.size) (hx : NameB x) (hy : NameB y)
    (hE : ∀ k, E k → k < w.heap.size) (hEd : ¬ E d) (hEB : ¬ E Bd) (hEC : ¬ E Bc) (hD : DuelB w d a n c s al ot sk ss db x y sn mb) (hBd : Blk w Bd #[.pointer (some ⟨d, 0, none⟩)] 49) (hBc : Blk w Bc #[.int .i64 i, .int .i64 j] 53) (N : Nat) :
    SeqStopsK Fence.wide N Try.prog 48 #[.pointer (some ⟨Bd, 0, none⟩), .pointer (some ⟨Bc, 0, none⟩)] (fun t : StS s al ot sk ss db x y sn i j => #[.agg #[.int .i64 t.1.1.1, .int .i64 t.1.1.2], .int .i64 (t.1.2 : Nat)]) (KpE E) (fun ys => ys.map (·.1) = stL s al ot sk ss db x y sn i j) (fun pre => pre.map (·.1) <+: stL s al ot sk ss db x y sn i j) 3 w := fun l J Jx W hW hJ _ hY h0 => by
  have hG0 : StG (W.alloc (.cells #[.func (.func 49) #[] #[], .func (.func 50) #[] #[], .func (.func 51) #[] #[]] 94)) W.heap.size d Bd Bc i j a n c s al ot sk ss db x y sn mb := ⟨Blk.new _ _ _, (hD.below hW).below ((Below.refl _ _).alloc (Nat.le_refl _) _), (hBd.b hW).alloc _, (hBc.b hW).alloc _⟩
  have hE0 : ¬ E W.heap.size := fun h => by have := hE _ h; have := hW.size; omega
  have JB : ∀ pre A B, J pre A → Below A.heap.size A B → J pre B := fun pre A B h hb => hJ pre A B none h (grownBy_below hb none) (fun r e => by cases e)
  have hJ0 := JB _ _ _ h0 ((Below.refl _ W).alloc (Nat.le_refl _) (.cells #[.func (.func 49) #[] #[], .func (.func 50) #[] #[], .func (.func 51) #[] #[]] 94))
  have HY := Lib.hid hY
  have HJB := Lib.hid JB
  have HE := Lib.hid (And.intro hE0 (And.intro hEd (And.intro hEB hEC)))
  have HX := Lib.hid (And.intro hi (And.intro hj (And.intro hx hy)))
  have HG0 := Lib.hid hG0
  have HJ0 := Lib.hid hJ0
  clear hY JB hE0 hE hEd hEB hEC hi hj hx hy hD hBd hBc hG0 hJ0 h0 hJ hW
  refine callsIn_of_wp Try.func48 rfl trivial ?_ rfl
  simp only [Try.ntmps48, List.size_toArray, List.length_cons, List.length_nil, Nat.reduceAdd, Nat.reduceSub, Array.replicate_succ, Array.replicate_zero, List.push_toArray, List.append_toArray, List.nil_append, List.cons_append]
  gi_wp2
  gi_loopw [14] (fun v wr => ∃ (k : Nat) (pre : List (StS s al ot sk ss db x y sn i j)), k ≤ 3 ∧ v = .int .i64 (k : Int) ∧ Hid (pre.map (·.1) = preS s al ot sk ss db x y sn i j k ∧ J pre wr ∧ StG wr W.heap.size d Bd Bc i j a n c s al ot sk ss db x y sn mb))
    (fun v _ => 3 - (intOf v).toNat)
  case atStart => exact ⟨0, [], by omega, rfl, rfl, HJ0.out, HG0.out⟩
  case round =>
    obtain ⟨k, pre, hk, rfl, HP⟩ := hrel
    clear HJ0 HG0
    by_cases hlt : k < 3
    · obtain ⟨hp, hJp, g0, gd, g1, g2⟩ := HP.out
      have c0 := g0.cell 0
      have c1 := g0.cell 1
      have c2 := g0.cell 2
      have e1 := g1.c1.1
      obtain ⟨e2, e3, _⟩ := g2.c2
      have l0 := g0.lt
      have l1 := g1.lt
      have l2 := g2.lt
      have hlen : pre.length < 3 := by
        have h1 := preS_len s al ot sk ss db x y sn i j k
        rw [← hp, List.length_map] at h1; omega
      have HL := Lib.hid hlen
      have HPP := Lib.hid hp
      clear hp hJp g0 gd g1 g2 hlen
      obtain rfl | rfl | rfl : k = 0 ∨ k = 1 ∨ k = 2 := by omega
      · have C : ∀ W2, Below wr.heap.size wr W2 → Calls Try.prog 49 #[.pointer (some ⟨d, 0, none⟩), cellV i j] W2 _ := fun W2 hb => have gd := HP.out.2.2.2.1.below hb; both_any d a n c s al ot sk ss db x y sn mb W2 gd.duel i j HX.out.1 HX.out.2.1 HX.out.2.2.1 HX.out.2.2.2
        have C' := Lib.hid C
        clear C
        cases hs : Says 0 i j s al ot sk ss db x y sn with
        | none =>
          rw [hs] at C'
          have HS := Lib.hid hs
          clear hs
          gi_wp2_with (refine ⟨trivial, fun h => (by cases h), ?_⟩; gi_at_call 49; (with_reducible refine (callsIn_wide.2 (C'.out _ ((Below.refl _ _).alloc (Nat.le_refl _) _))).mono ?_); rintro e w3 ⟨rfl, hb3⟩; have HB3 := Lib.hid (((Below.refl _ wr).alloc (Nat.le_refl _) _).trans (hb3.mono (by simp))); clear hb3)
          have HB4 := Lib.hid (HB3.out.alloc HB3.out.size (.cells #[.int .i64 0, .int .i64 0] 41))
          refine ⟨fun _ h => (by cases h), ?_⟩
          gi_wp2
          go_roundw
          case rel => exact ⟨1, pre, by omega, by go_num, by show _ = _ ++ _; rw [HS.out, HPP.out]; simp, HJB.out _ _ _ HP.out.2.1 HB4.out, HP.out.2.2.below HB4.out⟩
          case measure => simp [intOf]
        | some t =>
          rw [hs] at C'
          have HS := Lib.hid hs
          clear hs
          obtain ⟨⟨t1, t2⟩, t3⟩ := t
          gi_wp2_with (refine ⟨trivial, fun h => (by cases h), ?_⟩; gi_at_call 49; (with_reducible refine (callsIn_wide.2 (C'.out _ ((Below.refl _ _).alloc (Nat.le_refl _) _))).mono ?_); rintro e w3 ⟨rfl, hb3⟩; have hb4 := (((Below.refl _ wr).alloc (Nat.le_refl _) (.cells #[.func (.func 49) #[] #[]] 94)).trans (hb3.mono (by simp))); have HB4 := Lib.hid (hb4.alloc hb4.size (.cells #[.int .i64 t1, .int .i64 t2] 41)); clear hb3 hb4; obtain ⟨fn, tmps, assign, body, hy, hR⟩ := HY.out pre ⟨((t1, t2), t3), says_mem s al ot sk ss db x y sn i j 0 (by omega) HS.out⟩ _ (HJB.out _ _ _ HP.out.2.1 HB4.out) HL.out; dsimp only at hy)
          refine ⟨fun h => (by cases h), hR.mono ?_⟩
          rintro e W3 (⟨rfl, hJ3, hk3⟩ | ⟨rfl, hJx3⟩)
          · have HK3 := Lib.hid hk3
            have HJ3 := Lib.hid hJ3
            clear hk3 hJ3 hR hy
            gi_wp2
            go_roundw
            case rel => exact ⟨1, pre ++ [⟨((t1, t2), t3), says_mem s al ot sk ss db x y sn i j 0 (by omega) HS.out⟩], by omega, by go_num, by rw [List.map_append, HPP.out]; exact preS_snoc s al ot sk ss db x y sn i j _ HS.out, HJ3.out, (HP.out.2.2.below HB4.out).kept HK3.out HE.out.1 HE.out.2.1 HE.out.2.2.1 HE.out.2.2.2⟩
            case measure => simp [intOf]
          · have HJ3 := Lib.hid hJx3
            clear hJx3 hR hy
            gi_wp2
            refine bodyPost_ret (results_none rfl _ _ _) rfl ?_
            refine ⟨⟨_, rfl⟩, .inr ⟨_, ?_, HJ3.out⟩⟩
            rw [List.map_append, HPP.out]
            have := preS_pre s al ot sk ss db x y sn i j 1 (by omega)
            simp only [preS, HS.out] at this ⊢
            exact this
      · have C : ∀ W2, Below wr.heap.size wr W2 → Calls Try.prog 50 #[.pointer (some ⟨d, 0, none⟩), cellV i j] W2 _ := fun W2 hb => have gd := HP.out.2.2.2.1.below hb; first_any d a n c s al ot sk ss db x y sn mb W2 gd.duel i j HX.out.1 HX.out.2.2.1
        have C' := Lib.hid C
        clear C
        cases hs : Says 1 i j s al ot sk ss db x y sn with
        | none =>
          rw [hs] at C'
          have HS := Lib.hid hs
          clear hs
          gi_wp2_with (refine ⟨trivial, fun h => (by cases h), ?_⟩; gi_at_call 50; (with_reducible refine (callsIn_wide.2 (C'.out _ ((Below.refl _ _).alloc (Nat.le_refl _) _))).mono ?_); rintro e w3 ⟨rfl, hb3⟩; have HB3 := Lib.hid (((Below.refl _ wr).alloc (Nat.le_refl _) _).trans (hb3.mono (by simp))); clear hb3)
          have HB4 := Lib.hid (HB3.out.alloc HB3.out.size (.cells #[.int .i64 0, .int .i64 0] 41))
          refine ⟨fun _ h => (by cases h), ?_⟩
          gi_wp2
          go_roundw
          case rel => exact ⟨2, pre, by omega, by go_num, by show _ = _ ++ _; rw [HS.out, HPP.out]; simp, HJB.out _ _ _ HP.out.2.1 HB4.out, HP.out.2.2.below HB4.out⟩
          case measure => simp [intOf]
        | some t =>
          rw [hs] at C'
          have HS := Lib.hid hs
          clear hs
          obtain ⟨⟨t1, t2⟩, t3⟩ := t
          gi_wp2_with (refine ⟨trivial, fun h => (by cases h), ?_⟩; gi_at_call 50; (with_reducible refine (callsIn_wide.2 (C'.out _ ((Below.refl _ _).alloc (Nat.le_refl _) _))).mono ?_); rintro e w3 ⟨rfl, hb3⟩; have hb4 := (((Below.refl _ wr).alloc (Nat.le_refl _) (.cells #[.func (.func 50) #[] #[]] 94)).trans (hb3.mono (by simp))); have HB4 := Lib.hid (hb4.alloc hb4.size (.cells #[.int .i64 t1, .int .i64 t2] 41)); clear hb3 hb4; obtain ⟨fn, tmps, assign, body, hy, hR⟩ := HY.out pre ⟨((t1, t2), t3), says_mem s al ot sk ss db x y sn i j 1 (by omega) HS.out⟩ _ (HJB.out _ _ _ HP.out.2.1 HB4.out) HL.out; dsimp only at hy)
          refine ⟨fun h => (by cases h), hR.mono ?_⟩
          rintro e W3 (⟨rfl, hJ3, hk3⟩ | ⟨rfl, hJx3⟩)
          · have HK3 := Lib.hid hk3
            have HJ3 := Lib.hid hJ3
            clear hk3 hJ3 hR hy
            gi_wp2
            go_roundw
            case rel => exact ⟨2, pre ++ [⟨((t1, t2), t3), says_mem s al ot sk ss db x y sn i j 1 (by omega) HS.out⟩], by omega, by go_num, by rw [List.map_append, HPP.out]; exact preS_snoc s al ot sk ss db x y sn i j _ HS.out, HJ3.out, (HP.out.2.2.below HB4.out).kept HK3.out HE.out.1 HE.out.2.1 HE.out.2.2.1 HE.out.2.2.2⟩
            case measure => simp [intOf]
          · have HJ3 := Lib.hid hJx3
            clear hJx3 hR hy
            gi_wp2
            refine bodyPost_ret (results_none rfl _ _ _) rfl ?_
            refine ⟨⟨_, rfl⟩, .inr ⟨_, ?_, HJ3.out⟩⟩
            rw [List.map_append, HPP.out]
            have := preS_pre s al ot sk ss db x y sn i j 2 (by omega)
            simp only [preS, HS.out] at this ⊢
            exact this
      · have C : ∀ W2, Below wr.heap.size wr W2 → Calls Try.prog 51 #[.pointer (some ⟨d, 0, none⟩), cellV i j] W2 _ := fun W2 hb => have gd := HP.out.2.2.2.1.below hb; second_any d a n c s al ot sk ss db x y sn mb W2 gd.duel i j HX.out.2.1 HX.out.2.2.2
        have C' := Lib.hid C
        clear C
        cases hs : Says 2 i j s al ot sk ss db x y sn with
        | none =>
          rw [hs] at C'
          have HS := Lib.hid hs
          clear hs
          gi_wp2_with (refine ⟨trivial, fun h => (by cases h), ?_⟩; gi_at_call 51; (with_reducible refine (callsIn_wide.2 (C'.out _ ((Below.refl _ _).alloc (Nat.le_refl _) _))).mono ?_); rintro e w3 ⟨rfl, hb3⟩; have HB3 := Lib.hid (((Below.refl _ wr).alloc (Nat.le_refl _) _).trans (hb3.mono (by simp))); clear hb3)
          have HB4 := Lib.hid (HB3.out.alloc HB3.out.size (.cells #[.int .i64 0, .int .i64 0] 41))
          refine ⟨fun _ h => (by cases h), ?_⟩
          gi_wp2
          go_roundw
          case rel => exact ⟨3, pre, by omega, by go_num, by show _ = _ ++ _; rw [HS.out, HPP.out]; simp, HJB.out _ _ _ HP.out.2.1 HB4.out, HP.out.2.2.below HB4.out⟩
          case measure => simp [intOf]
        | some t =>
          rw [hs] at C'
          have HS := Lib.hid hs
          clear hs
          obtain ⟨⟨t1, t2⟩, t3⟩ := t
          gi_wp2_with (refine ⟨trivial, fun h => (by cases h), ?_⟩; gi_at_call 51; (with_reducible refine (callsIn_wide.2 (C'.out _ ((Below.refl _ _).alloc (Nat.le_refl _) _))).mono ?_); rintro e w3 ⟨rfl, hb3⟩; have hb4 := (((Below.refl _ wr).alloc (Nat.le_refl _) (.cells #[.func (.func 51) #[] #[]] 94)).trans (hb3.mono (by simp))); have HB4 := Lib.hid (hb4.alloc hb4.size (.cells #[.int .i64 t1, .int .i64 t2] 41)); clear hb3 hb4; obtain ⟨fn, tmps, assign, body, hy, hR⟩ := HY.out pre ⟨((t1, t2), t3), says_mem s al ot sk ss db x y sn i j 2 (by omega) HS.out⟩ _ (HJB.out _ _ _ HP.out.2.1 HB4.out) HL.out; dsimp only at hy)
          refine ⟨fun h => (by cases h), hR.mono ?_⟩
          rintro e W3 (⟨rfl, hJ3, hk3⟩ | ⟨rfl, hJx3⟩)
          · have HK3 := Lib.hid hk3
            have HJ3 := Lib.hid hJ3
            clear hk3 hJ3 hR hy
            gi_wp2
            go_roundw
            case rel => exact ⟨3, pre ++ [⟨((t1, t2), t3), says_mem s al ot sk ss db x y sn i j 2 (by omega) HS.out⟩], by omega, by go_num, by rw [List.map_append, HPP.out]; exact preS_snoc s al ot sk ss db x y sn i j _ HS.out, HJ3.out, (HP.out.2.2.below HB4.out).kept HK3.out HE.out.1 HE.out.2.1 HE.out.2.2.1 HE.out.2.2.2⟩
            case measure => simp [intOf]
          · have HJ3 := Lib.hid hJx3
            clear hJx3 hR hy
            gi_wp2
            refine bodyPost_ret (results_none rfl _ _ _) rfl ?_
            refine ⟨⟨_, rfl⟩, .inr ⟨_, ?_, HJ3.out⟩⟩
            rw [List.map_append, HPP.out]
            have := preS_pre s al ot sk ss db x y sn i j 3 (by omega)
            simp only [preS, HS.out] at this ⊢
            exact this
    · obtain rfl : k = 3 := by omega
      have H := Lib.hid HP.out
      clear HP
      gi_wp2
      go_end0
      exact ⟨⟨_, rfl⟩, .inl ⟨pre, by rw [H.out.1, preS_all], H.out.2.1⟩⟩
end Go.Proofs.Ytkdflgaahhnigaa

namespace Go.Proofs.Ytkdflgaahhnigaa
open Go.RowKit Go.Shelf

theorem rowsIn_round {l n : Nat} {P : Program} {row : String} {args : Array Value} {w : World} {R : Value → World → Prop} (h : Rows P row args w R) : RowsIn (Fence.wide.inRound l) n P row args w R :=
  fun c cs _ => let ⟨v, w', r, s⟩ := h c cs; ⟨v, w', r, stepsIn_wide.2 s⟩
theorem callsIn_round {l n : Nat} {P : Program} {f : FuncId} {args : Array Value} {w : World} {R : Ending → World → Prop} (h : Calls P f args w R) : CallsIn (Fence.wide.inRound l) n P f args w R :=
  CallsIn.inRound l (callsIn_wide.2 h)
theorem oper_round {l n : Nat} {P : Program} {o : Oper} {a : Act} {w : World} {K : Act → World → Prop} {Q : Exit → Act → World → Prop} (hd : ∀ c, o.op ≠ .defer c) (hQ : ¬ LetsOut Q) (h : o.wp P a w K Q) : o.wpIn (Fence.wide.inRound l) n P a w K Q := by
  refine ⟨fun _ _ => trivial, ?_⟩
  rw [Oper.semAt_eq _ _ _ hd]
  unfold Oper.wp at h
  generalize (execOp a.eval o).run P w = r at *
  cases r with
  | ok x w' =>
    cases x with
    | value v => exact h
    | skip => exact h
    | defer d => exact h
    | enter f args =>
      refine ⟨fun h => (by cases h), (callsIn_round h).mono fun e w'' he => ?_⟩
      cases e with
      | returned v => exact he
      | panicked c => exact he
      | outgrown => exact absurd he hQ
    | row row args => exact ⟨fun h => (by cases h), rowsIn_round h⟩
    | _ => exact h.elim
  | halt x w' =>
    cases x <;> exact h
theorem wpAny_round {l n : Nat} {P : Program} {md : Region.Mode} {ops : Array Oper} {Q : Exit → Act → World → Prop} (hd : ∀ (i : Nat) (o : Oper), ops[i]? = some o → ∀ c, o.op ≠ .defer c) (hQ : ¬ LetsOut Q) :
    ∀ (fuel : Nat) (listed : Array Bool) (a : Act) (w : World), wpAny P md ops Q fuel listed a w → wpAnyIn (Fence.wide.inRound l) n P md ops Q fuel listed a w
  | 0, _, _, _, h => h
  | fuel + 1, listed, a, w, h => ⟨h.1, fun i hi => by
    have h2 := h.2 i hi
    unfold wpOp at h2
    unfold wpOpIn
    cases ho : ops[i]? with
    | none => rw [ho] at h2; exact wpAny_round hd hQ fuel _ a w h2
    | some o =>
      rw [ho] at h2
      simp only at h2 ⊢
      split
      · rename_i hw
        rw [if_pos hw] at h2
        rcases h2 with h2 | h2
        · exact Oper.wpIn_mono (fun a w => wpAny_round hd hQ fuel _ a w) (oper_round (hd i o ho) hQ h2)
        · exact absurd h2.2 hQ
      · rename_i hw
        rw [if_neg hw] at h2
        exact ⟨fun _ _ => trivial, wpAny_round hd hQ fuel _ _ w h2⟩⟩
/-- no operation is a defer statement -/
def noDefer (ops : Array Oper) : Bool := ops.all fun o => match o.op with | .defer _ => false | _ => true
theorem noDefer_spec {ops : Array Oper} (h : noDefer ops = true) (i : Nat) (o : Oper) (ho : ops[i]? = some o) (c : Call) : o.op ≠ .defer c := by
  obtain ⟨hi, rfl⟩ := Array.getElem?_eq_some_iff.1 ho
  have := Array.all_eq_true.1 h i hi
  intro e
  rw [e] at this
  cases this
/-- a drawn region within a round -/
theorem wpIn_region_round {S : World → Prop} {l n id : Nat} {P : Program} {ops : Array Oper} {Q : Exit → Act → World → Prop} {a : Act} {w : World} (hm : P.follows .mixedOrders = true) (hd : noDefer ops = true) (hQ : ¬ LetsOut Q) (hS : S w.drew)
    (h : S w.drew → wpAnyH P .any ops Q S ops.size (Array.replicate ops.size false) a w.drew) : (Code.region id ops true).wpIn (Fence.wide.inRound l) n P Q a w :=
  wpIn_region_any hm (wpAny_round (noDefer_spec hd) hQ _ _ _ _ (wpAny_of_held _ _ _ _ (h hS)))
end Go.Proofs.Ytkdflgaahhnigaa
