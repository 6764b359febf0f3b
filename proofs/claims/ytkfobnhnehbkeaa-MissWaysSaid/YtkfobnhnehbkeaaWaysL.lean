/- The walk of the statement on numbers of ways. -/
import Derived.Test.YtkfobnhnehbkeaaKeep
namespace Go.Proofs.Ytkfobnhnehbkeaa
open Go.RowKit Go.Shelf
open Mis (ch)

set_option maxRecDepth 100000 in
set_option maxHeartbeats 2000000 in
theorem MissWays_n (n k : Int) (L M S F : Int) (w : World) (h : inB n 0 60 = false) : Calls Try.prog 17 #[.int .i64 n, .int .i64 k, areaV L M S F] w fun e w' => e = .returned (.bool true) ∧ Below w.heap.size w w' := by
  have C50 := Lib.hid (fun w => CheckArea_any L M S F w)
  have C22 := Lib.hid (fun w => fault_any L M S F w)
  have C49 := Lib.hid (fun w => Ways_bad n k w (by rw [h]; rfl))
  have C23 := Lib.hid (fun w => In_any n 0 60 w)
  rw [h] at C23
  clear h
  generalize faultI L M S F = fi at *
  have s0 := (KS.start w).new #[.int .i64 L, .int .i64 M, .int .i64 S, .int .i64 F] 23
  obtain ⟨kb0_0, kb0_1, kb0_2, kb0_3⟩ := (s0.blkAt 0 rfl).c4
  have S0 := Lib.hid s0
  clear s0
  go_enter Try.func17, Try.ntmps17
  go_wp2_with fail
  refine (C49.out _).mono ?_
  rintro e w1 ⟨rfl, h1⟩
  clear kb0_0 kb0_1 kb0_2 kb0_3
  have s1 := S0.out.below h1
  obtain ⟨kb0_0, kb0_1, kb0_2, kb0_3⟩ := (s1.blkAt 0 rfl).c4
  have S1 := Lib.hid s1
  clear h1 s1
  go_wp2_with fail
  obtain ⟨BS, hBS⟩ : ∃ BS : List (Nat × Array Value × TypeId), BS = [(w.heap.size, #[.int .i64 L, .int .i64 M, .int .i64 S, .int .i64 F], 23)] := ⟨_, rfl⟩
  have hS : KS w BS w1 := by rw [hBS]; exact S1.out
  have K0_0 : ∀ W, KS w BS W → W.cell? ⟨w.heap.size, 0, none⟩ = some (.int .i64 L) := fun W h => by rw [hBS] at h; exact (h.blkAt 0 rfl).cell 0
  have K0_1 : ∀ W, KS w BS W → W.cell? ⟨w.heap.size, 1, none⟩ = some (.int .i64 M) := fun W h => by rw [hBS] at h; exact (h.blkAt 0 rfl).cell 1
  have K0_2 : ∀ W, KS w BS W → W.cell? ⟨w.heap.size, 2, none⟩ = some (.int .i64 S) := fun W h => by rw [hBS] at h; exact (h.blkAt 0 rfl).cell 2
  have K0_3 : ∀ W, KS w BS W → W.cell? ⟨w.heap.size, 3, none⟩ = some (.int .i64 F) := fun W h => by rw [hBS] at h; exact (h.blkAt 0 rfl).cell 3
  have HBS := Lib.hid hBS
  clear hBS kb0_0 kb0_1 kb0_2 kb0_3
  go_region_held3 (KS w BS)
    (first | assumption | exact KS.drew (by assumption) | exact KS.alloc (by assumption) _ | exact KS.drew (KS.alloc (by assumption) _) | exact KS.alloc (KS.drew (by assumption)) _ | go_keep)
    (first | (go_at_call 20; (with_reducible refine (Area_any _ _ _ _ _).mono ?_); rintro e wn ⟨rfl, hb⟩; have hSn := KS.below (by first | assumption | exact KS.drew (by assumption)) hb; clear hb) | (go_at_call 50; (with_reducible refine (C50.out _).mono ?_); rintro e wn ⟨rfl, hb⟩; have hSn := KS.below (by first | assumption | exact KS.drew (by assumption)) hb; clear hb) | (go_at_call 22; (with_reducible refine (C22.out _).mono ?_); rintro e wn ⟨rfl, hb⟩; have hSn := KS.below (by first | assumption | exact KS.drew (by assumption)) hb; clear hb))
  all_goals
    go_wp2_with (first | (go_at_call 23; (with_reducible refine (C23.out _).mono ?_); rintro e w' ⟨rfl, rfl⟩) | (go_at_call 24; (with_reducible refine (awake_any _).mono ?_); rintro e w9 ⟨rfl, h9⟩; have S9 := KS.below (by first | assumption | exact KS.drewN (by assumption) _) h9; clear h9))
    go_ret
    exact ⟨rfl, S9.bel⟩
set_option maxRecDepth 100000 in
set_option maxHeartbeats 2000000 in
theorem MissWays_k (n k : Int) (L M S F : Int) (w : World) (h : inB n 0 60 = true) (hk : inB k 0 60 = false) : Calls Try.prog 17 #[.int .i64 n, .int .i64 k, areaV L M S F] w fun e w' => e = .returned (.bool true) ∧ Below w.heap.size w w' := by
  have C50 := Lib.hid (fun w => CheckArea_any L M S F w)
  have C22 := Lib.hid (fun w => fault_any L M S F w)
  have C49 := Lib.hid (fun w => Ways_bad n k w (by rw [h, hk]; rfl))
  have C23 := Lib.hid (fun w => In_any n 0 60 w)
  have D23 := Lib.hid (fun w => In_any k 0 60 w)
  rw [h] at C23
  rw [hk] at D23
  clear h hk
  generalize faultI L M S F = fi at *
  have s0 := (KS.start w).new #[.int .i64 L, .int .i64 M, .int .i64 S, .int .i64 F] 23
  obtain ⟨kb0_0, kb0_1, kb0_2, kb0_3⟩ := (s0.blkAt 0 rfl).c4
  have S0 := Lib.hid s0
  clear s0
  go_enter Try.func17, Try.ntmps17
  go_wp2_with fail
  refine (C49.out _).mono ?_
  rintro e w1 ⟨rfl, h1⟩
  clear kb0_0 kb0_1 kb0_2 kb0_3
  have s1 := S0.out.below h1
  obtain ⟨kb0_0, kb0_1, kb0_2, kb0_3⟩ := (s1.blkAt 0 rfl).c4
  have S1 := Lib.hid s1
  clear h1 s1
  go_wp2_with fail
  obtain ⟨BS, hBS⟩ : ∃ BS : List (Nat × Array Value × TypeId), BS = [(w.heap.size, #[.int .i64 L, .int .i64 M, .int .i64 S, .int .i64 F], 23)] := ⟨_, rfl⟩
  have hS : KS w BS w1 := by rw [hBS]; exact S1.out
  have K0_0 : ∀ W, KS w BS W → W.cell? ⟨w.heap.size, 0, none⟩ = some (.int .i64 L) := fun W h => by rw [hBS] at h; exact (h.blkAt 0 rfl).cell 0
  have K0_1 : ∀ W, KS w BS W → W.cell? ⟨w.heap.size, 1, none⟩ = some (.int .i64 M) := fun W h => by rw [hBS] at h; exact (h.blkAt 0 rfl).cell 1
  have K0_2 : ∀ W, KS w BS W → W.cell? ⟨w.heap.size, 2, none⟩ = some (.int .i64 S) := fun W h => by rw [hBS] at h; exact (h.blkAt 0 rfl).cell 2
  have K0_3 : ∀ W, KS w BS W → W.cell? ⟨w.heap.size, 3, none⟩ = some (.int .i64 F) := fun W h => by rw [hBS] at h; exact (h.blkAt 0 rfl).cell 3
  have HBS := Lib.hid hBS
  clear hBS kb0_0 kb0_1 kb0_2 kb0_3
  go_region_held3 (KS w BS)
    (first | assumption | exact KS.drew (by assumption) | exact KS.alloc (by assumption) _ | exact KS.drew (KS.alloc (by assumption) _) | exact KS.alloc (KS.drew (by assumption)) _ | go_keep)
    (first | (go_at_call 20; (with_reducible refine (Area_any _ _ _ _ _).mono ?_); rintro e wn ⟨rfl, hb⟩; have hSn := KS.below (by first | assumption | exact KS.drew (by assumption)) hb; clear hb) | (go_at_call 50; (with_reducible refine (C50.out _).mono ?_); rintro e wn ⟨rfl, hb⟩; have hSn := KS.below (by first | assumption | exact KS.drew (by assumption)) hb; clear hb) | (go_at_call 22; (with_reducible refine (C22.out _).mono ?_); rintro e wn ⟨rfl, hb⟩; have hSn := KS.below (by first | assumption | exact KS.drew (by assumption)) hb; clear hb))
  all_goals
    go_wp2_with (first | (go_at_call 23; (with_reducible refine (C23.out _).mono ?_); rintro e w' ⟨rfl, rfl⟩) | (go_at_call 23; (with_reducible refine (D23.out _).mono ?_); rintro e w' ⟨rfl, rfl⟩) | (go_at_call 24; (with_reducible refine (awake_any _).mono ?_); rintro e w9 ⟨rfl, h9⟩; have S9 := KS.below (by first | assumption | exact KS.drewN (by assumption) _) h9; clear h9))
    go_ret
    exact ⟨rfl, S9.bel⟩
set_option maxRecDepth 100000 in
set_option maxHeartbeats 2000000 in
theorem MissWays_ok (n k : Nat) (L M S F : Int) (w : World) (h : n ≤ 60) (hk : k ≤ 60) : Calls Try.prog 17 #[.int .i64 n, .int .i64 k, areaV L M S F] w fun e w' => e = .returned (.bool true) ∧ Below w.heap.size w w' := by
  have C50 := Lib.hid (fun w => CheckArea_any L M S F w)
  have C22 := Lib.hid (fun w => fault_any L M S F w)
  have C49 := Lib.hid (fun w => Ways_ok n k w h hk)
  have C48 := Lib.hid (fun w => rWays_any n k w h)
  have C23 := Lib.hid (fun w => In_any n 0 60 w)
  have D23 := Lib.hid (fun w => In_any k 0 60 w)
  rw [show inB (n : Int) 0 60 = true from inB_iff.2 ⟨by omega, by omega⟩] at C23
  rw [show inB (k : Int) 0 60 = true from inB_iff.2 ⟨by omega, by omega⟩] at D23
  generalize ch n k = c at *
  clear h hk
  generalize faultI L M S F = fi at *
  have s0 := (KS.start w).new #[.int .i64 L, .int .i64 M, .int .i64 S, .int .i64 F] 23
  obtain ⟨kb0_0, kb0_1, kb0_2, kb0_3⟩ := (s0.blkAt 0 rfl).c4
  have S0 := Lib.hid s0
  clear s0
  go_enter Try.func17, Try.ntmps17
  go_wp2_with fail
  refine (C49.out _).mono ?_
  rintro e w1 ⟨rfl, h1⟩
  clear kb0_0 kb0_1 kb0_2 kb0_3
  have s1 := S0.out.below h1
  obtain ⟨kb0_0, kb0_1, kb0_2, kb0_3⟩ := (s1.blkAt 0 rfl).c4
  have S1 := Lib.hid s1
  clear h1 s1
  go_wp2_with fail
  obtain ⟨BS, hBS⟩ : ∃ BS : List (Nat × Array Value × TypeId), BS = [(w.heap.size, #[.int .i64 L, .int .i64 M, .int .i64 S, .int .i64 F], 23)] := ⟨_, rfl⟩
  have hS : KS w BS w1 := by rw [hBS]; exact S1.out
  have K0_0 : ∀ W, KS w BS W → W.cell? ⟨w.heap.size, 0, none⟩ = some (.int .i64 L) := fun W h => by rw [hBS] at h; exact (h.blkAt 0 rfl).cell 0
  have K0_1 : ∀ W, KS w BS W → W.cell? ⟨w.heap.size, 1, none⟩ = some (.int .i64 M) := fun W h => by rw [hBS] at h; exact (h.blkAt 0 rfl).cell 1
  have K0_2 : ∀ W, KS w BS W → W.cell? ⟨w.heap.size, 2, none⟩ = some (.int .i64 S) := fun W h => by rw [hBS] at h; exact (h.blkAt 0 rfl).cell 2
  have K0_3 : ∀ W, KS w BS W → W.cell? ⟨w.heap.size, 3, none⟩ = some (.int .i64 F) := fun W h => by rw [hBS] at h; exact (h.blkAt 0 rfl).cell 3
  have HBS := Lib.hid hBS
  clear hBS kb0_0 kb0_1 kb0_2 kb0_3
  go_region_held3 (KS w BS)
    (first | assumption | exact KS.drew (by assumption) | exact KS.alloc (by assumption) _ | exact KS.drew (KS.alloc (by assumption) _) | exact KS.alloc (KS.drew (by assumption)) _ | go_keep)
    (first | (go_at_call 20; (with_reducible refine (Area_any _ _ _ _ _).mono ?_); rintro e wn ⟨rfl, hb⟩; have hSn := KS.below (by first | assumption | exact KS.drew (by assumption)) hb; clear hb) | (go_at_call 50; (with_reducible refine (C50.out _).mono ?_); rintro e wn ⟨rfl, hb⟩; have hSn := KS.below (by first | assumption | exact KS.drew (by assumption)) hb; clear hb) | (go_at_call 22; (with_reducible refine (C22.out _).mono ?_); rintro e wn ⟨rfl, hb⟩; have hSn := KS.below (by first | assumption | exact KS.drew (by assumption)) hb; clear hb))
  all_goals
    go_wp2_with (first | (go_at_call 23; (with_reducible refine (C23.out _).mono ?_); rintro e w' ⟨rfl, rfl⟩) | (go_at_call 23; (with_reducible refine (D23.out _).mono ?_); rintro e w' ⟨rfl, rfl⟩) | (go_at_call 48; (with_reducible refine (C48.out _).mono ?_); rintro e w' ⟨rfl, q, rfl⟩) | (go_at_call 24; (with_reducible refine (awake_any _).mono ?_); rintro e w9 ⟨rfl, h9⟩; have S9 := KS.below (by first | assumption | exact KS.drewN (by assumption) _) h9; clear h9))
    go_ret
    exact ⟨rfl, S9.bel⟩
theorem MissWays_walk (n k L M S F : Int) (w : World) : Calls Try.prog 17 #[.int .i64 n, .int .i64 k, areaV L M S F] w fun e w' => e = .returned (.bool true) ∧ Below w.heap.size w w' := by
  cases h : inB n 0 60 with
  | false => exact MissWays_n n k L M S F w h
  | true =>
    cases hk : inB k 0 60 with
    | false => exact MissWays_k n k L M S F w h hk
    | true =>
      obtain ⟨h1, h2⟩ := inB_iff.1 h
      obtain ⟨h3, h4⟩ := inB_iff.1 hk
      obtain ⟨a, rfl⟩ : ∃ a : Nat, n = a := ⟨n.toNat, by omega⟩
      obtain ⟨b, rfl⟩ : ∃ b : Nat, k = b := ⟨k.toNat, by omega⟩
      exact MissWays_ok a b L M S F w (by omega) (by omega)
end Go.Proofs.Ytkfobnhnehbkeaa
