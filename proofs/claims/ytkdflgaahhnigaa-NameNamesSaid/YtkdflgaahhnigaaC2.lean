/- Texts of package name, for this seat. -/
import Derived.Test.YtkdflgaahhnigaaC1
set_option linter.unusedVariables false
set_option linter.unusedSimpArgs false
namespace Go.Proofs.Ytkdflgaahhnigaa
open Go.RowKit Go.Shelf

/-- what it costs to skip a letter -/
def skV (s : ByteArray) (sk ss db : Int) (t : List UInt8) (i : Nat) : Int :=
  if 0 < i ∧ t.getD i 0 = t.getD (i - 1) 0 then db else if decide (t.getD i 0 ∈ s.data.toList) = true then ss else sk
theorem getD_size (t : ByteArray) (i : Nat) (h : i < t.size) : t.data.toList.getD i 0 = t[i] := by
  rw [List.getD_eq_getElem?_getD, List.getElem?_eq_getElem (by simpa using h)]; rfl
set_option maxRecDepth 100000 in
set_option maxHeartbeats 1000000 in
theorem alone_soft0 (a : Option Addr) (n c : Nat) (s : ByteArray) (al ot sk ss db : Int) (t : ByteArray) (hi : 0 < t.size) (hs : inS s t[0] = true) (w : World) :
    Calls Try.prog 69 #[rulesV a n c s al ot sk ss db, .string t, .int .i64 0] w fun e w' => e = .returned (.int .i64 ss) ∧ Below w.heap.size w w' := by
  have C := Lib.hid (fun w => soft_any a n c s al ot sk ss db t[0] w)
  rw [hs] at C
  clear hs
  have s0 := (KS.start w).new (rulesC a n c s al ot sk ss db) 27
  have S0 := Lib.hid s0
  have B0 := (s0.blkAt 0 rfl).c7
  obtain ⟨k0, k1, k2, k3, k4, k5, k6⟩ := B0
  clear s0
  go_enter Try.func69, Try.ntmps69
  go_wp2_with fail
  go_quiet (fail)
  go_wp2_with fail
  obtain ⟨BS, hBS⟩ : ∃ BS : List (Nat × Array Value × TypeId), BS = [(w.heap.size, #[.slice a n c, .string s, .int .i64 al, .int .i64 ot, .int .i64 sk, .int .i64 ss, .int .i64 db], 27)] := ⟨_, rfl⟩
  have hS : KS w BS ((w.alloc (.cells (rulesC a n c s al ot sk ss db) 27)).drewN nq) := by rw [hBS]; exact S0.out.drewN _
  have K0_0 : ∀ W, KS w BS W → W.cell? ⟨w.heap.size, 0, none⟩ = some (.slice a n c) := fun W h => by rw [hBS] at h; exact (h.blkAt 0 rfl).cell 0
  have K0_1 : ∀ W, KS w BS W → W.cell? ⟨w.heap.size, 1, none⟩ = some (.string s) := fun W h => by rw [hBS] at h; exact (h.blkAt 0 rfl).cell 1
  have K0_2 : ∀ W, KS w BS W → W.cell? ⟨w.heap.size, 2, none⟩ = some (.int .i64 al) := fun W h => by rw [hBS] at h; exact (h.blkAt 0 rfl).cell 2
  have K0_3 : ∀ W, KS w BS W → W.cell? ⟨w.heap.size, 3, none⟩ = some (.int .i64 ot) := fun W h => by rw [hBS] at h; exact (h.blkAt 0 rfl).cell 3
  have K0_4 : ∀ W, KS w BS W → W.cell? ⟨w.heap.size, 4, none⟩ = some (.int .i64 sk) := fun W h => by rw [hBS] at h; exact (h.blkAt 0 rfl).cell 4
  have K0_5 : ∀ W, KS w BS W → W.cell? ⟨w.heap.size, 5, none⟩ = some (.int .i64 ss) := fun W h => by rw [hBS] at h; exact (h.blkAt 0 rfl).cell 5
  have K0_6 : ∀ W, KS w BS W → W.cell? ⟨w.heap.size, 6, none⟩ = some (.int .i64 db) := fun W h => by rw [hBS] at h; exact (h.blkAt 0 rfl).cell 6
  have HBS := Lib.hid hBS
  clear hBS k0 k1 k2 k3 k4 k5 k6
  go_region_held3 (KS w BS)
    (first | assumption | exact KS.drew (by assumption) | exact KS.alloc (by assumption) _ | exact KS.drew (KS.alloc (by assumption) _) | exact KS.alloc (KS.drew (by assumption)) _ | go_keep)
    (first | (go_at_call 20; (with_reducible refine (C.out _).mono ?_); rintro e wn ⟨rfl, hb⟩; have hSn := KS.below (by first | assumption | exact KS.drew (by assumption)) hb; clear hb))
  all_goals
    go_wp2_with fail
    go_ret
    first | exact ⟨rfl, KS.bel (w := w) (bs := BS) (by assumption)⟩ | exact ⟨rfl, (KS.drew (w := w) (bs := BS) (by assumption)).bel⟩
set_option maxRecDepth 100000 in
set_option maxHeartbeats 1000000 in
theorem alone_soft1 (a : Option Addr) (n c : Nat) (s : ByteArray) (al ot sk ss db : Int) (t : ByteArray) (ht : t.size ≤ 1000) (i : Nat) (h0 : 0 < i) (hi : i < t.size) (hne : t[i] ≠ t[i - 1]) (hs : inS s t[i] = true) (w : World) :
    Calls Try.prog 69 #[rulesV a n c s al ot sk ss db, .string t, .int .i64 (i : Int)] w fun e w' => e = .returned (.int .i64 ss) ∧ Below w.heap.size w w' := by
  have C := Lib.hid (fun w => soft_any a n c s al ot sk ss db t[i] w)
  rw [hs] at C
  clear hs
  have s0 := (KS.start w).new (rulesC a n c s al ot sk ss db) 27
  have S0 := Lib.hid s0
  have B0 := (s0.blkAt 0 rfl).c7
  obtain ⟨k0, k1, k2, k3, k4, k5, k6⟩ := B0
  clear s0
  have t0 : decide ((0 : Int) < (i : Int)) = true := by simp; omega
  obtain ⟨j, rfl⟩ : ∃ j, i = j + 1 := ⟨i - 1, by omega⟩
  have e1 : IntKind.i64.wrap (j : Int) = (j : Int) := IntWalk.i64_in _ (by omega)
  have p0 : (0 : Int) ≤ (j : Int) + 1 := by omega
  have p1 : (j : Int) + 1 < (t.size : Int) := by omega
  have p2 : (j : Int) < (t.size : Int) := by omega
  have q0 : ((j : Int) + 1).toNat = j + 1 := by omega
  simp only [Nat.add_sub_cancel] at hne
  have t1 : (((t[j + 1].toNat : Nat) : Int) == ((t[j].toNat : Nat) : Int)) = false := by
    rw [beq_eq_false_iff_ne]; intro e; exact hne (UInt8.toNat_inj.1 (by omega))
  go_enter Try.func69, Try.ntmps69
  go_wp2_with fail
  go_quiet (fail)
  go_wp2_with fail
  obtain ⟨BS, hBS⟩ : ∃ BS : List (Nat × Array Value × TypeId), BS = [(w.heap.size, #[.slice a n c, .string s, .int .i64 al, .int .i64 ot, .int .i64 sk, .int .i64 ss, .int .i64 db], 27)] := ⟨_, rfl⟩
  have hS : KS w BS ((w.alloc (.cells (rulesC a n c s al ot sk ss db) 27)).drewN nq) := by rw [hBS]; exact S0.out.drewN _
  have K0_0 : ∀ W, KS w BS W → W.cell? ⟨w.heap.size, 0, none⟩ = some (.slice a n c) := fun W h => by rw [hBS] at h; exact (h.blkAt 0 rfl).cell 0
  have K0_1 : ∀ W, KS w BS W → W.cell? ⟨w.heap.size, 1, none⟩ = some (.string s) := fun W h => by rw [hBS] at h; exact (h.blkAt 0 rfl).cell 1
  have K0_2 : ∀ W, KS w BS W → W.cell? ⟨w.heap.size, 2, none⟩ = some (.int .i64 al) := fun W h => by rw [hBS] at h; exact (h.blkAt 0 rfl).cell 2
  have K0_3 : ∀ W, KS w BS W → W.cell? ⟨w.heap.size, 3, none⟩ = some (.int .i64 ot) := fun W h => by rw [hBS] at h; exact (h.blkAt 0 rfl).cell 3
  have K0_4 : ∀ W, KS w BS W → W.cell? ⟨w.heap.size, 4, none⟩ = some (.int .i64 sk) := fun W h => by rw [hBS] at h; exact (h.blkAt 0 rfl).cell 4
  have K0_5 : ∀ W, KS w BS W → W.cell? ⟨w.heap.size, 5, none⟩ = some (.int .i64 ss) := fun W h => by rw [hBS] at h; exact (h.blkAt 0 rfl).cell 5
  have K0_6 : ∀ W, KS w BS W → W.cell? ⟨w.heap.size, 6, none⟩ = some (.int .i64 db) := fun W h => by rw [hBS] at h; exact (h.blkAt 0 rfl).cell 6
  have HBS := Lib.hid hBS
  clear hBS k0 k1 k2 k3 k4 k5 k6
  go_region_held3 (KS w BS)
    (first | assumption | exact KS.drew (by assumption) | exact KS.alloc (by assumption) _ | exact KS.drew (KS.alloc (by assumption) _) | exact KS.alloc (KS.drew (by assumption)) _ | go_keep)
    (first | (go_at_call 20; (with_reducible refine (C.out _).mono ?_); rintro e wn ⟨rfl, hb⟩; have hSn := KS.below (by first | assumption | exact KS.drew (by assumption)) hb; clear hb))
  all_goals
    go_wp2_with fail
    go_ret
    first | exact ⟨rfl, KS.bel (w := w) (bs := BS) (by assumption)⟩ | exact ⟨rfl, (KS.drew (w := w) (bs := BS) (by assumption)).bel⟩
set_option maxRecDepth 100000 in
set_option maxHeartbeats 1000000 in
theorem alone_hard0 (a : Option Addr) (n c : Nat) (s : ByteArray) (al ot sk ss db : Int) (t : ByteArray) (hi : 0 < t.size) (hs : inS s t[0] = false) (w : World) :
    Calls Try.prog 69 #[rulesV a n c s al ot sk ss db, .string t, .int .i64 0] w fun e w' => e = .returned (.int .i64 sk) ∧ Below w.heap.size w w' := by
  have C := Lib.hid (fun w => soft_any a n c s al ot sk ss db t[0] w)
  rw [hs] at C
  clear hs
  have s0 := (KS.start w).new (rulesC a n c s al ot sk ss db) 27
  have S0 := Lib.hid s0
  have B0 := (s0.blkAt 0 rfl).c7
  obtain ⟨k0, k1, k2, k3, k4, k5, k6⟩ := B0
  clear s0
  go_enter Try.func69, Try.ntmps69
  go_wp2_with fail
  go_quiet (fail)
  go_wp2_with fail
  obtain ⟨BS, hBS⟩ : ∃ BS : List (Nat × Array Value × TypeId), BS = [(w.heap.size, #[.slice a n c, .string s, .int .i64 al, .int .i64 ot, .int .i64 sk, .int .i64 ss, .int .i64 db], 27)] := ⟨_, rfl⟩
  have hS : KS w BS ((w.alloc (.cells (rulesC a n c s al ot sk ss db) 27)).drewN nq) := by rw [hBS]; exact S0.out.drewN _
  have K0_0 : ∀ W, KS w BS W → W.cell? ⟨w.heap.size, 0, none⟩ = some (.slice a n c) := fun W h => by rw [hBS] at h; exact (h.blkAt 0 rfl).cell 0
  have K0_1 : ∀ W, KS w BS W → W.cell? ⟨w.heap.size, 1, none⟩ = some (.string s) := fun W h => by rw [hBS] at h; exact (h.blkAt 0 rfl).cell 1
  have K0_2 : ∀ W, KS w BS W → W.cell? ⟨w.heap.size, 2, none⟩ = some (.int .i64 al) := fun W h => by rw [hBS] at h; exact (h.blkAt 0 rfl).cell 2
  have K0_3 : ∀ W, KS w BS W → W.cell? ⟨w.heap.size, 3, none⟩ = some (.int .i64 ot) := fun W h => by rw [hBS] at h; exact (h.blkAt 0 rfl).cell 3
  have K0_4 : ∀ W, KS w BS W → W.cell? ⟨w.heap.size, 4, none⟩ = some (.int .i64 sk) := fun W h => by rw [hBS] at h; exact (h.blkAt 0 rfl).cell 4
  have K0_5 : ∀ W, KS w BS W → W.cell? ⟨w.heap.size, 5, none⟩ = some (.int .i64 ss) := fun W h => by rw [hBS] at h; exact (h.blkAt 0 rfl).cell 5
  have K0_6 : ∀ W, KS w BS W → W.cell? ⟨w.heap.size, 6, none⟩ = some (.int .i64 db) := fun W h => by rw [hBS] at h; exact (h.blkAt 0 rfl).cell 6
  have HBS := Lib.hid hBS
  clear hBS k0 k1 k2 k3 k4 k5 k6
  go_region_held3 (KS w BS)
    (first | assumption | exact KS.drew (by assumption) | exact KS.alloc (by assumption) _ | exact KS.drew (KS.alloc (by assumption) _) | exact KS.alloc (KS.drew (by assumption)) _ | go_keep)
    (first | (go_at_call 20; (with_reducible refine (C.out _).mono ?_); rintro e wn ⟨rfl, hb⟩; have hSn := KS.below (by first | assumption | exact KS.drew (by assumption)) hb; clear hb))
  all_goals
    go_wp2_with fail
    go_ret
    first | exact ⟨rfl, KS.bel (w := w) (bs := BS) (by assumption)⟩ | exact ⟨rfl, (KS.drew (w := w) (bs := BS) (by assumption)).bel⟩
set_option maxRecDepth 100000 in
set_option maxHeartbeats 1000000 in
theorem alone_hard1 (a : Option Addr) (n c : Nat) (s : ByteArray) (al ot sk ss db : Int) (t : ByteArray) (ht : t.size ≤ 1000) (i : Nat) (h0 : 0 < i) (hi : i < t.size) (hne : t[i] ≠ t[i - 1]) (hs : inS s t[i] = false) (w : World) :
    Calls Try.prog 69 #[rulesV a n c s al ot sk ss db, .string t, .int .i64 (i : Int)] w fun e w' => e = .returned (.int .i64 sk) ∧ Below w.heap.size w w' := by
  have C := Lib.hid (fun w => soft_any a n c s al ot sk ss db t[i] w)
  rw [hs] at C
  clear hs
  have s0 := (KS.start w).new (rulesC a n c s al ot sk ss db) 27
  have S0 := Lib.hid s0
  have B0 := (s0.blkAt 0 rfl).c7
  obtain ⟨k0, k1, k2, k3, k4, k5, k6⟩ := B0
  clear s0
  have t0 : decide ((0 : Int) < (i : Int)) = true := by simp; omega
  obtain ⟨j, rfl⟩ : ∃ j, i = j + 1 := ⟨i - 1, by omega⟩
  have e1 : IntKind.i64.wrap (j : Int) = (j : Int) := IntWalk.i64_in _ (by omega)
  have p0 : (0 : Int) ≤ (j : Int) + 1 := by omega
  have p1 : (j : Int) + 1 < (t.size : Int) := by omega
  have p2 : (j : Int) < (t.size : Int) := by omega
  have q0 : ((j : Int) + 1).toNat = j + 1 := by omega
  simp only [Nat.add_sub_cancel] at hne
  have t1 : (((t[j + 1].toNat : Nat) : Int) == ((t[j].toNat : Nat) : Int)) = false := by
    rw [beq_eq_false_iff_ne]; intro e; exact hne (UInt8.toNat_inj.1 (by omega))
  go_enter Try.func69, Try.ntmps69
  go_wp2_with fail
  go_quiet (fail)
  go_wp2_with fail
  obtain ⟨BS, hBS⟩ : ∃ BS : List (Nat × Array Value × TypeId), BS = [(w.heap.size, #[.slice a n c, .string s, .int .i64 al, .int .i64 ot, .int .i64 sk, .int .i64 ss, .int .i64 db], 27)] := ⟨_, rfl⟩
  have hS : KS w BS ((w.alloc (.cells (rulesC a n c s al ot sk ss db) 27)).drewN nq) := by rw [hBS]; exact S0.out.drewN _
  have K0_0 : ∀ W, KS w BS W → W.cell? ⟨w.heap.size, 0, none⟩ = some (.slice a n c) := fun W h => by rw [hBS] at h; exact (h.blkAt 0 rfl).cell 0
  have K0_1 : ∀ W, KS w BS W → W.cell? ⟨w.heap.size, 1, none⟩ = some (.string s) := fun W h => by rw [hBS] at h; exact (h.blkAt 0 rfl).cell 1
  have K0_2 : ∀ W, KS w BS W → W.cell? ⟨w.heap.size, 2, none⟩ = some (.int .i64 al) := fun W h => by rw [hBS] at h; exact (h.blkAt 0 rfl).cell 2
  have K0_3 : ∀ W, KS w BS W → W.cell? ⟨w.heap.size, 3, none⟩ = some (.int .i64 ot) := fun W h => by rw [hBS] at h; exact (h.blkAt 0 rfl).cell 3
  have K0_4 : ∀ W, KS w BS W → W.cell? ⟨w.heap.size, 4, none⟩ = some (.int .i64 sk) := fun W h => by rw [hBS] at h; exact (h.blkAt 0 rfl).cell 4
  have K0_5 : ∀ W, KS w BS W → W.cell? ⟨w.heap.size, 5, none⟩ = some (.int .i64 ss) := fun W h => by rw [hBS] at h; exact (h.blkAt 0 rfl).cell 5
  have K0_6 : ∀ W, KS w BS W → W.cell? ⟨w.heap.size, 6, none⟩ = some (.int .i64 db) := fun W h => by rw [hBS] at h; exact (h.blkAt 0 rfl).cell 6
  have HBS := Lib.hid hBS
  clear hBS k0 k1 k2 k3 k4 k5 k6
  go_region_held3 (KS w BS)
    (first | assumption | exact KS.drew (by assumption) | exact KS.alloc (by assumption) _ | exact KS.drew (KS.alloc (by assumption) _) | exact KS.alloc (KS.drew (by assumption)) _ | go_keep)
    (first | (go_at_call 20; (with_reducible refine (C.out _).mono ?_); rintro e wn ⟨rfl, hb⟩; have hSn := KS.below (by first | assumption | exact KS.drew (by assumption)) hb; clear hb))
  all_goals
    go_wp2_with fail
    go_ret
    first | exact ⟨rfl, KS.bel (w := w) (bs := BS) (by assumption)⟩ | exact ⟨rfl, (KS.drew (w := w) (bs := BS) (by assumption)).bel⟩
set_option maxRecDepth 100000 in
set_option maxHeartbeats 1000000 in
theorem alone_double (a : Option Addr) (n c : Nat) (s : ByteArray) (al ot sk ss db : Int) (t : ByteArray) (ht : t.size ≤ 1000) (i : Nat) (h0 : 0 < i) (hi : i < t.size) (hne : t[i] = t[i - 1]) (w : World) :
    Calls Try.prog 69 #[rulesV a n c s al ot sk ss db, .string t, .int .i64 (i : Int)] w fun e w' => e = .returned (.int .i64 db) ∧ Below w.heap.size w w' := by
  have s0 := (KS.start w).new (rulesC a n c s al ot sk ss db) 27
  have S0 := Lib.hid s0
  have B0 := (s0.blkAt 0 rfl).c7
  obtain ⟨k0, k1, k2, k3, k4, k5, k6⟩ := B0
  clear s0
  have t0 : decide ((0 : Int) < (i : Int)) = true := by simp; omega
  obtain ⟨j, rfl⟩ : ∃ j, i = j + 1 := ⟨i - 1, by omega⟩
  have e1 : IntKind.i64.wrap (j : Int) = (j : Int) := IntWalk.i64_in _ (by omega)
  have p0 : (0 : Int) ≤ (j : Int) + 1 := by omega
  have p1 : (j : Int) + 1 < (t.size : Int) := by omega
  have p2 : (j : Int) < (t.size : Int) := by omega
  have q0 : ((j : Int) + 1).toNat = j + 1 := by omega
  simp only [Nat.add_sub_cancel] at hne
  have t1 : (((t[j + 1].toNat : Nat) : Int) == ((t[j].toNat : Nat) : Int)) = true := by rw [hne]; simp
  clear hne
  go_enter Try.func69, Try.ntmps69
  go_wp2_with fail
  go_quiet (fail)
  go_wp2_with fail
  go_ret
  exact ⟨rfl, S0.out.bel.drewN' _⟩
set_option maxRecDepth 100000 in
set_option maxHeartbeats 1000000 in
theorem alone_any (a : Option Addr) (n c : Nat) (s : ByteArray) (al ot sk ss db : Int) (t : ByteArray) (ht : t.size ≤ 1000) (i : Nat) (hi : i < t.size) (w : World) :
    Calls Try.prog 69 #[rulesV a n c s al ot sk ss db, .string t, .int .i64 (i : Int)] w fun e w' => e = .returned (.int .i64 (skV s sk ss db t.data.toList i)) ∧ Below w.heap.size w w' := by
  have hv : skV s sk ss db t.data.toList i = if 0 < i ∧ t[i] = t[i - 1] then db else if inS s t[i] = true then ss else sk := by
    unfold skV inS
    rw [getD_size t i hi, getD_size t (i - 1) (by omega)]
  rw [hv]
  clear hv
  by_cases h0 : 0 < i
  · by_cases h1 : t[i] = t[i - 1]
    · rw [if_pos ⟨h0, h1⟩]
      exact alone_double a n c s al ot sk ss db t ht i h0 hi h1 w
    · rw [if_neg (fun h => h1 h.2)]
      cases hs : inS s t[i] with
      | true => exact alone_soft1 a n c s al ot sk ss db t ht i h0 hi h1 hs w
      | false => exact alone_hard1 a n c s al ot sk ss db t ht i h0 hi h1 hs w
  · obtain rfl : i = 0 := by omega
    rw [if_neg (fun h => h0 h.1)]
    cases hs : inS s t[0] with
    | true => exact alone_soft0 a n c s al ot sk ss db t hi hs w
    | false => exact alone_hard0 a n c s al ot sk ss db t hi hs w
set_option maxRecDepth 100000 in
set_option maxHeartbeats 1000000 in
theorem after_both (i j : Nat) (hi : i ≤ 1000) (hj : j ≤ 1000) (w : World) :
    Calls Try.prog 27 #[.agg #[.int .i64 (i : Int), .int .i64 (j : Int)], .agg #[.int .i64 (i : Int), .int .i64 (j : Int)]] w fun e w' => e = .returned (.agg #[.int .i64 ((i : Int) + 1), .int .i64 ((j : Int) + 1)]) ∧ Below w.heap.size w w' := by
  have u1 : ((i : Int) == -1) = false := by simp
  have u2 : ((i : Int) != -1) = true := by simp
  have v1 : ((j : Int) == -1) = false := by simp
  have v2 : ((j : Int) != -1) = true := by simp
  go_enter Try.func27, Try.ntmps27
  go_wp2_with fail
  refine bodyPost_ret (v := .agg #[.int .i64 ((i : Int) + 1), .int .i64 ((j : Int) + 1)]) (by simp [results, Try.results27, go_sem]) rfl ⟨rfl, ?_⟩
  exact (three_new w _ _ _ _ _ _).2.2.2.1
set_option maxRecDepth 100000 in
set_option maxHeartbeats 1000000 in
theorem after_first (i j : Nat) (hi : i ≤ 1000) (hj : j ≤ 1000) (w : World) :
    Calls Try.prog 27 #[.agg #[.int .i64 (i : Int), .int .i64 (j : Int)], .agg #[.int .i64 (i : Int), .int .i64 (-1)]] w fun e w' => e = .returned (.agg #[.int .i64 ((i : Int) + 1), .int .i64 (j : Int)]) ∧ Below w.heap.size w w' := by
  have u1 : ((i : Int) == -1) = false := by simp
  have u2 : ((i : Int) != -1) = true := by simp
  go_enter Try.func27, Try.ntmps27
  go_wp2_with fail
  refine bodyPost_ret (v := .agg #[.int .i64 ((i : Int) + 1), .int .i64 (j : Int)]) (by simp [results, Try.results27, go_sem]) rfl ⟨rfl, ?_⟩
  exact (three_new w _ _ _ _ _ _).2.2.2.1
set_option maxRecDepth 100000 in
set_option maxHeartbeats 1000000 in
theorem after_second (i j : Nat) (hi : i ≤ 1000) (hj : j ≤ 1000) (w : World) :
    Calls Try.prog 27 #[.agg #[.int .i64 (i : Int), .int .i64 (j : Int)], .agg #[.int .i64 (-1), .int .i64 (j : Int)]] w fun e w' => e = .returned (.agg #[.int .i64 (i : Int), .int .i64 ((j : Int) + 1)]) ∧ Below w.heap.size w w' := by
  have v1 : ((j : Int) == -1) = false := by simp
  have v2 : ((j : Int) != -1) = true := by simp
  go_enter Try.func27, Try.ntmps27
  go_wp2_with fail
  refine bodyPost_ret (v := .agg #[.int .i64 (i : Int), .int .i64 ((j : Int) + 1)]) (by simp [results, Try.results27, go_sem]) rfl ⟨rfl, ?_⟩
  exact (three_new w _ _ _ _ _ _).2.2.2.1
end Go.Proofs.Ytkdflgaahhnigaa

namespace Go.Proofs.Ytkdflgaahhnigaa
open Go.RowKit Go.Shelf

/-- block d is two names that are compared -/
structure Duel (W : World) (d : Nat) (a : Option Addr) (n c : Nat) (s : ByteArray) (al ot sk ss db : Int) (x y : ByteArray) (sn : UInt8 → UInt8) (mb : Nat) : Prop where
  lt : d < W.heap.size
  r0 : W.cell? ⟨d, 0, none⟩ = some (.slice a n c)
  r1 : W.cell? ⟨d, 1, none⟩ = some (.string s)
  r2 : W.cell? ⟨d, 2, none⟩ = some (.int .i64 al)
  r3 : W.cell? ⟨d, 3, none⟩ = some (.int .i64 ot)
  r4 : W.cell? ⟨d, 4, none⟩ = some (.int .i64 sk)
  r5 : W.cell? ⟨d, 5, none⟩ = some (.int .i64 ss)
  r6 : W.cell? ⟨d, 6, none⟩ = some (.int .i64 db)
  x : W.cell? ⟨d, 7, none⟩ = some (.string x)
  y : W.cell? ⟨d, 8, none⟩ = some (.string y)
  sn : ∀ b : UInt8, isL b = true → W.cell? ⟨d, 9 + (b.toNat - 65), none⟩ = some (.int .u8 ((sn b).toNat : Int))
  mp : W.cell? ⟨d, 35, none⟩ = some (.map (some mb))
theorem Duel.keep {W W' : World} {d : Nat} {a : Option Addr} {n c : Nat} {s : ByteArray} {al ot sk ss db : Int} {x y : ByteArray} {sn : UInt8 → UInt8} {mb : Nat} (h : Duel W d a n c s al ot sk ss db x y sn mb) (hl : d < W'.heap.size) (hk : ∀ o, W'.cell? ⟨d, o, none⟩ = W.cell? ⟨d, o, none⟩) : Duel W' d a n c s al ot sk ss db x y sn mb :=
  ⟨hl, (hk _).trans h.r0, (hk _).trans h.r1, (hk _).trans h.r2, (hk _).trans h.r3, (hk _).trans h.r4, (hk _).trans h.r5, (hk _).trans h.r6, (hk _).trans h.x, (hk _).trans h.y, fun b hb => (hk _).trans (h.sn b hb), (hk _).trans h.mp⟩
theorem Duel.below {W W' : World} {d : Nat} {a : Option Addr} {n c : Nat} {s : ByteArray} {al ot sk ss db : Int} {x y : ByteArray} {sn : UInt8 → UInt8} {mb : Nat} (h : Duel W d a n c s al ot sk ss db x y sn mb) (hb : Below W.heap.size W W') : Duel W' d a n c s al ot sk ss db x y sn mb :=
  h.keep (Nat.lt_of_lt_of_le h.lt hb.size) (fun o => hb.cell (p := ⟨d, o, none⟩) h.lt)
theorem Duel.grown {W W' : World} {d : Nat} {a : Option Addr} {n c : Nat} {s : ByteArray} {al ot sk ss db : Int} {x y : ByteArray} {sn : UInt8 → UInt8} {mb : Nat} (h : Duel W d a n c s al ot sk ss db x y sn mb) {row : Option Nat} (hg : W.grownBy W' row) (hne : some d ≠ row) : Duel W' d a n c s al ot sk ss db x y sn mb :=
  h.keep (Nat.lt_of_lt_of_le h.lt hg.size) (fun o => by unfold World.cell?; simp only [hg.block d h.lt hne])
abbrev cellV (i j : Int) : Value := .agg #[.int .i64 i, .int .i64 j]
set_option maxRecDepth 100000 in
set_option maxHeartbeats 1000000 in
theorem over_yes (d : Nat) (a : Option Addr) (n c : Nat) (s : ByteArray) (al ot sk ss db : Int) (x y : ByteArray) (sn : UInt8 → UInt8) (mb : Nat) (w : World) (hD : Duel w d a n c s al ot sk ss db x y sn mb) (i j : Nat) (hi : i = x.size) (hj : j = y.size) :
    Calls Try.prog 25 #[.pointer (some ⟨d, 0, none⟩), cellV i j] w fun e w' => e = .returned (.bool true) ∧ Below w.heap.size w w' := by
  have t1 : ((i : Int) == (x.size : Int)) = true := by simp; omega
  have t2 : ((j : Int) == (y.size : Int)) = true := by simp; omega
  clear hi hj
  have hx := hD.x
  have hy := hD.y
  have hlt := hD.lt
  have b2 := (one_new w #[.int .i64 i, .int .i64 j] 53).2.1
  have B2 := Lib.hid b2
  clear hD b2
  go_enter Try.func25, Try.ntmps25
  go_wp2_with fail
  go_quiet (fail)
  go_wp2_with fail
  go_ret
  exact ⟨rfl, B2.out.drewN' _⟩
set_option maxRecDepth 100000 in
set_option maxHeartbeats 1000000 in
theorem over_no1 (d : Nat) (a : Option Addr) (n c : Nat) (s : ByteArray) (al ot sk ss db : Int) (x y : ByteArray) (sn : UInt8 → UInt8) (mb : Nat) (w : World) (hD : Duel w d a n c s al ot sk ss db x y sn mb) (i j : Nat) (hi : i < x.size) :
    Calls Try.prog 25 #[.pointer (some ⟨d, 0, none⟩), cellV i j] w fun e w' => e = .returned (.bool false) ∧ Below w.heap.size w w' := by
  have t1 : ((i : Int) == (x.size : Int)) = false := by simp; omega
  have hx := hD.x
  have hy := hD.y
  have hlt := hD.lt
  have b2 := (one_new w #[.int .i64 i, .int .i64 j] 53).2.1
  have B2 := Lib.hid b2
  clear hD b2
  go_enter Try.func25, Try.ntmps25
  go_wp2_with fail
  go_quiet (fail)
  go_wp2_with fail
  go_ret
  exact ⟨rfl, B2.out.drewN' _⟩
set_option maxRecDepth 100000 in
set_option maxHeartbeats 1000000 in
theorem over_no2 (d : Nat) (a : Option Addr) (n c : Nat) (s : ByteArray) (al ot sk ss db : Int) (x y : ByteArray) (sn : UInt8 → UInt8) (mb : Nat) (w : World) (hD : Duel w d a n c s al ot sk ss db x y sn mb) (i j : Nat) (hi : i = x.size) (hj : j < y.size) :
    Calls Try.prog 25 #[.pointer (some ⟨d, 0, none⟩), cellV i j] w fun e w' => e = .returned (.bool false) ∧ Below w.heap.size w w' := by
  have t0 : ((i : Int) == (x.size : Int)) = true := by simp; omega
  clear hi
  have t1 : ((j : Int) == (y.size : Int)) = false := by simp; omega
  have hx := hD.x
  have hy := hD.y
  have hlt := hD.lt
  have b2 := (one_new w #[.int .i64 i, .int .i64 j] 53).2.1
  have B2 := Lib.hid b2
  clear hD b2
  go_enter Try.func25, Try.ntmps25
  go_wp2_with fail
  go_quiet (fail)
  go_wp2_with fail
  go_ret
  exact ⟨rfl, B2.out.drewN' _⟩
theorem over_any (d : Nat) (a : Option Addr) (n c : Nat) (s : ByteArray) (al ot sk ss db : Int) (x y : ByteArray) (sn : UInt8 → UInt8) (mb : Nat) (w : World) (hD : Duel w d a n c s al ot sk ss db x y sn mb) (i j : Nat) (hi : i ≤ x.size) (hj : j ≤ y.size) :
    Calls Try.prog 25 #[.pointer (some ⟨d, 0, none⟩), cellV i j] w fun e w' => e = .returned (.bool (decide (i = x.size ∧ j = y.size))) ∧ Below w.heap.size w w' := by
  by_cases h1 : i = x.size
  · by_cases h2 : j = y.size
    · rw [decide_eq_true ⟨h1, h2⟩]; exact over_yes d a n c s al ot sk ss db x y sn mb w hD i j h1 h2
    · rw [decide_eq_false (fun h => h2 h.2)]; exact over_no2 d a n c s al ot sk ss db x y sn mb w hD i j h1 (by omega)
  · rw [decide_eq_false (fun h => h1 h.1)]; exact over_no1 d a n c s al ot sk ss db x y sn mb w hD i j (by omega)
end Go.Proofs.Ytkdflgaahhnigaa

namespace Go.Proofs.Ytkdflgaahhnigaa
open Go.RowKit Go.Shelf

/-- the ways through a region meet again -/
theorem wp_joinG {ι : Type} {P : Program} {code : Code} {Q : Exit → Act → World → Prop} {a : Act} {W : World} (f : Act → ι → Act) (mid : ι → World → Prop)
    (h1 : code.wp P (fun e a' W' => e = .normal ∧ ∃ b, a' = f a b ∧ mid b W') a W) (h2 : ∀ b W', mid b W' → Q .normal (f a b) W') : code.wp P Q a W :=
  Code.wp_mono (fun e a' W' h => by obtain ⟨rfl, b, rfl, hm⟩ := h; exact h2 b W' hm) h1
set_option maxRecDepth 100000 in
set_option maxHeartbeats 1000000 in
theorem both_no1 (d : Nat) (a : Option Addr) (n c : Nat) (s : ByteArray) (al ot sk ss db : Int) (x y : ByteArray) (sn : UInt8 → UInt8) (mb : Nat) (w : World) (hD : Duel w d a n c s al ot sk ss db x y sn mb) (i j : Nat) (hi : i = x.size) :
    Calls Try.prog 49 #[.pointer (some ⟨d, 0, none⟩), cellV i j] w fun e w' => e = .returned (.tuple #[.agg #[.int .i64 0, .int .i64 0], .int .i64 0, .bool false]) ∧ Below w.heap.size w w' := by
  have hx := hD.x
  have hy := hD.y
  have t1 : ((i : Int) == (x.size : Int)) = true := by simp; omega
  clear hi
  have hlt := hD.lt
  obtain ⟨c1, c2, B2, _⟩ := two_new w #[.int .i64 i, .int .i64 j] #[.int .i64 0, .int .i64 0] 53 41
  have BB := Lib.hid B2
  have C2 := Lib.hid c2
  clear hD c1 c2 B2
  go_enter Try.func49, Try.ntmps49
  go_wp2_with fail
  go_quiet (fail)
  go_wp2_with fail
  refine bodyPost_ret (v := .tuple #[.agg #[.int .i64 0, .int .i64 0], .int .i64 0, .bool false]) (by simp [results, Try.results49, go_sem]) rfl ⟨rfl, ?_⟩
  exact ((BB.out.drewN' _).setCell (p := ⟨w.heap.size + 1, 0, none⟩) (Nat.le_succ _) _).setCell (p := ⟨w.heap.size + 1, 1, none⟩) (Nat.le_succ _) _
set_option maxRecDepth 100000 in
set_option maxHeartbeats 1000000 in
theorem both_no2 (d : Nat) (a : Option Addr) (n c : Nat) (s : ByteArray) (al ot sk ss db : Int) (x y : ByteArray) (sn : UInt8 → UInt8) (mb : Nat) (w : World) (hD : Duel w d a n c s al ot sk ss db x y sn mb) (i j : Nat) (hi : i < x.size) (hj : j = y.size) :
    Calls Try.prog 49 #[.pointer (some ⟨d, 0, none⟩), cellV i j] w fun e w' => e = .returned (.tuple #[.agg #[.int .i64 0, .int .i64 0], .int .i64 0, .bool false]) ∧ Below w.heap.size w w' := by
  have hx := hD.x
  have hy := hD.y
  have t1 : ((i : Int) == (x.size : Int)) = false := by simp; omega
  have t2 : ((j : Int) == (y.size : Int)) = true := by simp; omega
  clear hj
  have hlt := hD.lt
  obtain ⟨c1, c2, B2, _⟩ := two_new w #[.int .i64 i, .int .i64 j] #[.int .i64 0, .int .i64 0] 53 41
  have BB := Lib.hid B2
  have C2 := Lib.hid c2
  clear hD c1 c2 B2
  go_enter Try.func49, Try.ntmps49
  go_wp2_with fail
  go_quiet (fail)
  go_wp2_with fail
  refine bodyPost_ret (v := .tuple #[.agg #[.int .i64 0, .int .i64 0], .int .i64 0, .bool false]) (by simp [results, Try.results49, go_sem]) rfl ⟨rfl, ?_⟩
  exact ((BB.out.drewN' _).setCell (p := ⟨w.heap.size + 1, 0, none⟩) (Nat.le_succ _) _).setCell (p := ⟨w.heap.size + 1, 1, none⟩) (Nat.le_succ _) _
set_option maxRecDepth 100000 in
set_option maxHeartbeats 1000000 in
theorem first_no (d : Nat) (a : Option Addr) (n c : Nat) (s : ByteArray) (al ot sk ss db : Int) (x y : ByteArray) (sn : UInt8 → UInt8) (mb : Nat) (w : World) (hD : Duel w d a n c s al ot sk ss db x y sn mb) (i j : Nat) (hi : i = x.size) :
    Calls Try.prog 50 #[.pointer (some ⟨d, 0, none⟩), cellV i j] w fun e w' => e = .returned (.tuple #[.agg #[.int .i64 0, .int .i64 0], .int .i64 0, .bool false]) ∧ Below w.heap.size w w' := by
  have hx := hD.x
  have t1 : ((i : Int) == (x.size : Int)) = true := by simp; omega
  clear hi
  have hlt := hD.lt
  obtain ⟨c1, c2, B2, _⟩ := two_new w #[.int .i64 i, .int .i64 j] #[.int .i64 0, .int .i64 0] 53 41
  have BB := Lib.hid B2
  have C2 := Lib.hid c2
  clear hD c1 c2 B2
  go_enter Try.func50, Try.ntmps50
  go_wp2_with fail
  go_quiet (fail)
  go_wp2_with fail
  refine bodyPost_ret (v := .tuple #[.agg #[.int .i64 0, .int .i64 0], .int .i64 0, .bool false]) (by simp [results, Try.results50, go_sem]) rfl ⟨rfl, ?_⟩
  exact ((BB.out.drewN' _).setCell (p := ⟨w.heap.size + 1, 0, none⟩) (Nat.le_succ _) _).setCell (p := ⟨w.heap.size + 1, 1, none⟩) (Nat.le_succ _) _
set_option maxRecDepth 100000 in
set_option maxHeartbeats 1000000 in
theorem second_no (d : Nat) (a : Option Addr) (n c : Nat) (s : ByteArray) (al ot sk ss db : Int) (x y : ByteArray) (sn : UInt8 → UInt8) (mb : Nat) (w : World) (hD : Duel w d a n c s al ot sk ss db x y sn mb) (i j : Nat) (hj : j = y.size) :
    Calls Try.prog 51 #[.pointer (some ⟨d, 0, none⟩), cellV i j] w fun e w' => e = .returned (.tuple #[.agg #[.int .i64 0, .int .i64 0], .int .i64 0, .bool false]) ∧ Below w.heap.size w w' := by
  have hy := hD.y
  have t1 : ((j : Int) == (y.size : Int)) = true := by simp; omega
  clear hj
  have hlt := hD.lt
  obtain ⟨c1, c2, B2, _⟩ := two_new w #[.int .i64 i, .int .i64 j] #[.int .i64 0, .int .i64 0] 53 41
  have BB := Lib.hid B2
  have C2 := Lib.hid c2
  clear hD c1 c2 B2
  go_enter Try.func51, Try.ntmps51
  go_wp2_with fail
  go_quiet (fail)
  go_wp2_with fail
  refine bodyPost_ret (v := .tuple #[.agg #[.int .i64 0, .int .i64 0], .int .i64 0, .bool false]) (by simp [results, Try.results51, go_sem]) rfl ⟨rfl, ?_⟩
  exact ((BB.out.drewN' _).setCell (p := ⟨w.heap.size + 1, 0, none⟩) (Nat.le_succ _) _).setCell (p := ⟨w.heap.size + 1, 1, none⟩) (Nat.le_succ _) _
set_option maxRecDepth 100000 in
set_option maxHeartbeats 1000000 in
theorem first_yes (d : Nat) (a : Option Addr) (n c : Nat) (s : ByteArray) (al ot sk ss db : Int) (x y : ByteArray) (sn : UInt8 → UInt8) (mb : Nat) (w : World) (hD : Duel w d a n c s al ot sk ss db x y sn mb) (i j : Nat) (hi : i < x.size) (hx : x.size ≤ 1000) :
    Calls Try.prog 50 #[.pointer (some ⟨d, 0, none⟩), cellV i j] w fun e w' => e = .returned (.tuple #[.agg #[.int .i64 i, .int .i64 (-1)], .int .i64 (skV s sk ss db x.data.toList i), .bool true]) ∧ Below w.heap.size w w' := by
  have C := Lib.hid (fun w => alone_any a n c s al ot sk ss db x hx i hi w)
  generalize skV s sk ss db x.data.toList i = v at *
  have t1 : ((i : Int) == (x.size : Int)) = false := by simp; omega
  have hlt := hD.lt
  have hq := hD.x
  have s0 := (KS.start w).new #[.int .i64 i, .int .i64 j] 53
  have z0 := KZ.new s0 #[.int .i64 0, .int .i64 0] 41
  rw [World.size_alloc] at z0
  have Z0 := Lib.hid z0
  clear s0 z0
  have HD := Lib.hid hD
  clear hD
  go_enter Try.func50, Try.ntmps50
  go_wp2_with fail
  go_quiet (fail)
  go_wp2_with fail
  have Z1 : Hid (KZ w [(w.heap.size, #[.int .i64 i, .int .i64 j], 53)] (w.heap.size + 1) #[.int .i64 0, .int .i64 0] 41 (((w.alloc (.cells #[.int .i64 i, .int .i64 j] 53)).alloc (.cells #[.int .i64 0, .int .i64 0] 41)).drewN nq)) := Lib.hid ⟨Z0.out.1.drewN _, Z0.out.2⟩
  clear Z0
  generalize (((w.alloc (.cells #[.int .i64 i, .int .i64 j] 53)).alloc (.cells #[.int .i64 0, .int .i64 0] 41)).drewN nq) = V at *
  generalize w.heap.size + 1 = zb at *
  obtain ⟨BS, hBS⟩ : ∃ BS : List (Nat × Array Value × TypeId), BS = [(w.heap.size, #[.int .i64 i, .int .i64 j], 53)] := ⟨_, rfl⟩
  have hZ : KZ w BS zb #[.int .i64 0, .int .i64 0] 41 V := by rw [hBS]; exact Z1.out
  have hS : KS w BS V := hZ.ks
  have K0_0 : ∀ W, KS w BS W → W.cell? ⟨w.heap.size, 0, none⟩ = some (.int .i64 i) := fun W h => by rw [hBS] at h; exact (h.blkAt 0 rfl).cell 0
  have K0_1 : ∀ W, KS w BS W → W.cell? ⟨w.heap.size, 1, none⟩ = some (.int .i64 j) := fun W h => by rw [hBS] at h; exact (h.blkAt 0 rfl).cell 1
  have Dr0 : ∀ W, KS w BS W → W.cell? ⟨d, 0, none⟩ = some (.slice a n c) := fun W h => (h.bel.cell (p := ⟨d, _, none⟩) HD.out.lt).trans HD.out.r0
  have Dr1 : ∀ W, KS w BS W → W.cell? ⟨d, 1, none⟩ = some (.string s) := fun W h => (h.bel.cell (p := ⟨d, _, none⟩) HD.out.lt).trans HD.out.r1
  have Dr2 : ∀ W, KS w BS W → W.cell? ⟨d, 2, none⟩ = some (.int .i64 al) := fun W h => (h.bel.cell (p := ⟨d, _, none⟩) HD.out.lt).trans HD.out.r2
  have Dr3 : ∀ W, KS w BS W → W.cell? ⟨d, 3, none⟩ = some (.int .i64 ot) := fun W h => (h.bel.cell (p := ⟨d, _, none⟩) HD.out.lt).trans HD.out.r3
  have Dr4 : ∀ W, KS w BS W → W.cell? ⟨d, 4, none⟩ = some (.int .i64 sk) := fun W h => (h.bel.cell (p := ⟨d, _, none⟩) HD.out.lt).trans HD.out.r4
  have Dr5 : ∀ W, KS w BS W → W.cell? ⟨d, 5, none⟩ = some (.int .i64 ss) := fun W h => (h.bel.cell (p := ⟨d, _, none⟩) HD.out.lt).trans HD.out.r5
  have Dr6 : ∀ W, KS w BS W → W.cell? ⟨d, 6, none⟩ = some (.int .i64 db) := fun W h => (h.bel.cell (p := ⟨d, _, none⟩) HD.out.lt).trans HD.out.r6
  have Dx : ∀ W, KS w BS W → W.cell? ⟨d, 7, none⟩ = some (.string x) := fun W h => (h.bel.cell (p := ⟨d, _, none⟩) HD.out.lt).trans HD.out.x
  have KZ0 : ∀ W, KZ w BS zb #[.int .i64 0, .int .i64 0] 41 W → W.cell? ⟨zb, 0, none⟩ = some (.int .i64 0) := fun W h => h.c0
  have KF0 : ∀ W, KZ w BS zb #[.int .i64 0, .int .i64 0] 41 W → W.frozen? ⟨zb, 0, none⟩ = false := fun W h => h.f 0
  have KZ1 : ∀ W, KZ w BS zb #[.int .i64 0, .int .i64 0] 41 W → W.cell? ⟨zb, 1, none⟩ = some (.int .i64 0) := fun W h => h.c1
  have KF1 : ∀ W, KZ w BS zb #[.int .i64 0, .int .i64 0] 41 W → W.frozen? ⟨zb, 1, none⟩ = false := fun W h => h.f 1
  have HBS := Lib.hid hBS
  clear hBS hq
  refine wp_joinG (ι := Unit) (f := fun aa _ => ((((((((((((((((aa.put (some 16) (.pointer (some ⟨w.heap.size, 0, none⟩))).put (some 17) (.int .i64 i)).put (some 18) (.agg #[.int .i64 i, .int .i64 (-1)])).put (some 19) (.pointer (some ⟨d, 0, none⟩))).put (some 20) (.pointer (some ⟨d, 0, none⟩))).put (some 21) (.pointer (some ⟨d, 0, none⟩))).put (some 22) (rulesV a n c s al ot sk ss db)).put (some 23) (.pointer (some ⟨d, 0, none⟩))).put (some 24) (.pointer (some ⟨d, 0, none⟩))).put (some 25) (.pointer (some ⟨d, 7, none⟩))).put (some 26) (.string x)).put (some 27) (.pointer (some ⟨w.heap.size, 0, none⟩))).put (some 28) (.int .i64 i)).put (some 29) (.int .i64 v)).put (some 5) (.int .i64 v)).put (some 6) (.bool true))) (mid := fun _ W' => KS w ((zb, #[.int .i64 i, .int .i64 (-1)], 41) :: BS) W') ?_ ?_
  · go_region_held3 (KS w BS)
      (first | assumption | exact KS.drew (by assumption) | exact KS.alloc (by assumption) _ | exact KS.drew (KS.alloc (by assumption) _) | exact KS.alloc (KS.drew (by assumption)) _ | exact KZ.ks (by assumption) | exact KZ.keep2 (by assumption) | exact (KZ.keep2 (by assumption)).drew | exact (KZ.drew (by assumption)).keep2 | go_keep)
      (first | (go_at_call 69; (with_reducible refine (C.out _).mono ?_); rintro e wn ⟨rfl, hb⟩; have hSn := KS.below (w := w) (bs := BS) (by first | assumption | exact KS.drew (by assumption)) hb; (first | (have hZ := KZ.below (w := w) (bs := BS) (cs := #[.int .i64 0, .int .i64 0]) (t := 41) (by assumption) hb) | (have hZ := KZ.below (w := w) (bs := BS) (cs := #[.int .i64 0, .int .i64 0]) (t := 41) (KZ.drew (by assumption)) hb) | skip); clear hb))
    all_goals first | exact ⟨rfl, (), rfl, KZ.set2 (by assumption)⟩ | exact ⟨rfl, (), rfl, KZ.set2D (by assumption)⟩ | exact ⟨rfl, (), rfl, (KZ.set2 (by assumption)).drew⟩ | exact ⟨rfl, (), rfl, (KZ.set2D (by assumption)).drew⟩
  intro _ w1 hM
  simp only [Act.put, List.setIfInBounds_toArray, List.set_cons_zero, List.set_cons_succ]
  clear hS hZ KZ0 KZ1 KF0 KF1 K0_0 K0_1 Dr0 Dr1 Dr2 Dr3 Dr4 Dr5 Dr6 Dx
  obtain ⟨m0, m1, _⟩ := (hM.blkAt 0 rfl).c2
  have HM := Lib.hid hM.bel
  clear hM
  go_wp2_with fail
  refine bodyPost_ret (v := .tuple #[.agg #[.int .i64 i, .int .i64 (-1)], .int .i64 v, .bool true]) (by simp [results, Try.results50, go_sem, m0, m1]) rfl ⟨rfl, ?_⟩
  exact HM.out
set_option maxRecDepth 100000 in
set_option maxHeartbeats 1000000 in
theorem second_yes (d : Nat) (a : Option Addr) (n c : Nat) (s : ByteArray) (al ot sk ss db : Int) (x y : ByteArray) (sn : UInt8 → UInt8) (mb : Nat) (w : World) (hD : Duel w d a n c s al ot sk ss db x y sn mb) (i j : Nat) (hj : j < y.size) (hy : y.size ≤ 1000) :
    Calls Try.prog 51 #[.pointer (some ⟨d, 0, none⟩), cellV i j] w fun e w' => e = .returned (.tuple #[.agg #[.int .i64 (-1), .int .i64 j], .int .i64 (skV s sk ss db y.data.toList j), .bool true]) ∧ Below w.heap.size w w' := by
  have C := Lib.hid (fun w => alone_any a n c s al ot sk ss db y hy j hj w)
  generalize skV s sk ss db y.data.toList j = v at *
  have t1 : ((j : Int) == (y.size : Int)) = false := by simp; omega
  have hlt := hD.lt
  have hq := hD.y
  have s0 := (KS.start w).new #[.int .i64 i, .int .i64 j] 53
  have z0 := KZ.new s0 #[.int .i64 0, .int .i64 0] 41
  rw [World.size_alloc] at z0
  have Z0 := Lib.hid z0
  clear s0 z0
  have HD := Lib.hid hD
  clear hD
  go_enter Try.func51, Try.ntmps51
  go_wp2_with fail
  go_quiet (fail)
  go_wp2_with fail
  have Z1 : Hid (KZ w [(w.heap.size, #[.int .i64 i, .int .i64 j], 53)] (w.heap.size + 1) #[.int .i64 0, .int .i64 0] 41 (((w.alloc (.cells #[.int .i64 i, .int .i64 j] 53)).alloc (.cells #[.int .i64 0, .int .i64 0] 41)).drewN nq)) := Lib.hid ⟨Z0.out.1.drewN _, Z0.out.2⟩
  clear Z0
  generalize (((w.alloc (.cells #[.int .i64 i, .int .i64 j] 53)).alloc (.cells #[.int .i64 0, .int .i64 0] 41)).drewN nq) = V at *
  generalize w.heap.size + 1 = zb at *
  obtain ⟨BS, hBS⟩ : ∃ BS : List (Nat × Array Value × TypeId), BS = [(w.heap.size, #[.int .i64 i, .int .i64 j], 53)] := ⟨_, rfl⟩
  have hZ : KZ w BS zb #[.int .i64 0, .int .i64 0] 41 V := by rw [hBS]; exact Z1.out
  have hS : KS w BS V := hZ.ks
  have K0_0 : ∀ W, KS w BS W → W.cell? ⟨w.heap.size, 0, none⟩ = some (.int .i64 i) := fun W h => by rw [hBS] at h; exact (h.blkAt 0 rfl).cell 0
  have K0_1 : ∀ W, KS w BS W → W.cell? ⟨w.heap.size, 1, none⟩ = some (.int .i64 j) := fun W h => by rw [hBS] at h; exact (h.blkAt 0 rfl).cell 1
  have Dr0 : ∀ W, KS w BS W → W.cell? ⟨d, 0, none⟩ = some (.slice a n c) := fun W h => (h.bel.cell (p := ⟨d, _, none⟩) HD.out.lt).trans HD.out.r0
  have Dr1 : ∀ W, KS w BS W → W.cell? ⟨d, 1, none⟩ = some (.string s) := fun W h => (h.bel.cell (p := ⟨d, _, none⟩) HD.out.lt).trans HD.out.r1
  have Dr2 : ∀ W, KS w BS W → W.cell? ⟨d, 2, none⟩ = some (.int .i64 al) := fun W h => (h.bel.cell (p := ⟨d, _, none⟩) HD.out.lt).trans HD.out.r2
  have Dr3 : ∀ W, KS w BS W → W.cell? ⟨d, 3, none⟩ = some (.int .i64 ot) := fun W h => (h.bel.cell (p := ⟨d, _, none⟩) HD.out.lt).trans HD.out.r3
  have Dr4 : ∀ W, KS w BS W → W.cell? ⟨d, 4, none⟩ = some (.int .i64 sk) := fun W h => (h.bel.cell (p := ⟨d, _, none⟩) HD.out.lt).trans HD.out.r4
  have Dr5 : ∀ W, KS w BS W → W.cell? ⟨d, 5, none⟩ = some (.int .i64 ss) := fun W h => (h.bel.cell (p := ⟨d, _, none⟩) HD.out.lt).trans HD.out.r5
  have Dr6 : ∀ W, KS w BS W → W.cell? ⟨d, 6, none⟩ = some (.int .i64 db) := fun W h => (h.bel.cell (p := ⟨d, _, none⟩) HD.out.lt).trans HD.out.r6
  have Dy : ∀ W, KS w BS W → W.cell? ⟨d, 8, none⟩ = some (.string y) := fun W h => (h.bel.cell (p := ⟨d, _, none⟩) HD.out.lt).trans HD.out.y
  have KZ0 : ∀ W, KZ w BS zb #[.int .i64 0, .int .i64 0] 41 W → W.cell? ⟨zb, 0, none⟩ = some (.int .i64 0) := fun W h => h.c0
  have KF0 : ∀ W, KZ w BS zb #[.int .i64 0, .int .i64 0] 41 W → W.frozen? ⟨zb, 0, none⟩ = false := fun W h => h.f 0
  have KZ1 : ∀ W, KZ w BS zb #[.int .i64 0, .int .i64 0] 41 W → W.cell? ⟨zb, 1, none⟩ = some (.int .i64 0) := fun W h => h.c1
  have KF1 : ∀ W, KZ w BS zb #[.int .i64 0, .int .i64 0] 41 W → W.frozen? ⟨zb, 1, none⟩ = false := fun W h => h.f 1
  have HBS := Lib.hid hBS
  clear hBS hq
  refine wp_joinG (ι := Unit) (f := fun aa _ => ((((((((((((((((aa.put (some 16) (.pointer (some ⟨w.heap.size, 1, none⟩))).put (some 17) (.int .i64 j)).put (some 18) (.agg #[.int .i64 (-1), .int .i64 j])).put (some 19) (.pointer (some ⟨d, 0, none⟩))).put (some 20) (.pointer (some ⟨d, 0, none⟩))).put (some 21) (.pointer (some ⟨d, 0, none⟩))).put (some 22) (rulesV a n c s al ot sk ss db)).put (some 23) (.pointer (some ⟨d, 0, none⟩))).put (some 24) (.pointer (some ⟨d, 0, none⟩))).put (some 25) (.pointer (some ⟨d, 8, none⟩))).put (some 26) (.string y)).put (some 27) (.pointer (some ⟨w.heap.size, 1, none⟩))).put (some 28) (.int .i64 j)).put (some 29) (.int .i64 v)).put (some 5) (.int .i64 v)).put (some 6) (.bool true))) (mid := fun _ W' => KS w ((zb, #[.int .i64 (-1), .int .i64 j], 41) :: BS) W') ?_ ?_
  · go_region_held3 (KS w BS)
      (first | assumption | exact KS.drew (by assumption) | exact KS.alloc (by assumption) _ | exact KS.drew (KS.alloc (by assumption) _) | exact KS.alloc (KS.drew (by assumption)) _ | exact KZ.ks (by assumption) | exact KZ.keep2 (by assumption) | exact (KZ.keep2 (by assumption)).drew | exact (KZ.drew (by assumption)).keep2 | go_keep)
      (first | (go_at_call 69; (with_reducible refine (C.out _).mono ?_); rintro e wn ⟨rfl, hb⟩; have hSn := KS.below (w := w) (bs := BS) (by first | assumption | exact KS.drew (by assumption)) hb; (first | (have hZ := KZ.below (w := w) (bs := BS) (cs := #[.int .i64 0, .int .i64 0]) (t := 41) (by assumption) hb) | (have hZ := KZ.below (w := w) (bs := BS) (cs := #[.int .i64 0, .int .i64 0]) (t := 41) (KZ.drew (by assumption)) hb) | skip); clear hb))
    all_goals first | exact ⟨rfl, (), rfl, KZ.set2 (by assumption)⟩ | exact ⟨rfl, (), rfl, KZ.set2D (by assumption)⟩ | exact ⟨rfl, (), rfl, (KZ.set2 (by assumption)).drew⟩ | exact ⟨rfl, (), rfl, (KZ.set2D (by assumption)).drew⟩
  intro _ w1 hM
  simp only [Act.put, List.setIfInBounds_toArray, List.set_cons_zero, List.set_cons_succ]
  clear hS hZ KZ0 KZ1 KF0 KF1 K0_0 K0_1 Dr0 Dr1 Dr2 Dr3 Dr4 Dr5 Dr6 Dy
  obtain ⟨m0, m1, _⟩ := (hM.blkAt 0 rfl).c2
  have HM := Lib.hid hM.bel
  clear hM
  go_wp2_with fail
  refine bodyPost_ret (v := .tuple #[.agg #[.int .i64 (-1), .int .i64 j], .int .i64 v, .bool true]) (by simp [results, Try.results51, go_sem, m0, m1]) rfl ⟨rfl, ?_⟩
  exact HM.out
end Go.Proofs.Ytkdflgaahhnigaa
