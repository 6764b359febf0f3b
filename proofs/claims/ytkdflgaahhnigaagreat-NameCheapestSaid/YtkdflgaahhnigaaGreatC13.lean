/- The reference's Has, Skip. -/
import Derived.Test.YtkdflgaahhnigaaGreatC12
import Derived.Test.YtkdflgaahhnigaaGreatC6
set_option linter.unusedVariables false
set_option linter.unusedSimpArgs false
namespace Go.Proofs.YtkdflgaahhnigaaGreat
open Go.RowKit Go.Shelf

set_option maxRecDepth 100000 in
set_option maxHeartbeats 1000000 in
theorem Has38 (s : ByteArray) (hs : s.size ≤ 1000) (b : UInt8) (w : World) : Calls Tryz.prog 38 #[.string s, .int .u8 (b.toNat : Int)] w fun e w' => e = .returned (.bool (inS s b)) ∧ w' = w := by
  generalize hB : inS s b = B
  have HB := Lib.hid hB
  clear hB
  go_enter Tryz.func38, Tryz.ntmps38
  go_wp2_with fail
  go_loopw [5] (fun y wr => wr = w ∧ ∃ i : Nat, i ≤ s.size ∧ y = .int .i64 (i : Int) ∧ Hid (∀ j (h : j < s.size), j < i → s[j] ≠ b)) (fun y _ => s.size - (intOf y).toNat)
  case atStart => exact ⟨rfl, 0, Nat.zero_le _, rfl, fun j s h => by omega⟩
  case round =>
    obtain ⟨hw, i, hi1, rfl, HS⟩ := hrel
    replace hw := hw.symm
    subst hw
    by_cases hin : i < s.size
    · by_cases hL : s[i] = b
      · have hB : B = true := by
          rw [← HB.out]
          unfold inS
          rw [decide_eq_true_eq, ← hL]
          exact List.getElem_mem (l := s.data.toList) (n := i) (by simpa using hin)
        subst hB
        have t0 : ((s[i].toNat : Int) == (b.toNat : Int)) = true := by rw [hL]; simp
        clear hL
        go_wp2_with fail
        go_ret
        exact ⟨rfl, rfl⟩
      · have t0 : ((s[i].toNat : Int) == (b.toNat : Int)) = false := by
          rw [beq_eq_false_iff_ne]
          intro e
          exact hL (UInt8.toNat_inj.1 (by omega))
        have HS2 := Lib.hid (show ∀ j (h : j < s.size), j < i + 1 → s[j] ≠ b from fun j h hj => by
          rcases Nat.lt_or_ge j i with h2 | h2
          · exact HS.out j h h2
          · obtain rfl : j = i := by omega
            exact hL)
        clear hL
        go_wp2_with fail
        go_roundw
        case rel => exact ⟨by trivial, i + 1, by omega, by go_num, HS2.out⟩
        case measure => simp [intOf]; omega
    · have hB : B = false := by
        rw [← HB.out]
        unfold inS
        rw [decide_eq_false_iff_not]
        intro hm
        obtain ⟨j, hj, e⟩ := List.mem_iff_getElem.1 hm
        have hj' : j < s.size := by simpa using hj
        exact HS.out j hj' (by omega) e
      subst hB
      go_wp2_with fail
      go_ret
      exact ⟨rfl, rfl⟩
def skI (R : RB) (t : ByteArray) (i : Nat) : Int := skV R.soft R.sk R.ss R.db t.data.toList i
theorem skI_nat {R : RB} (hg : Good R) (t : ByteArray) (i : Nat) : skI R t i = (SA R.soft R.sk.toNat R.ss.toNat R.db.toNat t i : Nat) := by
  obtain ⟨_, _, h3, h4, h5⟩ := hg.cos
  unfold skI SA
  rw [← skV_nat, Int.toNat_of_nonneg h3.1, Int.toNat_of_nonneg h4.1, Int.toNat_of_nonneg h5.1]
set_option maxRecDepth 100000 in
set_option maxHeartbeats 1000000 in
theorem skip_soft0 (a : Option Addr) (n c : Nat) (s : ByteArray) (al ot sk ss db : Int) (hs0 : s.size ≤ 1000) (t : ByteArray) (hi : 0 < t.size) (hs : inS s t[0] = true) (w : World) :
    Calls Tryz.prog 37 #[rulesV a n c s al ot sk ss db, .string t, .int .i64 0] w fun e w' => e = .returned (.int .i64 ss) ∧ Below w.heap.size w w' := by
  have C := Lib.hid (fun w => Has38 s hs0 t[0] w)
  rw [hs] at C
  clear hs
  have s0 := (KS.start w).new (rulesC a n c s al ot sk ss db) 24
  have S0 := Lib.hid s0
  have B0 := (s0.blkAt 0 rfl).c7
  obtain ⟨k0, k1, k2, k3, k4, k5, k6⟩ := B0
  clear s0
  go_enter Tryz.func37, Tryz.ntmps37
  go_wp2_with fail
  go_quiet (fail)
  go_wp2_with fail
  obtain ⟨BS, hBS⟩ : ∃ BS : List (Nat × Array Value × TypeId), BS = [(w.heap.size, #[.slice a n c, .string s, .int .i64 al, .int .i64 ot, .int .i64 sk, .int .i64 ss, .int .i64 db], 24)] := ⟨_, rfl⟩
  have hS : KS w BS ((w.alloc (.cells (rulesC a n c s al ot sk ss db) 24)).drewN nq) := by rw [hBS]; exact S0.out.drewN _
  have K0_0 : ∀ W, KS w BS W → W.cell? ⟨w.heap.size, 0, none⟩ = some (.slice a n c) := fun W h => by rw [hBS] at h; exact (h.blkAt 0 rfl).cell 0
  have K0_1 : ∀ W, KS w BS W → W.cell? ⟨w.heap.size, 1, none⟩ = some (.string s) := fun W h => by rw [hBS] at h; exact (h.blkAt 0 rfl).cell 1
  have K0_2 : ∀ W, KS w BS W → W.cell? ⟨w.heap.size, 2, none⟩ = some (.int .i64 al) := fun W h => by rw [hBS] at h; exact (h.blkAt 0 rfl).cell 2
  have K0_3 : ∀ W, KS w BS W → W.cell? ⟨w.heap.size, 3, none⟩ = some (.int .i64 ot) := fun W h => by rw [hBS] at h; exact (h.blkAt 0 rfl).cell 3
  have K0_4 : ∀ W, KS w BS W → W.cell? ⟨w.heap.size, 4, none⟩ = some (.int .i64 sk) := fun W h => by rw [hBS] at h; exact (h.blkAt 0 rfl).cell 4
  have K0_5 : ∀ W, KS w BS W → W.cell? ⟨w.heap.size, 5, none⟩ = some (.int .i64 ss) := fun W h => by rw [hBS] at h; exact (h.blkAt 0 rfl).cell 5
  have K0_6 : ∀ W, KS w BS W → W.cell? ⟨w.heap.size, 6, none⟩ = some (.int .i64 db) := fun W h => by rw [hBS] at h; exact (h.blkAt 0 rfl).cell 6
  have HBS := Lib.hid hBS
  clear hBS k0 k1 k2 k3 k4 k5 k6
  go_region_held3 (KS w BS)
    (first | assumption | exact KS.drew (by assumption) | exact KS.alloc (by assumption) _ | exact KS.drew (KS.alloc (by assumption) _) | exact KS.alloc (KS.drew (by assumption)) _ | go_keep)
    (first | (go_at_call 38; (with_reducible refine (C.out _).mono ?_); rintro e wn ⟨rfl, rfl⟩))
  all_goals
    go_wp2_with fail
    go_ret
    first | exact ⟨rfl, KS.bel (w := w) (bs := BS) (by assumption)⟩ | exact ⟨rfl, (KS.drew (w := w) (bs := BS) (by assumption)).bel⟩
set_option maxRecDepth 100000 in
set_option maxHeartbeats 1000000 in
theorem skip_soft1 (a : Option Addr) (n c : Nat) (s : ByteArray) (al ot sk ss db : Int) (hs0 : s.size ≤ 1000) (t : ByteArray) (ht : t.size ≤ 1000) (i : Nat) (h0 : 0 < i) (hi : i < t.size) (hne : t[i] ≠ t[i - 1]) (hs : inS s t[i] = true) (w : World) :
    Calls Tryz.prog 37 #[rulesV a n c s al ot sk ss db, .string t, .int .i64 (i : Int)] w fun e w' => e = .returned (.int .i64 ss) ∧ Below w.heap.size w w' := by
  have C := Lib.hid (fun w => Has38 s hs0 t[i] w)
  rw [hs] at C
  clear hs
  have s0 := (KS.start w).new (rulesC a n c s al ot sk ss db) 24
  have S0 := Lib.hid s0
  have B0 := (s0.blkAt 0 rfl).c7
  obtain ⟨k0, k1, k2, k3, k4, k5, k6⟩ := B0
  clear s0
  have t0 : decide ((0 : Int) < (i : Int)) = true := by simp; omega
  obtain ⟨j, rfl⟩ : ∃ j, i = j + 1 := ⟨i - 1, by omega⟩
  have e1 : IntKind.i64.wrap (j : Int) = (j : Int) := IntWalk.i64_in _ (by omega)
  have p0 : (0 : Int) ≤ (j : Int) + 1 := by omega
  have p1 : (j : Int) + 1 < (t.size : Int) := by omega
  have p2 : (j : Int) < (t.size : Int) := by omega
  have q0 : ((j : Int) + 1).toNat = j + 1 := by omega
  simp only [Nat.add_sub_cancel] at hne
  have t1 : (((t[j].toNat : Nat) : Int) == ((t[j + 1].toNat : Nat) : Int)) = false := by
    rw [beq_eq_false_iff_ne]; intro e; exact hne (UInt8.toNat_inj.1 (by omega))
  go_enter Tryz.func37, Tryz.ntmps37
  go_wp2_with fail
  go_quiet (fail)
  go_wp2_with fail
  obtain ⟨BS, hBS⟩ : ∃ BS : List (Nat × Array Value × TypeId), BS = [(w.heap.size, #[.slice a n c, .string s, .int .i64 al, .int .i64 ot, .int .i64 sk, .int .i64 ss, .int .i64 db], 24)] := ⟨_, rfl⟩
  have hS : KS w BS ((w.alloc (.cells (rulesC a n c s al ot sk ss db) 24)).drewN nq) := by rw [hBS]; exact S0.out.drewN _
  have K0_0 : ∀ W, KS w BS W → W.cell? ⟨w.heap.size, 0, none⟩ = some (.slice a n c) := fun W h => by rw [hBS] at h; exact (h.blkAt 0 rfl).cell 0
  have K0_1 : ∀ W, KS w BS W → W.cell? ⟨w.heap.size, 1, none⟩ = some (.string s) := fun W h => by rw [hBS] at h; exact (h.blkAt 0 rfl).cell 1
  have K0_2 : ∀ W, KS w BS W → W.cell? ⟨w.heap.size, 2, none⟩ = some (.int .i64 al) := fun W h => by rw [hBS] at h; exact (h.blkAt 0 rfl).cell 2
  have K0_3 : ∀ W, KS w BS W → W.cell? ⟨w.heap.size, 3, none⟩ = some (.int .i64 ot) := fun W h => by rw [hBS] at h; exact (h.blkAt 0 rfl).cell 3
  have K0_4 : ∀ W, KS w BS W → W.cell? ⟨w.heap.size, 4, none⟩ = some (.int .i64 sk) := fun W h => by rw [hBS] at h; exact (h.blkAt 0 rfl).cell 4
  have K0_5 : ∀ W, KS w BS W → W.cell? ⟨w.heap.size, 5, none⟩ = some (.int .i64 ss) := fun W h => by rw [hBS] at h; exact (h.blkAt 0 rfl).cell 5
  have K0_6 : ∀ W, KS w BS W → W.cell? ⟨w.heap.size, 6, none⟩ = some (.int .i64 db) := fun W h => by rw [hBS] at h; exact (h.blkAt 0 rfl).cell 6
  have HBS := Lib.hid hBS
  clear hBS k0 k1 k2 k3 k4 k5 k6
  go_region_held3 (KS w BS)
    (first | assumption | exact KS.drew (by assumption) | exact KS.alloc (by assumption) _ | exact KS.drew (KS.alloc (by assumption) _) | exact KS.alloc (KS.drew (by assumption)) _ | go_keep)
    (first | (go_at_call 38; (with_reducible refine (C.out _).mono ?_); rintro e wn ⟨rfl, rfl⟩))
  all_goals
    go_wp2_with fail
    go_ret
    first | exact ⟨rfl, KS.bel (w := w) (bs := BS) (by assumption)⟩ | exact ⟨rfl, (KS.drew (w := w) (bs := BS) (by assumption)).bel⟩
set_option maxRecDepth 100000 in
set_option maxHeartbeats 1000000 in
theorem skip_hard0 (a : Option Addr) (n c : Nat) (s : ByteArray) (al ot sk ss db : Int) (hs0 : s.size ≤ 1000) (t : ByteArray) (hi : 0 < t.size) (hs : inS s t[0] = false) (w : World) :
    Calls Tryz.prog 37 #[rulesV a n c s al ot sk ss db, .string t, .int .i64 0] w fun e w' => e = .returned (.int .i64 sk) ∧ Below w.heap.size w w' := by
  have C := Lib.hid (fun w => Has38 s hs0 t[0] w)
  rw [hs] at C
  clear hs
  have s0 := (KS.start w).new (rulesC a n c s al ot sk ss db) 24
  have S0 := Lib.hid s0
  have B0 := (s0.blkAt 0 rfl).c7
  obtain ⟨k0, k1, k2, k3, k4, k5, k6⟩ := B0
  clear s0
  go_enter Tryz.func37, Tryz.ntmps37
  go_wp2_with fail
  go_quiet (fail)
  go_wp2_with fail
  obtain ⟨BS, hBS⟩ : ∃ BS : List (Nat × Array Value × TypeId), BS = [(w.heap.size, #[.slice a n c, .string s, .int .i64 al, .int .i64 ot, .int .i64 sk, .int .i64 ss, .int .i64 db], 24)] := ⟨_, rfl⟩
  have hS : KS w BS ((w.alloc (.cells (rulesC a n c s al ot sk ss db) 24)).drewN nq) := by rw [hBS]; exact S0.out.drewN _
  have K0_0 : ∀ W, KS w BS W → W.cell? ⟨w.heap.size, 0, none⟩ = some (.slice a n c) := fun W h => by rw [hBS] at h; exact (h.blkAt 0 rfl).cell 0
  have K0_1 : ∀ W, KS w BS W → W.cell? ⟨w.heap.size, 1, none⟩ = some (.string s) := fun W h => by rw [hBS] at h; exact (h.blkAt 0 rfl).cell 1
  have K0_2 : ∀ W, KS w BS W → W.cell? ⟨w.heap.size, 2, none⟩ = some (.int .i64 al) := fun W h => by rw [hBS] at h; exact (h.blkAt 0 rfl).cell 2
  have K0_3 : ∀ W, KS w BS W → W.cell? ⟨w.heap.size, 3, none⟩ = some (.int .i64 ot) := fun W h => by rw [hBS] at h; exact (h.blkAt 0 rfl).cell 3
  have K0_4 : ∀ W, KS w BS W → W.cell? ⟨w.heap.size, 4, none⟩ = some (.int .i64 sk) := fun W h => by rw [hBS] at h; exact (h.blkAt 0 rfl).cell 4
  have K0_5 : ∀ W, KS w BS W → W.cell? ⟨w.heap.size, 5, none⟩ = some (.int .i64 ss) := fun W h => by rw [hBS] at h; exact (h.blkAt 0 rfl).cell 5
  have K0_6 : ∀ W, KS w BS W → W.cell? ⟨w.heap.size, 6, none⟩ = some (.int .i64 db) := fun W h => by rw [hBS] at h; exact (h.blkAt 0 rfl).cell 6
  have HBS := Lib.hid hBS
  clear hBS k0 k1 k2 k3 k4 k5 k6
  go_region_held3 (KS w BS)
    (first | assumption | exact KS.drew (by assumption) | exact KS.alloc (by assumption) _ | exact KS.drew (KS.alloc (by assumption) _) | exact KS.alloc (KS.drew (by assumption)) _ | go_keep)
    (first | (go_at_call 38; (with_reducible refine (C.out _).mono ?_); rintro e wn ⟨rfl, rfl⟩))
  all_goals
    go_wp2_with fail
    go_ret
    first | exact ⟨rfl, KS.bel (w := w) (bs := BS) (by assumption)⟩ | exact ⟨rfl, (KS.drew (w := w) (bs := BS) (by assumption)).bel⟩
set_option maxRecDepth 100000 in
set_option maxHeartbeats 1000000 in
theorem skip_hard1 (a : Option Addr) (n c : Nat) (s : ByteArray) (al ot sk ss db : Int) (hs0 : s.size ≤ 1000) (t : ByteArray) (ht : t.size ≤ 1000) (i : Nat) (h0 : 0 < i) (hi : i < t.size) (hne : t[i] ≠ t[i - 1]) (hs : inS s t[i] = false) (w : World) :
    Calls Tryz.prog 37 #[rulesV a n c s al ot sk ss db, .string t, .int .i64 (i : Int)] w fun e w' => e = .returned (.int .i64 sk) ∧ Below w.heap.size w w' := by
  have C := Lib.hid (fun w => Has38 s hs0 t[i] w)
  rw [hs] at C
  clear hs
  have s0 := (KS.start w).new (rulesC a n c s al ot sk ss db) 24
  have S0 := Lib.hid s0
  have B0 := (s0.blkAt 0 rfl).c7
  obtain ⟨k0, k1, k2, k3, k4, k5, k6⟩ := B0
  clear s0
  have t0 : decide ((0 : Int) < (i : Int)) = true := by simp; omega
  obtain ⟨j, rfl⟩ : ∃ j, i = j + 1 := ⟨i - 1, by omega⟩
  have e1 : IntKind.i64.wrap (j : Int) = (j : Int) := IntWalk.i64_in _ (by omega)
  have p0 : (0 : Int) ≤ (j : Int) + 1 := by omega
  have p1 : (j : Int) + 1 < (t.size : Int) := by omega
  have p2 : (j : Int) < (t.size : Int) := by omega
  have q0 : ((j : Int) + 1).toNat = j + 1 := by omega
  simp only [Nat.add_sub_cancel] at hne
  have t1 : (((t[j].toNat : Nat) : Int) == ((t[j + 1].toNat : Nat) : Int)) = false := by
    rw [beq_eq_false_iff_ne]; intro e; exact hne (UInt8.toNat_inj.1 (by omega))
  go_enter Tryz.func37, Tryz.ntmps37
  go_wp2_with fail
  go_quiet (fail)
  go_wp2_with fail
  obtain ⟨BS, hBS⟩ : ∃ BS : List (Nat × Array Value × TypeId), BS = [(w.heap.size, #[.slice a n c, .string s, .int .i64 al, .int .i64 ot, .int .i64 sk, .int .i64 ss, .int .i64 db], 24)] := ⟨_, rfl⟩
  have hS : KS w BS ((w.alloc (.cells (rulesC a n c s al ot sk ss db) 24)).drewN nq) := by rw [hBS]; exact S0.out.drewN _
  have K0_0 : ∀ W, KS w BS W → W.cell? ⟨w.heap.size, 0, none⟩ = some (.slice a n c) := fun W h => by rw [hBS] at h; exact (h.blkAt 0 rfl).cell 0
  have K0_1 : ∀ W, KS w BS W → W.cell? ⟨w.heap.size, 1, none⟩ = some (.string s) := fun W h => by rw [hBS] at h; exact (h.blkAt 0 rfl).cell 1
  have K0_2 : ∀ W, KS w BS W → W.cell? ⟨w.heap.size, 2, none⟩ = some (.int .i64 al) := fun W h => by rw [hBS] at h; exact (h.blkAt 0 rfl).cell 2
  have K0_3 : ∀ W, KS w BS W → W.cell? ⟨w.heap.size, 3, none⟩ = some (.int .i64 ot) := fun W h => by rw [hBS] at h; exact (h.blkAt 0 rfl).cell 3
  have K0_4 : ∀ W, KS w BS W → W.cell? ⟨w.heap.size, 4, none⟩ = some (.int .i64 sk) := fun W h => by rw [hBS] at h; exact (h.blkAt 0 rfl).cell 4
  have K0_5 : ∀ W, KS w BS W → W.cell? ⟨w.heap.size, 5, none⟩ = some (.int .i64 ss) := fun W h => by rw [hBS] at h; exact (h.blkAt 0 rfl).cell 5
  have K0_6 : ∀ W, KS w BS W → W.cell? ⟨w.heap.size, 6, none⟩ = some (.int .i64 db) := fun W h => by rw [hBS] at h; exact (h.blkAt 0 rfl).cell 6
  have HBS := Lib.hid hBS
  clear hBS k0 k1 k2 k3 k4 k5 k6
  go_region_held3 (KS w BS)
    (first | assumption | exact KS.drew (by assumption) | exact KS.alloc (by assumption) _ | exact KS.drew (KS.alloc (by assumption) _) | exact KS.alloc (KS.drew (by assumption)) _ | go_keep)
    (first | (go_at_call 38; (with_reducible refine (C.out _).mono ?_); rintro e wn ⟨rfl, rfl⟩))
  all_goals
    go_wp2_with fail
    go_ret
    first | exact ⟨rfl, KS.bel (w := w) (bs := BS) (by assumption)⟩ | exact ⟨rfl, (KS.drew (w := w) (bs := BS) (by assumption)).bel⟩
set_option maxRecDepth 100000 in
set_option maxHeartbeats 1000000 in
theorem skip_double (a : Option Addr) (n c : Nat) (s : ByteArray) (al ot sk ss db : Int) (t : ByteArray) (ht : t.size ≤ 1000) (i : Nat) (h0 : 0 < i) (hi : i < t.size) (hne : t[i] = t[i - 1]) (w : World) :
    Calls Tryz.prog 37 #[rulesV a n c s al ot sk ss db, .string t, .int .i64 (i : Int)] w fun e w' => e = .returned (.int .i64 db) ∧ Below w.heap.size w w' := by
  have s0 := (KS.start w).new (rulesC a n c s al ot sk ss db) 24
  have S0 := Lib.hid s0
  have B0 := (s0.blkAt 0 rfl).c7
  obtain ⟨k0, k1, k2, k3, k4, k5, k6⟩ := B0
  clear s0
  have t0 : decide ((0 : Int) < (i : Int)) = true := by simp; omega
  obtain ⟨j, rfl⟩ : ∃ j, i = j + 1 := ⟨i - 1, by omega⟩
  have e1 : IntKind.i64.wrap (j : Int) = (j : Int) := IntWalk.i64_in _ (by omega)
  have p0 : (0 : Int) ≤ (j : Int) + 1 := by omega
  have p1 : (j : Int) + 1 < (t.size : Int) := by omega
  have p2 : (j : Int) < (t.size : Int) := by omega
  have q0 : ((j : Int) + 1).toNat = j + 1 := by omega
  simp only [Nat.add_sub_cancel] at hne
  have t1 : (((t[j].toNat : Nat) : Int) == ((t[j + 1].toNat : Nat) : Int)) = true := by rw [hne]; simp
  clear hne
  go_enter Tryz.func37, Tryz.ntmps37
  go_wp2_with fail
  go_quiet (fail)
  go_wp2_with fail
  go_ret
  exact ⟨rfl, S0.out.bel.drewN' _⟩
set_option maxRecDepth 100000 in
set_option maxHeartbeats 1000000 in
theorem skip_any (a : Option Addr) (n c : Nat) (s : ByteArray) (al ot sk ss db : Int) (hs0 : s.size ≤ 1000) (t : ByteArray) (ht : t.size ≤ 1000) (i : Nat) (hi : i < t.size) (w : World) :
    Calls Tryz.prog 37 #[rulesV a n c s al ot sk ss db, .string t, .int .i64 (i : Int)] w fun e w' => e = .returned (.int .i64 (skV s sk ss db t.data.toList i)) ∧ Below w.heap.size w w' := by
  have hv : skV s sk ss db t.data.toList i = if 0 < i ∧ t[i] = t[i - 1] then db else if inS s t[i] = true then ss else sk := by
    unfold skV inS
    rw [getD_size t i hi, getD_size t (i - 1) (by omega)]
  rw [hv]
  clear hv
  by_cases h0 : 0 < i
  · by_cases h1 : t[i] = t[i - 1]
    · rw [if_pos ⟨h0, h1⟩]
      exact skip_double a n c s al ot sk ss db t ht i h0 hi h1 w
    · rw [if_neg (fun h => h1 h.2)]
      cases hs : inS s t[i] with
      | true => exact skip_soft1 a n c s al ot sk ss db hs0 t ht i h0 hi h1 hs w
      | false => exact skip_hard1 a n c s al ot sk ss db hs0 t ht i h0 hi h1 hs w
  · obtain rfl : i = 0 := by omega
    rw [if_neg (fun h => h0 h.1)]
    cases hs : inS s t[0] with
    | true => exact skip_soft0 a n c s al ot sk ss db hs0 t hi hs w
    | false => exact skip_hard0 a n c s al ot sk ss db hs0 t hi hs w
end Go.Proofs.YtkdflgaahhnigaaGreat
