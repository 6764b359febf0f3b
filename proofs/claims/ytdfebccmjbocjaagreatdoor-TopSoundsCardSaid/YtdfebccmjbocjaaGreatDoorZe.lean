/- sheet: what was read: the block of a work. -/
import Derived.Test.YtdfebccmjbocjaaGreatDoorZd
set_option linter.unusedVariables false
set_option linter.unusedSimpArgs false
namespace Go.Proofs.YtdfebccmjbocjaaGreatDoor
open Go.RowKit Go.Shelf
theorem ret_u64 {a b : Int} (h : a = b) : Ending.returned (.int .u64 a) = .returned (.int .u64 b) := by rw [h]
theorem whole_key (m : Nat) (hm : m ≤ 10) : IntKind.u64.wrap (IntKind.u64.wrap (2 ^ m) - 1) = ((2 ^ m - 1 : Nat) : Int) := by
  have h1 : 2 ^ m ≤ 2 ^ 10 := Nat.pow_le_pow_right (by omega) hm
  have h2 := Nat.two_pow_pos m
  have e : ((2 : Int) ^ m) = ((2 ^ m : Nat) : Int) := by rw [Int.natCast_pow]; rfl
  have e2 : IntKind.u64.wrap ((2 ^ m : Nat) : Int) = ((2 ^ m : Nat) : Int) := IntWalk.u64_in _ (by omega)
  have e3 : IntKind.u64.wrap (((2 ^ m : Nat) : Int) - 1) = ((2 ^ m : Nat) : Int) - 1 := IntWalk.u64_in _ (by omega)
  rw [e, e2, e3]
  omega
theorem whole_any (g m c : Nat) (ad : Option Addr) (hm : m ≤ 10) (w : World) (h7 : w.cell? ⟨g, 7, none⟩ = some (.slice ad m c)) (hg : g < w.heap.size) :
    Calls Tryz.prog 67 #[.pointer (some ⟨g, 0, none⟩)] w fun e w' => e = .returned (.int .u64 ((2 ^ m - 1 : Nat) : Int)) ∧ w = w' := by
  have KEY := Lib.hid (whole_key m hm)
  go_enter Tryz.func67, Tryz.ntmps67
  go_wp2_with fail
  go_ret
  exact ⟨ret_u64 KEY.out, rfl⟩
abbrev cenV (e s a : Value) (ol oh nl nh : Int) : Value := .agg #[e, s, a, .int .i64 ol, .int .i64 oh, .int .i64 nl, .int .i64 nh]
abbrev cenA (e s a : Value) (ol oh nl nh : Int) : Array Value := #[e, s, a, .int .i64 ol, .int .i64 oh, .int .i64 nl, .int .i64 nh]
/-- the ranges of a census are small -/
def SmallR (ol oh nl nh : Int) : Prop := 0 ≤ ol ∧ ol ≤ 1000 ∧ 0 ≤ oh ∧ oh ≤ 1000 ∧ 0 ≤ nl ∧ nl ≤ 1000 ∧ 0 ≤ nh ∧ nh ≤ 1000
theorem limits_any (e s a : Value) (ol oh nl nh : Int) (hr : SmallR ol oh nl nh) (w : World) : Calls Tryz.prog 45 #[cenV e s a ol oh nl nh] w fun x w' => x = .returned (rngV (nl - oh) (nh - ol)) ∧ Below w.heap.size w w' := by
  obtain ⟨r0, r1, r2, r3, r4, r5, r6, r7⟩ := hr
  obtain ⟨c1, c2, B2, hz⟩ := two_new w (cenA e s a ol oh nl nh) #[.int .i64 0, .int .i64 0] 54 48
  obtain ⟨q0, q1, q2, q3, q4, q5, q6⟩ := c1.c7
  have BB := Lib.hid B2
  clear c1 c2 B2
  go_enter Tryz.func45, Tryz.ntmps45
  go_wp2_with fail
  exact bodyPost_ret (v := rngV (nl - oh) (nh - ol)) (by simp [results, Tryz.results45, go_sem]) rfl ⟨rfl, ((Below.refl _ _).alloc (Nat.le_refl _) _).alloc (by simp) _⟩
/-- what persons() reads of a work -/
def PW (W : World) (g : Nat) (e s a : Value) (ol oh nl nh : Int) (ad : Option Addr) (m c L : Nat) : Prop :=
  (W.cell? ⟨g, 0, none⟩ = some e ∧ W.cell? ⟨g, 1, none⟩ = some s ∧ W.cell? ⟨g, 2, none⟩ = some a ∧ W.cell? ⟨g, 3, none⟩ = some (.int .i64 ol) ∧ W.cell? ⟨g, 4, none⟩ = some (.int .i64 oh) ∧ W.cell? ⟨g, 5, none⟩ = some (.int .i64 nl) ∧ W.cell? ⟨g, 6, none⟩ = some (.int .i64 nh)) ∧
  W.cell? ⟨g, 7, none⟩ = some (.slice ad m c) ∧ W.cell? ⟨g, 1032 + (2 ^ m - 1), none⟩ = some (.int .i64 (L : Int)) ∧ g < W.heap.size
theorem PW.below {W W' : World} {g : Nat} {e s a : Value} {ol oh nl nh : Int} {ad : Option Addr} {m c L : Nat} (h : PW W g e s a ol oh nl nh ad m c L) (hb : Below W.heap.size W W') : PW W' g e s a ol oh nl nh ad m c L := by
  obtain ⟨⟨h0, h1, h2, h3, h4, h5, h6⟩, h7, h8, hg⟩ := h
  have key : ∀ i v, W.cell? ⟨g, i, none⟩ = some v → W'.cell? ⟨g, i, none⟩ = some v := fun i v h => (hb.cell (p := ⟨g, i, none⟩) hg).trans h
  exact ⟨⟨key _ _ h0, key _ _ h1, key _ _ h2, key _ _ h3, key _ _ h4, key _ _ h5, key _ _ h6⟩, key _ _ h7, key _ _ h8, Nat.lt_of_lt_of_le hg hb.size⟩
set_option maxRecDepth 100000 in
set_option maxHeartbeats 1600000 in
theorem persons_none (g : Nat) (e s a : Value) (ol oh nl nh : Int) (ad : Option Addr) (m c L : Nat) (hm : m ≤ 10) (hL : 1024 ≤ L) (w : World) (h : PW w g e s a ol oh nl nh ad m c L) :
    Calls Tryz.prog 35 #[.pointer (some ⟨g, 0, none⟩)] w fun x w' => x = .returned (rngV 1 0) ∧ Below w.heap.size w w' := by
  have h1 : 2 ^ m ≤ 2 ^ 10 := Nat.pow_le_pow_right (by omega) hm
  have h2 := Nat.two_pow_pos m
  obtain ⟨M, hM⟩ : ∃ M, M = 2 ^ m - 1 := ⟨_, rfl⟩
  have hM1 : M < 1024 := by omega
  have C := Lib.hid (fun W (hW : Below w.heap.size w W) => whole_any g m c ad hm W (h.below hW).2.1 (h.below hW).2.2.2)
  rw [← hM] at C
  have B1 : Below w.heap.size w (w.alloc (.cells #[.int .i64 0, .int .i64 0] 48)) := (Below.refl _ _).alloc (Nat.le_refl _) _
  have hc := (h.below B1).2.2.1
  have hg := h.2.2.2
  rw [← hM] at hc
  have BB := Lib.hid B1
  have i0 : (0 : Int) ≤ (M : Int) := by omega
  have i1 : (M : Int) < 1024 := by omega
  have iL : (1024 : Int) ≤ (L : Int) := by omega
  clear h h1 h2 hM hm B1 hL
  go_enter Tryz.func35, Tryz.ntmps35
  go_wp2_with (go_at_call 67; (with_reducible refine (C.out _ BB.out).mono ?_); rintro e w' ⟨rfl, rfl⟩)
  exact bodyPost_ret (v := rngV 1 0) (by simp [results, Tryz.results35, go_sem]) rfl ⟨rfl, (Below.refl _ _).alloc (Nat.le_refl _) _⟩
set_option maxRecDepth 100000 in
set_option maxHeartbeats 3200000 in
theorem persons_some (g : Nat) (e s a : Value) (ol oh nl nh : Int) (ad : Option Addr) (m c L : Nat) (hm : m ≤ 10) (hL : L < 1024) (hr : SmallR ol oh nl nh) (w : World) (h : PW w g e s a ol oh nl nh ad m c L) :
    Calls Tryz.prog 35 #[.pointer (some ⟨g, 0, none⟩)] w fun x w' => x = .returned (rngV (max (nl - oh) L) (min (nh - ol) m)) ∧ Below w.heap.size w w' := by
  have h1 : 2 ^ m ≤ 2 ^ 10 := Nat.pow_le_pow_right (by omega) hm
  have h2 := Nat.two_pow_pos m
  obtain ⟨M, hM⟩ : ∃ M, M = 2 ^ m - 1 := ⟨_, rfl⟩
  have hM1 : M < 1024 := by omega
  have C := Lib.hid (fun W (hW : Below w.heap.size w W) => whole_any g m c ad hm W (h.below hW).2.1 (h.below hW).2.2.2)
  rw [← hM] at C
  have B1 : Below w.heap.size w (w.alloc (.cells #[.int .i64 0, .int .i64 0] 48)) := (Below.refl _ _).alloc (Nat.le_refl _) _
  have hc := (h.below B1).2.2.1
  have hg := h.2.2.2
  rw [← hM] at hc
  have BB := Lib.hid B1
  have i0 : (0 : Int) ≤ (M : Int) := by omega
  have i1 : (M : Int) < 1024 := by omega
  have iL : ¬ (1024 : Int) ≤ (L : Int) := by omega
  generalize hx : max (nl - oh) (L : Int) = x
  generalize hy : min (nh - ol) (m : Int) = y
  have CL := Lib.hid (fun W => limits_any e s a ol oh nl nh hr W)
  have CC := Lib.hid (fun W => cut_s (nl - oh) (nh - ol) L m W)
  rw [hx, hy] at CC
  have hZ0 : KZ w [] w.heap.size #[.int .i64 0, .int .i64 0] 48 (w.alloc (.cells #[.int .i64 0, .int .i64 0] 48)) := KZ.new (KS.start w) _ _
  have HZ := Lib.hid hZ0
  have k0 : ∀ W, KS w [] W → W.cell? ⟨g, 0, none⟩ = some e := fun W h' => (h.below h'.bel).1.1
  have k1 : ∀ W, KS w [] W → W.cell? ⟨g, 1, none⟩ = some s := fun W h' => (h.below h'.bel).1.2.1
  have k2 : ∀ W, KS w [] W → W.cell? ⟨g, 2, none⟩ = some a := fun W h' => (h.below h'.bel).1.2.2.1
  have k3 : ∀ W, KS w [] W → W.cell? ⟨g, 3, none⟩ = some (.int .i64 ol) := fun W h' => (h.below h'.bel).1.2.2.2.1
  have k4 : ∀ W, KS w [] W → W.cell? ⟨g, 4, none⟩ = some (.int .i64 oh) := fun W h' => (h.below h'.bel).1.2.2.2.2.1
  have k5 : ∀ W, KS w [] W → W.cell? ⟨g, 5, none⟩ = some (.int .i64 nl) := fun W h' => (h.below h'.bel).1.2.2.2.2.2.1
  have k6 : ∀ W, KS w [] W → W.cell? ⟨g, 6, none⟩ = some (.int .i64 nh) := fun W h' => (h.below h'.bel).1.2.2.2.2.2.2
  have k7 : ∀ W, KS w [] W → W.cell? ⟨g, 7, none⟩ = some (.slice ad m c) := fun W h' => (h.below h'.bel).2.1
  have k8 : ∀ W, KS w [] W → W.cell? ⟨g, 1032 + M, none⟩ = some (.int .i64 (L : Int)) := fun W h' => by rw [hM]; exact (h.below h'.bel).2.2.1
  have k9 : ∀ W, KS w [] W → g < W.heap.size := fun W h' => (h.below h'.bel).2.2.2
  have KZ0 : ∀ W, KZ w [] w.heap.size #[.int .i64 0, .int .i64 0] 48 W → W.cell? ⟨w.heap.size, 0, none⟩ = some (.int .i64 0) := fun W h => h.c0
  have KZ1 : ∀ W, KZ w [] w.heap.size #[.int .i64 0, .int .i64 0] 48 W → W.cell? ⟨w.heap.size, 1, none⟩ = some (.int .i64 0) := fun W h => h.c1
  have KF0 : ∀ W, KZ w [] w.heap.size #[.int .i64 0, .int .i64 0] 48 W → W.frozen? ⟨w.heap.size, 0, none⟩ = false := fun W h => h.f 0
  have KF1 : ∀ W, KZ w [] w.heap.size #[.int .i64 0, .int .i64 0] 48 W → W.frozen? ⟨w.heap.size, 1, none⟩ = false := fun W h => h.f 1
  clear h h1 h2 hM hm B1 hL hr hx hy hZ0
  go_enter Tryz.func35, Tryz.ntmps35
  go_wp2_with (go_at_call 67; (with_reducible refine (C.out _ BB.out).mono ?_); rintro e w' ⟨rfl, rfl⟩)
  have hZ := HZ.out
  have hS := hZ.ks
  clear hc
  refine wp_joinZ (ι := Unit) (f := fun aa _ => (((((((((((((((((aa.put (some 14) (.pointer (some ⟨g, 0, none⟩))).put (some 15) (.pointer (some ⟨g, 0, none⟩))).put (some 16) (.pointer (some ⟨g, 0, none⟩))).put (some 17) (cenV e s a ol oh nl nh)).put (some 18) (rngV (nl - oh) (nh - ol))).put (some 19) (.pointer (some ⟨g, 0, none⟩))).put (some 20) (.int .u64 (M : Int))).put (some 21) (.pointer (some ⟨g, 0, none⟩))).put (some 22) (.pointer (some ⟨g, 1032, none⟩))).put (some 23) (.pointer (some ⟨g, 1032 + M, none⟩))).put (some 24) (.int .i64 (L : Int))).put (some 25) (.pointer (some ⟨g, 0, none⟩))).put (some 26) (.pointer (some ⟨g, 0, none⟩))).put (some 27) (.pointer (some ⟨g, 7, none⟩))).put (some 28) (.slice ad m c)).put (some 29) (.int .i64 (m : Int))).put (some 30) (rngV x y))) (mid := fun _ W' => Blk W' w.heap.size #[.int .i64 x, .int .i64 y] 48 ∧ Below w.heap.size w W') ?_ ?_
  · go_region_held3 (KS w [])
      (first | assumption | exact KS.drew (by assumption) | exact KZ.ks (by assumption) | exact KZ.keep2 (by assumption) | exact (KZ.keep2 (by assumption)).drew | exact (KZ.drew (by assumption)).keep2 | go_keep)
      (first | (go_at_call 45; (with_reducible refine (CL.out _).mono ?_); rintro e wn ⟨rfl, hb⟩; have hSn := KS.below (w := w) (bs := []) (by first | assumption | exact KS.drew (by assumption)) hb; have hZn := KZ.below (w := w) (bs := []) (b := w.heap.size) (by first | assumption | exact KZ.drew (by assumption)) hb; clear hb) | (go_at_call 36; (with_reducible refine (CC.out _).mono ?_); rintro e wn ⟨rfl, hb⟩; have hSn := KS.below (w := w) (bs := []) (by first | assumption | exact KS.drew (by assumption)) hb; have hZn := KZ.below (w := w) (bs := []) (b := w.heap.size) (by first | assumption | exact KZ.drew (by assumption)) hb; clear hb))
    all_goals exact ⟨rfl, (), rfl, by first | (have h := KZ.put2 (w := w) (bs := []) (b := w.heap.size) (x' := .int .i64 x) (y' := .int .i64 y) (by assumption); exact ⟨h.2.1, h.1.2⟩) | (have h := KZ.put2D (w := w) (bs := []) (b := w.heap.size) (x' := .int .i64 x) (y' := .int .i64 y) (by assumption); exact ⟨h.2.1, h.1.2⟩)⟩
  rintro _ W' ⟨hb, hB⟩
  have HB := Lib.hid hB
  have c0 := hb.cell 0
  have c1 := hb.cell 1
  have hl := hb.lt
  clear hB hb hZ hS k0 k1 k2 k3 k4 k5 k6 k7 k8 k9 KZ0 KZ1 KF0 KF1
  simp only [Act.put, List.setIfInBounds_toArray, List.set_cons_zero, List.set_cons_succ]
  go_wp2_with fail
  refine bodyPost_ret (v := rngV x y) (by simp [results, Tryz.results35, go_sem, c0, c1, hl]) rfl ⟨rfl, HB.out⟩
end Go.Proofs.YtdfebccmjbocjaaGreatDoor
