/- The walks of Missed and Suffices of the reference of layer 6. -/
import Derived.Test.YtkfobnhnehbkeaaExcl
set_option linter.unusedVariables false
set_option linter.unusedSimpArgs false
namespace Go.Proofs.Ytkfobnhnehbkeaa
open Go.RowKit Go.Shelf
open Mis (ch sets tot sm low up lower excl rng)

def rLo : Option (Nat × Nat) → Int | none => 99 | some r => r.1
def rHi : Option (Nat × Nat) → Int | none => -1 | some r => r.2
def rIs : Option (Nat × Nat) → Bool | none => false | some _ => true
theorem rng_in {p : Nat → Bool} {k : Nat} (hp : p k = true) (hk : k ≤ 50) : min (rLo (rng p k)) (k : Int) = rLo (rng p (k + 1)) ∧ rHi (rng p (k + 1)) = k := by
  rw [rng, if_pos hp]
  cases h : rng p k with
  | none => simp [rLo, rHi]; omega
  | some r =>
    obtain ⟨_, _, h3, h4, _⟩ := Mis.rng_some p k r.1 r.2 h
    simp [rLo, rHi]; omega
theorem rng_out {p : Nat → Bool} {k : Nat} (hp : p k = false) : rng p (k + 1) = rng p k := by rw [rng, if_neg (by simp [hp])]
theorem rLo_bd (p : Nat → Bool) (k : Nat) (hk : k ≤ 51) : 0 ≤ rLo (rng p k) ∧ rLo (rng p k) ≤ 99 ∧ -1 ≤ rHi (rng p k) ∧ rHi (rng p k) ≤ 99 := by
  cases h : rng p k with
  | none => simp [rLo, rHi]
  | some r =>
    obtain ⟨_, _, h3, h4, _⟩ := Mis.rng_some p k r.1 r.2 h
    simp [rLo, rHi]; omega
theorem rIs_hi (r : Option (Nat × Nat)) : decide (0 ≤ rHi r) = rIs r := by cases r <;> simp [rHi, rIs]

set_option maxRecDepth 100000 in
set_option maxHeartbeats 1000000 in
theorem rMissed_any {l M s f : Nat} (h : okA l M s f) (n d : Nat) (hd1 : 1 ≤ d) (hd : d ≤ 1000) (hn : n ≤ d) (w : World) :
    Calls Try.prog 34 #[areaV l M s f, fracV n d] w fun e w' => e = .returned (.tuple #[fracV (rLo (rangeOf l M s f n d)) (rHi (rangeOf l M s f n d)), .bool (rIs (rangeOf l M s f n d))]) ∧ Below w.heap.size w w' := by
  have hM : M ≤ 50 := by obtain ⟨h1, _, _⟩ := h; omega
  have C66 := Lib.hid (fun (u : Nat) (hu : u ≤ M) (w : World) => rExcl_any h hu n d hd1 hd hn w)
  obtain ⟨p, hp⟩ : ∃ p : Nat → Bool, p = fun u => !excl l s f n d u := ⟨_, rfl⟩
  have hr : rangeOf l M s f n d = rng p (M + 1) := by rw [hp]; rfl
  have HP := Lib.hid (fun u => congrFun hp u)
  rw [hr]
  clear hp hr h hd1 hd hn
  obtain ⟨b0, b1, b2, b3, hb0, hsz⟩ := four_new w #[.int .i64 l, .int .i64 M, .int .i64 s, .int .i64 f] #[.int .i64 n, .int .i64 d] #[.int .i64 0, .int .i64 0] #[.int .i64 99, .int .i64 (-1)] 23 36 54 54
  have B0 := Lib.hid b0
  have B1 := Lib.hid b1
  have B2 := Lib.hid b2
  have B3 := Lib.hid b3
  have HB := Lib.hid hb0
  clear b0 b1 b2 b3 hb0 hsz
  go_enter Try.func34, Try.ntmps34
  go_wp2
  generalize (((w.alloc (.cells #[.int .i64 l, .int .i64 M, .int .i64 s, .int .i64 f] 23)).alloc (.cells #[.int .i64 n, .int .i64 d] 36)).alloc (.cells #[.int .i64 0, .int .i64 0] 54)).alloc (.cells #[.int .i64 99, .int .i64 (-1)] 54) = W0 at *
  go_loopw [7] (fun x wr => ∃ k : Nat, k ≤ M + 1 ∧ x = .int .i64 k ∧ Blk wr w.heap.size #[.int .i64 l, .int .i64 M, .int .i64 s, .int .i64 f] 23 ∧ Blk wr (w.heap.size + 1) #[.int .i64 n, .int .i64 d] 36 ∧ Blk wr (w.heap.size + 1 + 1) #[.int .i64 0, .int .i64 0] 54 ∧ Blk wr (w.heap.size + 1 + 1 + 1) #[.int .i64 (rLo (rng p k)), .int .i64 (rHi (rng p k))] 54 ∧ Below w.heap.size w wr)
    (fun x _ => M + 1 - (intOf x).toNat)
  case atStart => exact ⟨0, by omega, rfl, B0.out, B1.out, B2.out, B3.out, HB.out⟩
  case round =>
    clear B0 B1 B2 B3 HB
    obtain ⟨k, hk, rfl, b0, b1, b2, b3, hb⟩ := hrel
    obtain ⟨k0, k1, k2, k3⟩ := b0.c4
    obtain ⟨k4, k5, _⟩ := b1.c2
    obtain ⟨k6, k7, k8, k9⟩ := b2.c2
    obtain ⟨k10, k11, k12, k13⟩ := b3.c2
    have B0 := Lib.hid b0
    have B1 := Lib.hid b1
    have B2 := Lib.hid b2
    have B3 := Lib.hid b3
    have HB := Lib.hid hb
    have hsz := b3.lt
    clear b0 b1 b2 b3 hb
    obtain ⟨q1, q2, q3, q4⟩ := rLo_bd p k (by omega)
    by_cases hlt : k ≤ M
    · have D66 := Lib.hid (fun w => C66.out k hlt w)
      have hpk := HP.out k
      cases hx : excl l s f n d k with
      | true =>
        rw [hx] at D66 hpk
        have hO := rng_out (p := p) (k := k) hpk
        have HL := Lib.hid (congrArg rLo hO)
        have HH := Lib.hid (congrArg rHi hO)
        clear hx hpk hO
        generalize rLo (rng p k) = lo at *
        generalize rHi (rng p k) = hi at *
        go_wp2_with (go_at_call 66; (with_reducible refine (D66.out _).mono ?_); rintro e w1 ⟨rfl, hb1⟩; have H1 := Lib.hid hb1; clear hb1)
        go_roundw
        case rel => exact ⟨k + 1, by omega, by go_num, B0.out.b H1.out, B1.out.b H1.out, B2.out.b H1.out, by rw [HL.out, HH.out]; exact B3.out.b H1.out, HB.out.trans (H1.out.mono HB.out.size)⟩
        case measure => simp [intOf]; omega
      | false =>
        rw [hx] at D66 hpk
        obtain ⟨hmin, hhi⟩ := rng_in (p := p) hpk (by omega)
        have HMI := Lib.hid hmin
        have HHI := Lib.hid hhi
        clear hx hpk hmin hhi
        generalize rLo (rng p k) = lo at *
        generalize rHi (rng p k) = hi at *
        go_wp2_with (go_at_call 66; (with_reducible refine (D66.out _).mono ?_); rintro e w1 ⟨rfl, hb1⟩; have x3 := B3.out.b hb1; obtain ⟨k10, k11, k12, k13⟩ := x3.c2; have X3 := Lib.hid x3; have H1 := Lib.hid hb1; clear hb1 x3)
        go_roundw
        case rel =>
          refine ⟨k + 1, by omega, by go_num, ((B0.out.b H1.out).other (by show _ ≠ w.heap.size + 1 + 1 + 1; omega) _).other (by show _ ≠ w.heap.size + 1 + 1 + 1; omega) _, ((B1.out.b H1.out).other (by show _ ≠ w.heap.size + 1 + 1 + 1; omega) _).other (by show _ ≠ w.heap.size + 1 + 1 + 1; omega) _, ((B2.out.b H1.out).other (by show _ ≠ w.heap.size + 1 + 1 + 1; omega) _).other (by show _ ≠ w.heap.size + 1 + 1 + 1; omega) _, ?_, ?_⟩
          · rw [← HMI.out, HHI.out]
            exact (X3.out.set 0 (.int .i64 (min lo (k : Int)))).set 1 (.int .i64 (k : Int))
          · exact ((HB.out.trans (H1.out.mono HB.out.size)).setCell (by show w.heap.size ≤ w.heap.size + 1 + 1 + 1; omega) _).setCell (by show w.heap.size ≤ w.heap.size + 1 + 1 + 1; omega) _
        case measure => simp [intOf]; omega
    · obtain rfl : k = M + 1 := by omega
      have HI := Lib.hid (rIs_hi (rng p (M + 1)))
      go_wp2
      go_region
      go_wp2
      refine bodyPost_ret (v := .tuple #[fracV (rLo (rng p (M + 1))) (rHi (rng p (M + 1))), .bool (rIs (rng p (M + 1)))]) (by rw [← HI.out]; simp [results, Try.results34, go_sem, k6, k7]) rfl ⟨rfl, ?_⟩
      exact ((HB.out.setCell (by show w.heap.size ≤ w.heap.size + 1 + 1; omega) _).setCell (by show w.heap.size ≤ w.heap.size + 1 + 1; omega) _).drew
end Go.Proofs.Ytkfobnhnehbkeaa
