/- The walk of Suffices of the reference of layer 6. -/
import Derived.Test.YtkfobnhnehbkeaaRMiss
namespace Go.Proofs.Ytkfobnhnehbkeaa
open Go.RowKit Go.Shelf
open Mis (ch sets tot sm low up lower excl rng)

theorem sets_le_tot (l u s : Nat) : sets l u s s ≤ tot l u s := by
  have h := Mis.low_full l u s
  unfold Mis.low at h
  rw [Mis.sm_succ, Nat.zero_add] at h
  omega
theorem sufB_from {l M u n d s : Nat} (h : ∀ x, u ≤ x → x ≤ M → enoughB l x s n d = true) : sufB l M u n d s = true := by
  unfold sufB
  rw [List.all_eq_true]
  intro x hx
  rw [List.mem_range] at hx
  by_cases hux : x < u
  · simp [hux]
  · rw [h x (by omega) (by omega)]; simp
theorem sufB_not {l M u n d s x : Nat} (h1 : u ≤ x) (h2 : x ≤ M) (h : enoughB l x s n d = false) : sufB l M u n d s = false := by
  unfold sufB
  rw [List.all_eq_false]
  exact ⟨x, List.mem_range.2 (by omega), by rw [h]; simp; omega⟩

set_option maxRecDepth 100000 in
set_option maxHeartbeats 2000000 in
theorem rSuff_any (l M u s n d : Nat) (w : World) (hl : l + M ≤ 50) (hs : s ≤ l) (_hu : u ≤ 50) (hd1 : 1 ≤ d) (hd : d ≤ 1000) (hn : n ≤ d) :
    Calls Try.prog 39 #[.int .i64 l, .int .i64 M, .int .i64 u, .int .i64 s, fracV n d] w fun e w' => e = .returned (.bool (sufB l M u n d s)) ∧ Below w.heap.size w w' := by
  have A43 := Lib.hid (fun (x : Nat) (hx : x ≤ M) (w : World) => rAll_any l M s s l x s rfl rfl w (by omega))
  have A57 := Lib.hid (fun (x : Nat) (hx : x ≤ M) (w : World) => rSets_any l M s s l x s s rfl rfl w (by omega) (Nat.le_refl _) (by omega))
  have A29 := Lib.hid (fun (x : Nat) (hx : x ≤ M) (w : World) => rBelow_any (tot l x s - sets l x s s) (tot l x s) n d w (Mis.tot_pos l x s hs) (by omega) (Nat.le_trans (Nat.sub_le _ _) (bigT (by omega))) (bigT (by omega)) (by omega) (by omega))
  have HT := Lib.hid (fun (x : Nat) (hx : x ≤ M) => bigT (l := l) (u := x) (s := s) (by omega))
  have hs0 := ((KS.start w).new #[.int .i64 n, .int .i64 d] 36).new #[.int .i64 l, .int .i64 M, .int .i64 s, .int .i64 s] 23
  rw [World.size_alloc] at hs0
  obtain ⟨k0, k1, k2, k3⟩ := (hs0.blkAt 0 rfl).c4
  obtain ⟨k4, k5, _⟩ := (hs0.blkAt 1 rfl).c2
  have HS0 := Lib.hid hs0
  obtain ⟨r, hr⟩ : ∃ r, r = sufB l M u n d s := ⟨_, rfl⟩
  have HR := Lib.hid hr
  rw [← hr]
  clear hs0 hr hs hd1 hd hn
  go_enter Try.func39, Try.ntmps39
  go_wp2
  generalize (w.alloc (.cells #[.int .i64 n, .int .i64 d] 36)).alloc (.cells #[.int .i64 l, .int .i64 M, .int .i64 s, .int .i64 s] 23) = W0 at *
  obtain ⟨BS, hBS⟩ : ∃ BS : List (Nat × Array Value × TypeId), BS = [(w.heap.size + 1, #[.int .i64 l, .int .i64 M, .int .i64 s, .int .i64 s], 23), (w.heap.size, #[.int .i64 n, .int .i64 d], 36)] := ⟨_, rfl⟩
  have hS : KS w BS W0 := by rw [hBS]; exact HS0.out
  have K0_0 : ∀ W, KS w BS W → W.cell? ⟨w.heap.size + 1, 0, none⟩ = some (.int .i64 l) := fun W h => by rw [hBS] at h; exact (h.blkAt 0 rfl).cell 0
  have K0_1 : ∀ W, KS w BS W → W.cell? ⟨w.heap.size + 1, 1, none⟩ = some (.int .i64 M) := fun W h => by rw [hBS] at h; exact (h.blkAt 0 rfl).cell 1
  have K0_2 : ∀ W, KS w BS W → W.cell? ⟨w.heap.size + 1, 2, none⟩ = some (.int .i64 s) := fun W h => by rw [hBS] at h; exact (h.blkAt 0 rfl).cell 2
  have K0_3 : ∀ W, KS w BS W → W.cell? ⟨w.heap.size + 1, 3, none⟩ = some (.int .i64 s) := fun W h => by rw [hBS] at h; exact (h.blkAt 0 rfl).cell 3
  have K1_0 : ∀ W, KS w BS W → W.cell? ⟨w.heap.size, 0, none⟩ = some (.int .i64 n) := fun W h => by rw [hBS] at h; exact (h.blkAt 1 rfl).cell 0
  have K1_1 : ∀ W, KS w BS W → W.cell? ⟨w.heap.size, 1, none⟩ = some (.int .i64 d) := fun W h => by rw [hBS] at h; exact (h.blkAt 1 rfl).cell 1
  have HBS := Lib.hid hBS
  clear hBS
  clear HS0 k0 k1 k2 k3 k4 k5
  go_loopw [12] (fun x wr => ∃ k : Nat, u ≤ k ∧ (k ≤ M + 1 ∨ k = u) ∧ x = .int .i64 k ∧ (∀ y, u ≤ y → y < k → enoughB l y s n d = true) ∧ KS w BS wr)
    (fun x _ => M + 1 - (intOf x).toNat)
  case atStart => exact ⟨u, Nat.le_refl _, .inr rfl, rfl, fun y h1 h2 => by omega, hS⟩
  case round =>
    obtain ⟨k, huk, hk, rfl, hall, hS'⟩ := hrel
    have HA := Lib.hid hall
    clear hall hS
    by_cases hlt : k ≤ M
    · have B43 := Lib.hid (fun w => A43.out k hlt w)
      have B57 := Lib.hid (fun w => A57.out k hlt w)
      have B29 := Lib.hid (fun w => A29.out k hlt w)
      have hm : IntKind.i64.wrap ((tot l k s : Int) - (sets l k s s : Int)) = ((tot l k s - sets l k s s : Nat) : Int) := by
        have h1 := sets_le_tot l k s
        have h2 := HT.out k hlt
        rw [IntWalk.i64_in _ (by omega)]; omega
      have HE : Hid (enoughB l k s n d = !lower (tot l k s - sets l k s s) (tot l k s) n d) := Lib.hid rfl
      have HM := Lib.hid hm
      have c0 := K0_0 _ hS'
      have c1 := K0_1 _ hS'
      have c2 := K0_2 _ hS'
      have c3 := K0_3 _ hS'
      clear hm A43 A57 A29 HT hk
      generalize tot l k s - sets l k s s = E at *
      generalize tot l k s = D at *
      generalize sets l k s s = B at *
      cases hx : lower E D n d with
      | true =>
        rw [hx] at B29 HE
        clear hx
        go_wp2_with (go_at_call 43; (with_reducible refine (B43.out _).mono ?_); rintro e w1 ⟨rfl, hb1⟩; have hS1 := KS.below hS' hb1; clear hb1)
        have hm := HM.out
        clear c0 c1 c2 c3 HM
        go_region_held3 (KS w BS)
          (first | assumption | exact KS.drew (by assumption) | exact KS.alloc (by assumption) _ | exact KS.drew (KS.alloc (by assumption) _) | exact KS.alloc (KS.drew (by assumption)) _ | go_keep)
          (first | (go_at_call 57; (with_reducible refine (B57.out _).mono ?_); rintro e wn ⟨rfl, hb⟩; have hSn := KS.below (by first | assumption | exact KS.drew (by assumption)) hb; clear hb) | (go_at_call 29; (with_reducible refine (B29.out _).mono ?_); rintro e wm ⟨rfl, hb⟩; have hSm := KS.below (by first | assumption | exact KS.drew (by assumption)) hb; clear hb))
        clear hm
        go_wp2
        go_ret
        refine ⟨?_, hSm.bel⟩
        have : r = false := by rw [HR.out]; exact sufB_not huk hlt (by rw [HE.out]; rfl)
        rw [this]; rfl
      | false =>
        rw [hx] at B29 HE
        clear hx
        go_wp2_with (go_at_call 43; (with_reducible refine (B43.out _).mono ?_); rintro e w1 ⟨rfl, hb1⟩; have hS1 := KS.below hS' hb1; clear hb1)
        have hm := HM.out
        clear c0 c1 c2 c3 HM
        go_region_held3 (KS w BS)
          (first | assumption | exact KS.drew (by assumption) | exact KS.alloc (by assumption) _ | exact KS.drew (KS.alloc (by assumption) _) | exact KS.alloc (KS.drew (by assumption)) _ | go_keep)
          (first | (go_at_call 57; (with_reducible refine (B57.out _).mono ?_); rintro e wn ⟨rfl, hb⟩; have hSn := KS.below (by first | assumption | exact KS.drew (by assumption)) hb; clear hb) | (go_at_call 29; (with_reducible refine (B29.out _).mono ?_); rintro e wm ⟨rfl, hb⟩; have hSm := KS.below (by first | assumption | exact KS.drew (by assumption)) hb; clear hb))
        clear hm
        go_wp2
        go_roundw
        case rel =>
          refine ⟨k + 1, by omega, .inl (by omega), by go_num, fun y h1 h2 => ?_, hSm⟩
          rcases Nat.lt_succ_iff_lt_or_eq.1 h2 with h | rfl
          · exact HA.out y h1 h
          · rw [HE.out]; rfl
        case measure => simp [intOf]; omega
    · have t1 : decide ((k : Int) ≤ (M : Int)) = false := by simp; omega
      have t2 : decide (k ≤ M) = false := by simp; omega
      go_wp2
      go_ret
      refine ⟨?_, hS'.bel⟩
      have : r = true := by rw [HR.out]; exact sufB_from fun x h1 h2 => HA.out x h1 (by omega)
      rw [this]; rfl
end Go.Proofs.Ytkfobnhnehbkeaa
