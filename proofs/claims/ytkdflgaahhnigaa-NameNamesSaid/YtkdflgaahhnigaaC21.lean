/- Texts of package name, for this seat. -/
import Derived.Test.YtkdflgaahhnigaaC17
import Derived.Test.YtkdflgaahhnigaaC15
import Derived.Test.YtkdflgaahhnigaaC16
import Derived.Test.YtkdflgaahhnigaaC11
set_option linter.unusedVariables false
set_option linter.unusedSimpArgs false
namespace Go.Proofs.Ytkdflgaahhnigaa
open Go.RowKit Go.Shelf

theorem TabK.elem {w : World} {B : Nat} {tv : Value} {tab : List (List Nat)} (h : TabK w B tv tab) : ∃ q tc, tv = .slice q tab.length tc ∧ ∀ i r, tab[i]? = some r → ∃ tg ua ug uc, q = some ⟨tg, 0, none⟩ ∧ (∀ W, Below w.heap.size w W → W.cell? ⟨tg, i, none⟩ = some (.slice ua r.length uc) ∧ IK W ua ug 0 r.length (r.map fun (k : Nat) => (k : Int))) := by
  obtain ⟨vs, h1, h2⟩ := h
  rcases Joins.ownsRow_forms h1 with ⟨rfl, e0⟩ | ⟨tg, tc, rfl⟩
  · refine ⟨none, 0, by rw [e0], fun i r hr => ?_⟩
    have := (List.getElem?_eq_some_iff.1 hr).1; omega
  · refine ⟨_, tc, rfl, fun i r hr => ?_⟩
    obtain ⟨u, k1, k2, _⟩ := h2 i _ hr
    unfold natsOwn at k2
    have hi := (List.getElem?_eq_some_iff.1 hr).1
    rcases Joins.ownsRow_forms k2 with ⟨rfl, e1⟩ | ⟨ug, uc, rfl⟩
    · have hr0 : r = [] := List.eq_nil_of_length_eq_zero e1
      subst hr0
      refine ⟨tg, none, 0, 0, rfl, fun W hW => ⟨?_, rfl, fun h => absurd rfl h, fun i x e => by simp at e, fun h => absurd rfl h⟩⟩
      rw [hW.cell (p := ⟨tg, i, none⟩) (h1.lt tg rfl).2, h1.cellAt i (by omega), k1]; rfl
    · refine ⟨tg, some ⟨ug, 0, none⟩, ug, uc, rfl, fun W hW => ⟨?_, ik_of_row (row_below k2 hW)⟩⟩
      rw [hW.cell (p := ⟨tg, i, none⟩) (h1.lt tg rfl).2, h1.cellAt i (by omega), k1]
end Go.Proofs.Ytkdflgaahhnigaa

namespace Go.Proofs.Ytkdflgaahhnigaa
open Go.RowKit Go.Shelf

set_option maxRecDepth 100000 in
set_option maxHeartbeats 2000000 in
theorem rows40 (B1 B2 : Nat) (v1 v2 : Value) (tab : List (List Nat)) (w : World) (h1 : TabK w B1 v1 tab) (h2 : TabK w B2 v2 tab) (hr : ∀ r, r ∈ tab → r.length ≤ 1000) (hl : tab.length ≤ 1000) : Calls Try.prog 10 #[v1, v2] w fun e w' => e = .returned (.bool true) ∧ Below w.heap.size w w' := by
  obtain ⟨q1, c1, rfl, f1⟩ := h1.elem
  obtain ⟨q2, c2, rfl, f2⟩ := h2.elem
  have F1 := Lib.hid f1
  have F2 := Lib.hid f2
  have HR := Lib.hid hr
  generalize hT : tab.length = T at *
  have HT := Lib.hid hT
  clear h1 h2 f1 f2 hr hT
  go_enter Try.func10, Try.ntmps10
  go_wp2_with fail
  go_loopw [5] (fun y wr => ∃ i : Nat, i ≤ T ∧ y = .int .i64 (i : Int) ∧ Hid (KS w [] wr)) (fun y _ => T - (intOf y).toNat)
  case atStart => exact ⟨0, Nat.zero_le _, rfl, KS.start w⟩
  case round =>
    obtain ⟨i, hi, rfl, H⟩ := hrel
    by_cases hit : i < T
    · obtain ⟨r, hri⟩ : ∃ r, tab[i]? = some r := ⟨_, List.getElem?_eq_getElem (by rw [HT.out]; exact hit)⟩
      obtain ⟨t1, a1, g1, d1, rfl, k1⟩ := F1.out i r hri
      obtain ⟨t2, a2, g2, d2, rfl, k2⟩ := F2.out i r hri
      have hrl := HR.out r (List.mem_of_getElem? hri)
      have K1 := Lib.hid k1
      have K2 := Lib.hid k2
      have C31 := Lib.hid (fun W (hW : Below w.heap.size w W) => ints_any a1 g1 0 d1 r.length _ a2 g2 0 d2 r.length _ W (k1 W hW).2 (k2 W hW).2 hrl hrl)
      rw [decide_eq_true rfl] at C31
      have pi0 : (0 : Int) ≤ (i : Int) := by omega
      have pi1 : (i : Int) < (T : Int) := by omega
      clear hri k1 k2
      go_wp2_with fail
      obtain ⟨BS, hBS⟩ : ∃ BS : List (Nat × Array Value × TypeId), BS = [] := ⟨_, rfl⟩
      have hS : KS w BS wr.drew := by rw [hBS]; exact H.out.drew
      have L0 : ∀ W, KS w BS W → W.cell? ⟨t1, i, none⟩ = some (.slice a1 r.length d1) := fun W h => (K1.out W h.bel).1
      have L1 : ∀ W, KS w BS W → W.cell? ⟨t2, i, none⟩ = some (.slice a2 r.length d2) := fun W h => (K2.out W h.bel).1
      have HBS := Lib.hid hBS
      clear hBS
      refine wp_region_held_drew (S := KS w BS) (by kernel_rfl) hS (fun hHeld => ?_)
      clear hS
      refine wpAnyH_take (i := 0) (v := ?_) rfl (by kernel_rfl) (by kernel_rfl) (by kernel_rfl) (fun _ _ _ h => h) (Or.inl ⟨by rfl, ?h0⟩) hHeld ?_
      case h0 =>
        intro w' hSw
        (try dsimp only at hSw)
        go_simp
        (try with_reducible rfl)
      (try simp only [Act.put]); (try simp only [List.setIfInBounds_toArray]); (try simp only [List.set_cons_succ]); (try simp only [List.set_cons_zero])
      refine wpAnyH_take (i := 1) (v := ?_) rfl (by kernel_rfl) (by kernel_rfl) (by kernel_rfl) (fun _ _ _ h => h) (Or.inl ⟨by rfl, ?h1⟩) hHeld ?_
      case h1 =>
        intro w' hSw
        (try dsimp only at hSw)
        go_simp
        (try with_reducible rfl)
      (try simp only [Act.put]); (try simp only [List.setIfInBounds_toArray]); (try simp only [List.set_cons_succ]); (try simp only [List.set_cons_zero])
      refine wpAnyH_take (i := 2) (v := ?_) rfl (by kernel_rfl) (by kernel_rfl) (by kernel_rfl) (fun _ _ _ h => h) (Or.inl ⟨by rfl, ?h2⟩) hHeld ?_
      case h2 =>
        intro w' hSw
        (try dsimp only at hSw)
        go_simp
        (try with_reducible rfl)
      (try simp only [Act.put]); (try simp only [List.setIfInBounds_toArray]); (try simp only [List.set_cons_succ]); (try simp only [List.set_cons_zero])
      refine wpAnyH_take (i := 3) (v := ?_) rfl (by kernel_rfl) (by kernel_rfl) (by kernel_rfl) (fun _ _ _ h => h) (Or.inl ⟨by rfl, ?h3⟩) hHeld ?_
      case h3 =>
        intro w' hSw
        (try dsimp only at hSw)
        go_simp
        (try with_reducible rfl)
      (try simp only [Act.put]); (try simp only [List.setIfInBounds_toArray]); (try simp only [List.set_cons_succ]); (try simp only [List.set_cons_zero])
      refine wpAnyH_take (i := 4) (v := ?_) rfl (by kernel_rfl) (by kernel_rfl) (by kernel_rfl) (fun _ _ _ h => h) (Or.inl ⟨by rfl, ?h4⟩) hHeld ?_
      case h4 =>
        intro w' hSw
        (try dsimp only at hSw)
        go_simp
        (try with_reducible rfl)
      (try simp only [Act.put]); (try simp only [List.setIfInBounds_toArray]); (try simp only [List.set_cons_succ]); (try simp only [List.set_cons_zero])
      refine wpAnyH_take (i := 5) (v := ?_) rfl (by kernel_rfl) (by kernel_rfl) (by kernel_rfl) (fun _ _ _ h => h) (Or.inl ⟨by rfl, ?h5⟩) hHeld ?_
      case h5 =>
        intro w' hSw
        (try dsimp only at hSw)
        go_simp
        (try with_reducible rfl)
      (try simp only [Act.put]); (try simp only [List.setIfInBounds_toArray]); (try simp only [List.set_cons_succ]); (try simp only [List.set_cons_zero])
      refine wpAnyH_take (i := 6) (v := ?_) rfl (by kernel_rfl) (by kernel_rfl) (by kernel_rfl) (fun _ _ _ h => h) (Or.inl ⟨by rfl, ?h6⟩) hHeld ?_
      case h6 =>
        intro w' hSw
        (try dsimp only at hSw)
        go_simp
        (try with_reducible rfl)
      (try simp only [Act.put]); (try simp only [List.setIfInBounds_toArray]); (try simp only [List.set_cons_succ]); (try simp only [List.set_cons_zero])
      refine wpAnyH_take (i := 7) (v := ?_) rfl (by kernel_rfl) (by kernel_rfl) (by kernel_rfl) (fun _ _ _ h => h) (Or.inl ⟨by rfl, ?h7⟩) hHeld ?_
      case h7 =>
        intro w' hSw
        (try dsimp only at hSw)
        go_simp
        (try with_reducible rfl)
      (try simp only [Act.put]); (try simp only [List.setIfInBounds_toArray]); (try simp only [List.set_cons_succ]); (try simp only [List.set_cons_zero])
      refine wpAnyH_ready (rs := [8]) (by kernel_rfl) (by simp) ?_
      refine AllReadyH.cons rfl (fun K hK => ?_) (AllReadyH.nil)
      go_simp
      (refine (C31.out _ hHeld.bel).mono ?_)
      rintro e w3 ⟨rfl, hb⟩
      have hS2 := hHeld.below hb
      clear hb
      refine hK.out _ _ hS2 (fun hHeld => ?_)
      clear hK K hS2
      (try simp only [Act.put]); (try simp only [List.setIfInBounds_toArray]); (try simp only [List.set_cons_succ]); (try simp only [List.set_cons_zero])
      refine wpAnyH_ready (rs := [9]) (by kernel_rfl) (by simp) ?_
      refine AllReadyH.cons rfl (fun K hK => ?_) (AllReadyH.nil)
      go_simp
      refine hK.out _ _ hHeld (fun hHeld => ?_)
      clear hK K
      (try simp only [Act.put]); (try simp only [List.setIfInBounds_toArray]); (try simp only [List.set_cons_succ]); (try simp only [List.set_cons_zero])
      refine wpAnyH_done (by kernel_rfl) ?_ _
      have hs7 := hHeld
      rw [HBS.out] at hs7
      have S7 := Lib.hid hs7
      clear hHeld hs7 L0 L1 HBS
      go_wp2_with fail
      go_roundw
      case rel => exact ⟨i + 1, by omega, by go_num, S7.out⟩
      case measure => simp [intOf]; omega
    · have pi1 : ¬ (i : Int) < (T : Int) := by omega
      go_wp2_with fail
      go_ret
      exact ⟨rfl, H.out.bel⟩
end Go.Proofs.Ytkdflgaahhnigaa
