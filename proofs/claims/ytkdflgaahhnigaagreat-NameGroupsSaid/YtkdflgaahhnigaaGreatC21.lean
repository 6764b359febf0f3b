/- The reference's Total; rows40: whether two lists of lists are equal. rows40 at two equal lists of lists. -/
import Derived.Test.YtkdflgaahhnigaaGreatC17
import Derived.Test.YtkdflgaahhnigaaGreatC15
import Derived.Test.YtkdflgaahhnigaaGreatC16
import Derived.Test.YtkdflgaahhnigaaGreatC11
set_option linter.unusedVariables false
set_option linter.unusedSimpArgs false
namespace Go.Proofs.YtkdflgaahhnigaaGreat
open Go.RowKit Go.Shelf

set_option maxRecDepth 100000 in
set_option maxHeartbeats 4000000 in
theorem Total34 (a : Option Addr) (g o c n : Nat) (R : RB) (w : World) (hN : R.cls.length = n) (hk : SK w a g o R.cls) (hg : Good R) (ht : Thn R) (an : Option Addr) (gn on cn m : Nat) (ys : List ByteArray) (hkn : SKn w an gn on cn m ys) (hm : m ≤ 12) (hn : NmsOk ys) (s : ByteArray) (hs : s.size ≤ 12) : Calls Tryz.prog 34 #[rulesV a n c R.soft R.al R.ot R.sk R.ss R.db, .slice an m cn, .string s] w fun e w' => e = .returned (.int .i64 (toX R s ys : Nat)) ∧ Below w.heap.size w w' := by
  have HKN := Lib.hid hkn
  have HMM := Lib.hid hkn.1
  have HNM := Lib.hid hn
  have HPL := Lib.hid (psum_le hg hs hn)
  have HCL := Lib.hid (fun (y : ByteArray) (hy : y.size ≤ 12) => cR_le hg hs hy 0 0)
  have C24 := Lib.hid (fun W (y : ByteArray) (hy : y.size ≤ 12) (hW : Below w.heap.size w W) => rCost24 a g o c n R W hN (hk.below hW) hg ht y s hy hs)
  generalize hV : toX R s ys = V
  have HV := Lib.hid hV
  have s0 := (KS.start w).new (rulesC a n c R.soft R.al R.ot R.sk R.ss R.db) 24
  have S0 := Lib.hid s0
  obtain ⟨kb0_0, kb0_1, kb0_2, kb0_3, kb0_4, kb0_5, kb0_6⟩ := (s0.blkAt 0 rfl).c7
  clear s0 hk hN hg ht hV hkn hn
  go_enter Tryz.func34, Tryz.ntmps34
  go_wp2_with fail
  clear kb0_0 kb0_1 kb0_2 kb0_3 kb0_4 kb0_5 kb0_6
  go_loopw [7, 8] (fun y7 y8 wr => ∃ j : Nat, j ≤ m ∧ y8 = .int .i64 (j : Int) ∧ y7 = .int .i64 (psum R s ys j : Nat) ∧ Hid (KS w [(w.heap.size, rulesC a n c R.soft R.al R.ot R.sk R.ss R.db, 24)] wr)) (fun _ y8 _ => m - (intOf y8).toNat)
  case atStart => exact ⟨0, Nat.zero_le _, rfl, rfl, S0.out⟩
  case round =>
    clear S0
    obtain ⟨j, hj, rfl, rfl, H⟩ := hrel
    have hpl := HPL.out j
    by_cases hjm : j < m
    · have hne : ys ≠ [] := by rintro rfl; have := HMM.out; simp at this; omega
      have e1 := HKN.out.2.1.1 hne
      subst e1
      obtain ⟨y, hy⟩ : ∃ y, ys[j]? = some y := ⟨ys[j]'(by rw [HMM.out]; exact hjm), by simp⟩
      have hym := List.mem_of_getElem? hy
      have HY := Lib.hid hy
      have hy12 := (HNM.out y hym).1
      have CC := Lib.hid (fun W (hW : Below w.heap.size w W) => C24.out W y hy12 hW)
      rw [cR_comm R y s] at CC
      have hcl := HCL.out y hy12
      have HPS := Lib.hid (psum_succ (R := R) (x := s) hy)
      have pj0 : (0 : Int) ≤ (j : Int) := by omega
      have pj1 : (j : Int) < (m : Int) := by omega
      generalize psum R s ys j = ps at *
      generalize cR R s y 0 0 = cv at *
      obtain ⟨p2, hp2⟩ : ∃ p, p = ps + cv := ⟨_, rfl⟩
      have HP2 := Lib.hid hp2
      have ea : (ps : Int) + (cv : Int) = (p2 : Int) := by omega
      have eb : IntKind.i64.wrap (p2 : Int) = (p2 : Int) := IntWalk.i64_in _ (by omega)
      clear hne hy hym hy12 hp2
      go_wp2_with fail
      obtain ⟨BS, hBS⟩ : ∃ BS : List (Nat × Array Value × TypeId), BS = [(w.heap.size, rulesC a n c R.soft R.al R.ot R.sk R.ss R.db, 24)] := ⟨_, rfl⟩
      have hS : KS w BS wr.drew := by rw [hBS]; exact H.out.drew
      have K0 : ∀ W, KS w BS W → W.cell? ⟨w.heap.size, 0, none⟩ = some (.slice a n c) := fun W h => by rw [hBS] at h; exact (h.blkAt 0 rfl).cell 0
      have K1 : ∀ W, KS w BS W → W.cell? ⟨w.heap.size, 1, none⟩ = some (.string R.soft) := fun W h => by rw [hBS] at h; exact (h.blkAt 0 rfl).cell 1
      have K2 : ∀ W, KS w BS W → W.cell? ⟨w.heap.size, 2, none⟩ = some (.int .i64 R.al) := fun W h => by rw [hBS] at h; exact (h.blkAt 0 rfl).cell 2
      have K3 : ∀ W, KS w BS W → W.cell? ⟨w.heap.size, 3, none⟩ = some (.int .i64 R.ot) := fun W h => by rw [hBS] at h; exact (h.blkAt 0 rfl).cell 3
      have K4 : ∀ W, KS w BS W → W.cell? ⟨w.heap.size, 4, none⟩ = some (.int .i64 R.sk) := fun W h => by rw [hBS] at h; exact (h.blkAt 0 rfl).cell 4
      have K5 : ∀ W, KS w BS W → W.cell? ⟨w.heap.size, 5, none⟩ = some (.int .i64 R.ss) := fun W h => by rw [hBS] at h; exact (h.blkAt 0 rfl).cell 5
      have K6 : ∀ W, KS w BS W → W.cell? ⟨w.heap.size, 6, none⟩ = some (.int .i64 R.db) := fun W h => by rw [hBS] at h; exact (h.blkAt 0 rfl).cell 6
      have HBS := Lib.hid hBS
      clear hBS
      have L0 : ∀ W, KS w BS W → W.cell? ⟨gn, on + j, none⟩ = some (.string y) := fun W h => (HKN.out.below h.bel).2.1.2.1 j y HY.out
      refine wp_region_held_drew (S := KS w BS) (by kernel_rfl) hS (fun hHeld => ?_)
      clear hS
      refine wpAnyH_take (i := 0) (v := ?_) rfl (by kernel_rfl) (by kernel_rfl) (by kernel_rfl) (fun _ _ _ h => h) (Or.inl ⟨by rfl, ?h0⟩) hHeld ?_
      case h0 =>
        intro w' hSw
        (try dsimp only at hSw)
        go_simp
        (try with_reducible rfl)
      (try simp only [Act.put]); (try simp only [List.setIfInBounds_toArray]); (try simp only [List.set_cons_succ]); (try simp only [List.set_cons_zero])
      refine wpAnyH_take (i := 1) (v := ?_) rfl (by kernel_rfl) (by kernel_rfl) (by kernel_rfl) (fun _ _ _ h => h) (Or.inl ⟨by rfl, ?h1⟩) hHeld ?_
      case h1 =>
        intro w' hSw
        (try dsimp only at hSw)
        go_simp
        (try with_reducible rfl)
      (try simp only [Act.put]); (try simp only [List.setIfInBounds_toArray]); (try simp only [List.set_cons_succ]); (try simp only [List.set_cons_zero])
      refine wpAnyH_take (i := 2) (v := ?_) rfl (by kernel_rfl) (by kernel_rfl) (by kernel_rfl) (fun _ _ _ h => h) (Or.inl ⟨by rfl, ?h2⟩) hHeld ?_
      case h2 =>
        intro w' hSw
        (try dsimp only at hSw)
        go_simp
        (try with_reducible rfl)
      (try simp only [Act.put]); (try simp only [List.setIfInBounds_toArray]); (try simp only [List.set_cons_succ]); (try simp only [List.set_cons_zero])
      refine wpAnyH_take (i := 3) (v := ?_) rfl (by kernel_rfl) (by kernel_rfl) (by kernel_rfl) (fun _ _ _ h => h) (Or.inl ⟨by rfl, ?h3⟩) hHeld ?_
      case h3 =>
        intro w' hSw
        (try dsimp only at hSw)
        go_simp
        (try with_reducible rfl)
      (try simp only [Act.put]); (try simp only [List.setIfInBounds_toArray]); (try simp only [List.set_cons_succ]); (try simp only [List.set_cons_zero])
      refine wpAnyH_take (i := 4) (v := ?_) rfl (by kernel_rfl) (by kernel_rfl) (by kernel_rfl) (fun _ _ _ h => h) (Or.inl ⟨by rfl, ?h4⟩) hHeld ?_
      case h4 =>
        intro w' hSw
        (try dsimp only at hSw)
        go_simp
        (try with_reducible rfl)
      (try simp only [Act.put]); (try simp only [List.setIfInBounds_toArray]); (try simp only [List.set_cons_succ]); (try simp only [List.set_cons_zero])
      refine wpAnyH_take (i := 5) (v := ?_) rfl (by kernel_rfl) (by kernel_rfl) (by kernel_rfl) (fun _ _ _ h => h) (Or.inl ⟨by rfl, ?h5⟩) hHeld ?_
      case h5 =>
        intro w' hSw
        (try dsimp only at hSw)
        go_simp
        (try with_reducible rfl)
      (try simp only [Act.put]); (try simp only [List.setIfInBounds_toArray]); (try simp only [List.set_cons_succ]); (try simp only [List.set_cons_zero])
      refine wpAnyH_take (i := 6) (v := ?_) rfl (by kernel_rfl) (by kernel_rfl) (by kernel_rfl) (fun _ _ _ h => h) (Or.inl ⟨by rfl, ?h6⟩) hHeld ?_
      case h6 =>
        intro w' hSw
        (try dsimp only at hSw)
        go_simp
        (try with_reducible rfl)
      (try simp only [Act.put]); (try simp only [List.setIfInBounds_toArray]); (try simp only [List.set_cons_succ]); (try simp only [List.set_cons_zero])
      refine wpAnyH_ready (rs := [7]) (by kernel_rfl) (by simp) ?_
      refine AllReadyH.cons rfl (fun K hK => ?_) (AllReadyH.nil)
      go_simp
      (refine (CC.out _ hHeld.bel).mono ?_)
      rintro e w3 ⟨rfl, hb⟩
      have hS2 := hHeld.below hb
      clear hb
      refine hK.out _ _ hS2 (fun hHeld => ?_)
      clear hK K hS2
      (try simp only [Act.put]); (try simp only [List.setIfInBounds_toArray]); (try simp only [List.set_cons_succ]); (try simp only [List.set_cons_zero])
      refine wpAnyH_take (i := 8) (v := ?_) rfl (by kernel_rfl) (by kernel_rfl) (by kernel_rfl) (fun _ _ _ h => h) (Or.inl ⟨by rfl, ?h8⟩) hHeld ?_
      case h8 =>
        intro w' hSw
        (try dsimp only at hSw)
        go_simp
        (try with_reducible rfl)
      (try simp only [Act.put]); (try simp only [List.setIfInBounds_toArray]); (try simp only [List.set_cons_succ]); (try simp only [List.set_cons_zero])
      refine wpAnyH_ready (rs := [9]) (by kernel_rfl) (by simp) ?_
      refine AllReadyH.cons rfl (fun K hK => ?_) (AllReadyH.nil)
      go_simp
      refine hK.out _ _ hHeld (fun hHeld => ?_)
      clear hK K
      (try simp only [Act.put]); (try simp only [List.setIfInBounds_toArray]); (try simp only [List.set_cons_succ]); (try simp only [List.set_cons_zero])
      refine wpAnyH_done (by kernel_rfl) ?_ _
      have hs7 := hHeld
      rw [HBS.out] at hs7
      have S7 := Lib.hid hs7
      clear hHeld hs7 K0 K1 K2 K3 K4 K5 K6 L0 HBS
      go_wp2_with fail
      go_roundw
      case rel => exact ⟨j + 1, by omega, by go_num, by rw [HPS.out, ← HP2.out], S7.out⟩
      case measure => simp [intOf]; omega
    · have hjm2 : j = m := by omega
      have hv : V = psum R s ys j := by rw [← HV.out]; exact (psum_all (by rw [HMM.out]; omega)).symm
      subst hv
      have pj1 : ¬ (j : Int) < (m : Int) := by omega
      clear hjm2
      go_wp2_with fail
      go_ret
      exact ⟨rfl, H.out.bel⟩
theorem TabK.elem {w : World} {B : Nat} {tv : Value} {tab : List (List Nat)} (h : TabK w B tv tab) : ∃ q tc, tv = .slice q tab.length tc ∧ ∀ i r, tab[i]? = some r → ∃ tg ua ug uc, q = some ⟨tg, 0, none⟩ ∧ (∀ W, Below w.heap.size w W → W.cell? ⟨tg, i, none⟩ = some (.slice ua r.length uc) ∧ IK W ua ug 0 r.length (r.map fun (k : Nat) => (k : Int))) := by
  obtain ⟨vs, h1, h2⟩ := h
  rcases Joins.ownsRow_forms h1 with ⟨rfl, e0⟩ | ⟨tg, tc, rfl⟩
  · refine ⟨none, 0, by rw [e0], fun i r hr => ?_⟩
    have := (List.getElem?_eq_some_iff.1 hr).1; omega
  · refine ⟨_, tc, rfl, fun i r hr => ?_⟩
    obtain ⟨u, k1, k2, _⟩ := h2 i _ hr
    unfold natsOwn at k2
    have hi := (List.getElem?_eq_some_iff.1 hr).1
    rcases Joins.ownsRow_forms k2 with ⟨rfl, e1⟩ | ⟨ug, uc, rfl⟩
    · have hr0 : r = [] := List.eq_nil_of_length_eq_zero e1
      subst hr0
      refine ⟨tg, none, 0, 0, rfl, fun W hW => ⟨?_, rfl, fun h => absurd rfl h, fun i x e => by simp at e, fun h => absurd rfl h⟩⟩
      rw [hW.cell (p := ⟨tg, i, none⟩) (h1.lt tg rfl).2, h1.cellAt i (by omega), k1]; rfl
    · refine ⟨tg, some ⟨ug, 0, none⟩, ug, uc, rfl, fun W hW => ⟨?_, ik_of_row (row_below k2 hW)⟩⟩
      rw [hW.cell (p := ⟨tg, i, none⟩) (h1.lt tg rfl).2, h1.cellAt i (by omega), k1]
end Go.Proofs.YtkdflgaahhnigaaGreat

namespace Go.Proofs.YtkdflgaahhnigaaGreat
open Go.RowKit Go.Shelf

set_option maxRecDepth 100000 in
set_option maxHeartbeats 2000000 in
theorem rows40 (B1 B2 : Nat) (v1 v2 : Value) (tab : List (List Nat)) (w : World) (h1 : TabK w B1 v1 tab) (h2 : TabK w B2 v2 tab) (hr : ∀ r, r ∈ tab → r.length ≤ 1000) (hl : tab.length ≤ 1000) : Calls Tryz.prog 40 #[v1, v2] w fun e w' => e = .returned (.bool true) ∧ Below w.heap.size w w' := by
  obtain ⟨q1, c1, rfl, f1⟩ := h1.elem
  obtain ⟨q2, c2, rfl, f2⟩ := h2.elem
  have F1 := Lib.hid f1
  have F2 := Lib.hid f2
  have HR := Lib.hid hr
  generalize hT : tab.length = T at *
  have HT := Lib.hid hT
  clear h1 h2 f1 f2 hr hT
  go_enter Tryz.func40, Tryz.ntmps40
  go_wp2_with fail
  go_loopw [5] (fun y wr => ∃ i : Nat, i ≤ T ∧ y = .int .i64 (i : Int) ∧ Hid (KS w [] wr)) (fun y _ => T - (intOf y).toNat)
  case atStart => exact ⟨0, Nat.zero_le _, rfl, KS.start w⟩
  case round =>
    obtain ⟨i, hi, rfl, H⟩ := hrel
    by_cases hit : i < T
    · obtain ⟨r, hri⟩ : ∃ r, tab[i]? = some r := ⟨_, List.getElem?_eq_getElem (by rw [HT.out]; exact hit)⟩
      obtain ⟨t1, a1, g1, d1, rfl, k1⟩ := F1.out i r hri
      obtain ⟨t2, a2, g2, d2, rfl, k2⟩ := F2.out i r hri
      have hrl := HR.out r (List.mem_of_getElem? hri)
      have K1 := Lib.hid k1
      have K2 := Lib.hid k2
      have C31 := Lib.hid (fun W (hW : Below w.heap.size w W) => ints_any a1 g1 0 d1 r.length _ a2 g2 0 d2 r.length _ W (k1 W hW).2 (k2 W hW).2 hrl hrl)
      rw [decide_eq_true rfl] at C31
      have pi0 : (0 : Int) ≤ (i : Int) := by omega
      have pi1 : (i : Int) < (T : Int) := by omega
      clear hri k1 k2
      go_wp2_with fail
      obtain ⟨BS, hBS⟩ : ∃ BS : List (Nat × Array Value × TypeId), BS = [] := ⟨_, rfl⟩
      have hS : KS w BS wr.drew := by rw [hBS]; exact H.out.drew
      have L0 : ∀ W, KS w BS W → W.cell? ⟨t1, i, none⟩ = some (.slice a1 r.length d1) := fun W h => (K1.out W h.bel).1
      have L1 : ∀ W, KS w BS W → W.cell? ⟨t2, i, none⟩ = some (.slice a2 r.length d2) := fun W h => (K2.out W h.bel).1
      have HBS := Lib.hid hBS
      clear hBS
      refine wp_region_held_drew (S := KS w BS) (by kernel_rfl) hS (fun hHeld => ?_)
      clear hS
      refine wpAnyH_take (i := 0) (v := ?_) rfl (by kernel_rfl) (by kernel_rfl) (by kernel_rfl) (fun _ _ _ h => h) (Or.inl ⟨by rfl, ?h0⟩) hHeld ?_
      case h0 =>
        intro w' hSw
        (try dsimp only at hSw)
        go_simp
        (try with_reducible rfl)
      (try simp only [Act.put]); (try simp only [List.setIfInBounds_toArray]); (try simp only [List.set_cons_succ]); (try simp only [List.set_cons_zero])
      refine wpAnyH_take (i := 1) (v := ?_) rfl (by kernel_rfl) (by kernel_rfl) (by kernel_rfl) (fun _ _ _ h => h) (Or.inl ⟨by rfl, ?h1⟩) hHeld ?_
      case h1 =>
        intro w' hSw
        (try dsimp only at hSw)
        go_simp
        (try with_reducible rfl)
      (try simp only [Act.put]); (try simp only [List.setIfInBounds_toArray]); (try simp only [List.set_cons_succ]); (try simp only [List.set_cons_zero])
      refine wpAnyH_take (i := 2) (v := ?_) rfl (by kernel_rfl) (by kernel_rfl) (by kernel_rfl) (fun _ _ _ h => h) (Or.inl ⟨by rfl, ?h2⟩) hHeld ?_
      case h2 =>
        intro w' hSw
        (try dsimp only at hSw)
        go_simp
        (try with_reducible rfl)
      (try simp only [Act.put]); (try simp only [List.setIfInBounds_toArray]); (try simp only [List.set_cons_succ]); (try simp only [List.set_cons_zero])
      refine wpAnyH_take (i := 3) (v := ?_) rfl (by kernel_rfl) (by kernel_rfl) (by kernel_rfl) (fun _ _ _ h => h) (Or.inl ⟨by rfl, ?h3⟩) hHeld ?_
      case h3 =>
        intro w' hSw
        (try dsimp only at hSw)
        go_simp
        (try with_reducible rfl)
      (try simp only [Act.put]); (try simp only [List.setIfInBounds_toArray]); (try simp only [List.set_cons_succ]); (try simp only [List.set_cons_zero])
      refine wpAnyH_take (i := 4) (v := ?_) rfl (by kernel_rfl) (by kernel_rfl) (by kernel_rfl) (fun _ _ _ h => h) (Or.inl ⟨by rfl, ?h4⟩) hHeld ?_
      case h4 =>
        intro w' hSw
        (try dsimp only at hSw)
        go_simp
        (try with_reducible rfl)
      (try simp only [Act.put]); (try simp only [List.setIfInBounds_toArray]); (try simp only [List.set_cons_succ]); (try simp only [List.set_cons_zero])
      refine wpAnyH_take (i := 5) (v := ?_) rfl (by kernel_rfl) (by kernel_rfl) (by kernel_rfl) (fun _ _ _ h => h) (Or.inl ⟨by rfl, ?h5⟩) hHeld ?_
      case h5 =>
        intro w' hSw
        (try dsimp only at hSw)
        go_simp
        (try with_reducible rfl)
      (try simp only [Act.put]); (try simp only [List.setIfInBounds_toArray]); (try simp only [List.set_cons_succ]); (try simp only [List.set_cons_zero])
      refine wpAnyH_take (i := 6) (v := ?_) rfl (by kernel_rfl) (by kernel_rfl) (by kernel_rfl) (fun _ _ _ h => h) (Or.inl ⟨by rfl, ?h6⟩) hHeld ?_
      case h6 =>
        intro w' hSw
        (try dsimp only at hSw)
        go_simp
        (try with_reducible rfl)
      (try simp only [Act.put]); (try simp only [List.setIfInBounds_toArray]); (try simp only [List.set_cons_succ]); (try simp only [List.set_cons_zero])
      refine wpAnyH_take (i := 7) (v := ?_) rfl (by kernel_rfl) (by kernel_rfl) (by kernel_rfl) (fun _ _ _ h => h) (Or.inl ⟨by rfl, ?h7⟩) hHeld ?_
      case h7 =>
        intro w' hSw
        (try dsimp only at hSw)
        go_simp
        (try with_reducible rfl)
      (try simp only [Act.put]); (try simp only [List.setIfInBounds_toArray]); (try simp only [List.set_cons_succ]); (try simp only [List.set_cons_zero])
      refine wpAnyH_ready (rs := [8]) (by kernel_rfl) (by simp) ?_
      refine AllReadyH.cons rfl (fun K hK => ?_) (AllReadyH.nil)
      go_simp
      (refine (C31.out _ hHeld.bel).mono ?_)
      rintro e w3 ⟨rfl, hb⟩
      have hS2 := hHeld.below hb
      clear hb
      refine hK.out _ _ hS2 (fun hHeld => ?_)
      clear hK K hS2
      (try simp only [Act.put]); (try simp only [List.setIfInBounds_toArray]); (try simp only [List.set_cons_succ]); (try simp only [List.set_cons_zero])
      refine wpAnyH_ready (rs := [9]) (by kernel_rfl) (by simp) ?_
      refine AllReadyH.cons rfl (fun K hK => ?_) (AllReadyH.nil)
      go_simp
      refine hK.out _ _ hHeld (fun hHeld => ?_)
      clear hK K
      (try simp only [Act.put]); (try simp only [List.setIfInBounds_toArray]); (try simp only [List.set_cons_succ]); (try simp only [List.set_cons_zero])
      refine wpAnyH_done (by kernel_rfl) ?_ _
      have hs7 := hHeld
      rw [HBS.out] at hs7
      have S7 := Lib.hid hs7
      clear hHeld hs7 L0 L1 HBS
      go_wp2_with fail
      go_roundw
      case rel => exact ⟨i + 1, by omega, by go_num, S7.out⟩
      case measure => simp [intOf]; omega
    · have pi1 : ¬ (i : Int) < (T : Int) := by omega
      go_wp2_with fail
      go_ret
      exact ⟨rfl, H.out.bel⟩
end Go.Proofs.YtkdflgaahhnigaaGreat
