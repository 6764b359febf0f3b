/- The laws' error of a list. Rows of numbers that are kept beside others; lists in order of cost. -/
import Derived.Test.YtkdflgaahhnigaaGreatC15
import Derived.Test.YtkdflgaahhnigaaGreatC17
set_option linter.unusedVariables false
set_option linter.unusedSimpArgs false
namespace Go.Proofs.YtkdflgaahhnigaaGreat
open Go.RowKit Go.Shelf

theorem step_append_none {P : Program} {w : World} {ops : Array Oper} {o : Oper} {a : Act} {K : Act → World → Prop} {Q : Exit → Act → World → Prop} {E : Prop} (hgd : o.guard = none) (s x : Operand) (t : TypeId)
    (ho : o.op = .call { callee := .builtin .append, args := #[s, x], argTypes := #[t, t] })
    (base : Nat) (e : TypeId) (i : TypeInfo) (size : Nat) (ht : P.underlying t = some (.slice e)) (hi : P.info? e = some i)
    (v : Value) (n : Nat) (xs : List Value) (hs : a.eval s = v) (hown : w.ownsRow base e size v n xs) (hx : a.eval x = .slice none 0 0)
    (h : K (a.put o.dst v) w) : if Region.wanted o (yielded ops a.tmps) = true then Oper.wp P o a w K Q else E := by
  have hw : Region.wanted o (yielded ops a.tmps) = true := by simp [Region.wanted, hgd]
  rw [if_pos hw]
  have hrun := run_append_owned_none (P := P) (w := w) base t o.type e i size ht hi v n xs hown
  unfold Oper.wp
  simp [execOp, ho, resolve, invoke, builtin, hs, hx, hrun, Result.andThen]
  exact h
theorem news_one {W : World} {nb : Nat} {x : Value} (h : W.cell? ⟨nb, 0, none⟩ = some x) : ∀ (j : Nat) (u : Value), ([x] : List Value)[j]? = some u → W.cell? ((⟨nb, 0, none⟩ : Addr).add j) = some u := fun j u hj => by
  have hj0 : j = 0 := by have := (List.getElem?_eq_some_iff.1 hj).1; simpa using this
  subst hj0
  simp at hj
  subst hj
  simpa [Addr.add] using h
set_option maxRecDepth 100000 in
set_option maxHeartbeats 2000000 in
theorem listed29_nil (a : Option Addr) (g o c n : Nat) (R : RB) (w : World) (hN : R.cls.length = n) (hk : SK w a g o R.cls) (ht : Thn R) (an : Option Addr) (gn on cn m : Nat) (ys : List ByteArray) (hkn : SKn w an gn on cn m ys) (hm : m ≤ 900)  (hl : ∀ x, x ∈ ys ++ [] → x.size ≤ 1000) : Calls Tryz.prog 29 #[rulesV a n c R.soft R.al R.ot R.sk R.ss R.db, .slice an m cn, .slice none 0 0] w fun e w' => e = .returned (.int .i64 (lstN R ys [] : Nat)) ∧ Below w.heap.size w w' := by
  unfold lstN
  have hmm := hkn.1
  by_cases h12 : 12 < ys.length
  · rw [if_pos h12]
    have p1 : (12 : Int) < (m : Int) := by omega
    clear hk hkn ht hN hl hmm h12
    go_enter Tryz.func29, Tryz.ntmps29
    go_wp2_with fail
    go_ret
    exact ⟨rfl, (Below.refl _ _).alloc (Nat.le_refl _) _⟩
  · rw [if_neg h12]
    have p1 : ¬ (12 : Int) < (m : Int) := by omega
    have C28 := Lib.hid (fun W (hW : Below w.heap.size w W) => list28 an gn on cn m ys W (hkn.below hW) hm)
    have C22 := Lib.hid (fun W a2 g2 c2 (hW : Below w.heap.size w W) (h2 : SK W a2 g2 0 (ys ++ [])) => fault22 a g o c n R W hN (hk.below hW) ht a2 g2 0 c2 (m) (ys ++ []) (by rw [List.length_append]; simp; omega) h2 (by omega) hl)
    obtain ⟨i0, hi, hz0, hz1, hz2⟩ := info_parts tInfo9
    have HI := Lib.hid (And.intro hi (And.intro hz0 (And.intro hz1 hz2)))
    generalize chkN R (ys ++ []) = V at *
    have s0 := (KS.start w).new (rulesC a n c R.soft R.al R.ot R.sk R.ss R.db) 24
    have S0 := Lib.hid s0
    obtain ⟨kb0_0, kb0_1, kb0_2, kb0_3, kb0_4, kb0_5, kb0_6⟩ := (s0.blkAt 0 rfl).c7
    clear s0 hk hkn ht hN hl hmm h12 hi hz0 hz1 hz2
    (try clear hmb)
    go_enter Tryz.func29, Tryz.ntmps29
    go_wp2_with fail
    obtain ⟨BS, hBS⟩ : ∃ BS : List (Nat × Array Value × TypeId), BS = [(w.heap.size, rulesC a n c R.soft R.al R.ot R.sk R.ss R.db, 24)] := ⟨_, rfl⟩
    have hS : KS w BS (w.alloc (.cells (rulesC a n c R.soft R.al R.ot R.sk R.ss R.db) 24)).drew := by rw [hBS]; exact S0.out.drew
    have K0 : ∀ W, KS w BS W → W.cell? ⟨w.heap.size, 0, none⟩ = some (.slice a n c) := fun W h => by rw [hBS] at h; exact (h.blkAt 0 rfl).cell 0
    have K1 : ∀ W, KS w BS W → W.cell? ⟨w.heap.size, 1, none⟩ = some (.string R.soft) := fun W h => by rw [hBS] at h; exact (h.blkAt 0 rfl).cell 1
    have K2 : ∀ W, KS w BS W → W.cell? ⟨w.heap.size, 2, none⟩ = some (.int .i64 R.al) := fun W h => by rw [hBS] at h; exact (h.blkAt 0 rfl).cell 2
    have K3 : ∀ W, KS w BS W → W.cell? ⟨w.heap.size, 3, none⟩ = some (.int .i64 R.ot) := fun W h => by rw [hBS] at h; exact (h.blkAt 0 rfl).cell 3
    have K4 : ∀ W, KS w BS W → W.cell? ⟨w.heap.size, 4, none⟩ = some (.int .i64 R.sk) := fun W h => by rw [hBS] at h; exact (h.blkAt 0 rfl).cell 4
    have K5 : ∀ W, KS w BS W → W.cell? ⟨w.heap.size, 5, none⟩ = some (.int .i64 R.ss) := fun W h => by rw [hBS] at h; exact (h.blkAt 0 rfl).cell 5
    have K6 : ∀ W, KS w BS W → W.cell? ⟨w.heap.size, 6, none⟩ = some (.int .i64 R.db) := fun W h => by rw [hBS] at h; exact (h.blkAt 0 rfl).cell 6
    have HBS := Lib.hid hBS
    clear hBS
    clear kb0_0 kb0_1 kb0_2 kb0_3 kb0_4 kb0_5 kb0_6
    refine wp_region_held_drew (S := KS w BS) (by kernel_rfl) hS (fun hHeld => ?_)
    clear hS
    refine wpAnyH_take (i := 0) (v := ?_) rfl (by kernel_rfl) (by kernel_rfl) (by kernel_rfl) (fun _ _ _ h => h) (Or.inl ⟨by rfl, ?h0⟩) hHeld ?_
    case h0 =>
      intro w' hSw
      (try dsimp only at hSw)
      go_simp
      (try with_reducible rfl)
    (try simp only [Act.put]); (try simp only [List.setIfInBounds_toArray]); (try simp only [List.set_cons_succ]); (try simp only [List.set_cons_zero])
    refine wpAnyH_take (i := 1) (v := ?_) rfl (by kernel_rfl) (by kernel_rfl) (by kernel_rfl) (fun _ _ _ h => h) (Or.inl ⟨by rfl, ?h1⟩) hHeld ?_
    case h1 =>
      intro w' hSw
      (try dsimp only at hSw)
      go_simp
      (try with_reducible rfl)
    (try simp only [Act.put]); (try simp only [List.setIfInBounds_toArray]); (try simp only [List.set_cons_succ]); (try simp only [List.set_cons_zero])
    refine wpAnyH_take (i := 3) (v := ?_) rfl (by kernel_rfl) (by kernel_rfl) (by kernel_rfl) (fun _ _ _ h => h) (Or.inl ⟨by rfl, ?h3⟩) hHeld ?_
    case h3 =>
      intro w' hSw
      (try dsimp only at hSw)
      go_simp
      (try with_reducible rfl)
    (try simp only [Act.put]); (try simp only [List.setIfInBounds_toArray]); (try simp only [List.set_cons_succ]); (try simp only [List.set_cons_zero])
    refine wpAnyH_ready (rs := [2]) (by kernel_rfl) (by simp) ?_
    refine AllReadyH.cons rfl (fun K hK => ?_) (AllReadyH.nil)
    go_simp
    (refine (C28.out _ hHeld.bel).mono ?_)
    rintro e w21 ⟨v, rfl, hv, hb⟩
    have hbase := hb.size
    have HV1 := Lib.hid hv
    have hS2 := hHeld.below hb
    have hsz := hHeld.size
    clear hv hb
    refine hK.out _ _ hS2 (fun hHeld => ?_)
    clear hK K hS2
    (try simp only [Act.put]); (try simp only [List.setIfInBounds_toArray]); (try simp only [List.set_cons_succ]); (try simp only [List.set_cons_zero])
    refine wpAnyH_ready (rs := [4]) (by kernel_rfl) (by simp) ?_
    refine AllReadyH.cons rfl (fun K hK => ?_) (AllReadyH.nil)
    refine step_append_none rfl _ _ 22 rfl _ 9 i0 1 Tryz.underlying22 HI.out.1 v m _ rfl HV1.out rfl ?_
    obtain ⟨a22, g22, c22, rfl, h22, _⟩ := sk_of_row HV1.out
    have H22 := Lib.hid (show SK _ a22 g22 0 (ys ++ []) from by rw [List.append_nil]; exact h22)
    clear h22
    refine hK.out _ _ hHeld (fun hHeld => ?_)
    clear hK K
    (try simp only [Act.put]); (try simp only [List.setIfInBounds_toArray]); (try simp only [List.set_cons_succ]); (try simp only [List.set_cons_zero])
    refine wpAnyH_ready (rs := [5]) (by kernel_rfl) (by simp) ?_
    refine AllReadyH.cons rfl (fun K hK => ?_) (AllReadyH.nil)
    go_simp
    (refine (C22.out _ a22 g22 c22 hHeld.bel H22.out).mono ?_)
    rintro e w23 ⟨rfl, hb⟩
    have hS2 := hHeld.below hb
    clear hb
    refine hK.out _ _ hS2 (fun hHeld => ?_)
    clear hK K hS2
    (try simp only [Act.put]); (try simp only [List.setIfInBounds_toArray]); (try simp only [List.set_cons_succ]); (try simp only [List.set_cons_zero])
    refine wpAnyH_ready (rs := [6]) (by kernel_rfl) (by simp) ?_
    refine AllReadyH.cons rfl (fun K hK => ?_) (AllReadyH.nil)
    go_simp
    refine hK.out _ _ hHeld (fun hHeld => ?_)
    clear hK K
    (try simp only [Act.put]); (try simp only [List.setIfInBounds_toArray]); (try simp only [List.set_cons_succ]); (try simp only [List.set_cons_zero])
    refine wpAnyH_done (by kernel_rfl) ?_ _
    have HB := Lib.hid hHeld.bel
    clear hHeld
    go_wp2_with fail
    go_ret
    exact ⟨rfl, HB.out⟩
set_option maxRecDepth 100000 in
set_option maxHeartbeats 2000000 in
theorem listed29_one (a : Option Addr) (g o c n : Nat) (R : RB) (w : World) (hN : R.cls.length = n) (hk : SK w a g o R.cls) (ht : Thn R) (an : Option Addr) (gn on cn m : Nat) (ys : List ByteArray) (hkn : SKn w an gn on cn m ys) (hm : m ≤ 900) (mb : Nat) (s : ByteArray) (hmb : Blk w mb #[.string s] 9) (hl : ∀ x, x ∈ ys ++ [s] → x.size ≤ 1000) : Calls Tryz.prog 29 #[rulesV a n c R.soft R.al R.ot R.sk R.ss R.db, .slice an m cn, .slice (some ⟨mb, 0, none⟩) 1 1] w fun e w' => e = .returned (.int .i64 (lstN R ys [s] : Nat)) ∧ Below w.heap.size w w' := by
  unfold lstN
  have hmm := hkn.1
  by_cases h12 : 12 < ys.length
  · rw [if_pos h12]
    have p1 : (12 : Int) < (m : Int) := by omega
    clear hk hkn ht hN hl hmm h12
    go_enter Tryz.func29, Tryz.ntmps29
    go_wp2_with fail
    go_ret
    exact ⟨rfl, (Below.refl _ _).alloc (Nat.le_refl _) _⟩
  · rw [if_neg h12]
    have p1 : ¬ (12 : Int) < (m : Int) := by omega
    have C28 := Lib.hid (fun W (hW : Below w.heap.size w W) => list28 an gn on cn m ys W (hkn.below hW) hm)
    have C22 := Lib.hid (fun W a2 g2 c2 (hW : Below w.heap.size w W) (h2 : SK W a2 g2 0 (ys ++ [s])) => fault22 a g o c n R W hN (hk.below hW) ht a2 g2 0 c2 (m + 1) (ys ++ [s]) (by rw [List.length_append]; simp; omega) h2 (by omega) hl)
    obtain ⟨i0, hi, hz0, hz1, hz2⟩ := info_parts tInfo9
    have HI := Lib.hid (And.intro hi (And.intro hz0 (And.intro hz1 hz2)))
    generalize chkN R (ys ++ [s]) = V at *
    have HMB := Lib.hid hmb
    have hlt0 : w.heap.size < (w.alloc (.cells (rulesC a n c R.soft R.al R.ot R.sk R.ss R.db) 24)).drew.heap.size := by show w.heap.size < (w.alloc (.cells (rulesC a n c R.soft R.al R.ot R.sk R.ss R.db) 24)).heap.size; simp
    have s0 := (KS.start w).new (rulesC a n c R.soft R.al R.ot R.sk R.ss R.db) 24
    have S0 := Lib.hid s0
    obtain ⟨kb0_0, kb0_1, kb0_2, kb0_3, kb0_4, kb0_5, kb0_6⟩ := (s0.blkAt 0 rfl).c7
    clear s0 hk hkn ht hN hl hmm h12 hi hz0 hz1 hz2
    (try clear hmb)
    go_enter Tryz.func29, Tryz.ntmps29
    go_wp2_with fail
    obtain ⟨BS, hBS⟩ : ∃ BS : List (Nat × Array Value × TypeId), BS = [(w.heap.size, rulesC a n c R.soft R.al R.ot R.sk R.ss R.db, 24)] := ⟨_, rfl⟩
    have hS : KS w BS (w.alloc (.cells (rulesC a n c R.soft R.al R.ot R.sk R.ss R.db) 24)).drew := by rw [hBS]; exact S0.out.drew
    have K0 : ∀ W, KS w BS W → W.cell? ⟨w.heap.size, 0, none⟩ = some (.slice a n c) := fun W h => by rw [hBS] at h; exact (h.blkAt 0 rfl).cell 0
    have K1 : ∀ W, KS w BS W → W.cell? ⟨w.heap.size, 1, none⟩ = some (.string R.soft) := fun W h => by rw [hBS] at h; exact (h.blkAt 0 rfl).cell 1
    have K2 : ∀ W, KS w BS W → W.cell? ⟨w.heap.size, 2, none⟩ = some (.int .i64 R.al) := fun W h => by rw [hBS] at h; exact (h.blkAt 0 rfl).cell 2
    have K3 : ∀ W, KS w BS W → W.cell? ⟨w.heap.size, 3, none⟩ = some (.int .i64 R.ot) := fun W h => by rw [hBS] at h; exact (h.blkAt 0 rfl).cell 3
    have K4 : ∀ W, KS w BS W → W.cell? ⟨w.heap.size, 4, none⟩ = some (.int .i64 R.sk) := fun W h => by rw [hBS] at h; exact (h.blkAt 0 rfl).cell 4
    have K5 : ∀ W, KS w BS W → W.cell? ⟨w.heap.size, 5, none⟩ = some (.int .i64 R.ss) := fun W h => by rw [hBS] at h; exact (h.blkAt 0 rfl).cell 5
    have K6 : ∀ W, KS w BS W → W.cell? ⟨w.heap.size, 6, none⟩ = some (.int .i64 R.db) := fun W h => by rw [hBS] at h; exact (h.blkAt 0 rfl).cell 6
    have HBS := Lib.hid hBS
    clear hBS
    clear kb0_0 kb0_1 kb0_2 kb0_3 kb0_4 kb0_5 kb0_6
    refine wp_region_held_drew (S := KS w BS) (by kernel_rfl) hS (fun hHeld => ?_)
    clear hS
    refine wpAnyH_take (i := 0) (v := ?_) rfl (by kernel_rfl) (by kernel_rfl) (by kernel_rfl) (fun _ _ _ h => h) (Or.inl ⟨by rfl, ?h0⟩) hHeld ?_
    case h0 =>
      intro w' hSw
      (try dsimp only at hSw)
      go_simp
      (try with_reducible rfl)
    (try simp only [Act.put]); (try simp only [List.setIfInBounds_toArray]); (try simp only [List.set_cons_succ]); (try simp only [List.set_cons_zero])
    refine wpAnyH_take (i := 1) (v := ?_) rfl (by kernel_rfl) (by kernel_rfl) (by kernel_rfl) (fun _ _ _ h => h) (Or.inl ⟨by rfl, ?h1⟩) hHeld ?_
    case h1 =>
      intro w' hSw
      (try dsimp only at hSw)
      go_simp
      (try with_reducible rfl)
    (try simp only [Act.put]); (try simp only [List.setIfInBounds_toArray]); (try simp only [List.set_cons_succ]); (try simp only [List.set_cons_zero])
    refine wpAnyH_take (i := 3) (v := ?_) rfl (by kernel_rfl) (by kernel_rfl) (by kernel_rfl) (fun _ _ _ h => h) (Or.inl ⟨by rfl, ?h3⟩) hHeld ?_
    case h3 =>
      intro w' hSw
      (try dsimp only at hSw)
      go_simp
      (try with_reducible rfl)
    (try simp only [Act.put]); (try simp only [List.setIfInBounds_toArray]); (try simp only [List.set_cons_succ]); (try simp only [List.set_cons_zero])
    refine wpAnyH_ready (rs := [2]) (by kernel_rfl) (by simp) ?_
    refine AllReadyH.cons rfl (fun K hK => ?_) (AllReadyH.nil)
    go_simp
    (refine (C28.out _ hHeld.bel).mono ?_)
    rintro e w21 ⟨v, rfl, hv, hb⟩
    have hbase := hb.size
    have HV1 := Lib.hid hv
    have hS2 := hHeld.below hb
    have hsz := hHeld.size
    clear hv hb
    refine hK.out _ _ hS2 (fun hHeld => ?_)
    clear hK K hS2
    (try simp only [Act.put]); (try simp only [List.setIfInBounds_toArray]); (try simp only [List.set_cons_succ]); (try simp only [List.set_cons_zero])
    refine wpAnyH_ready (rs := [4]) (by kernel_rfl) (by simp) ?_
    refine AllReadyH.cons rfl (fun K hK => ?_) (AllReadyH.nil)
    have hmc := (hHeld.bel.cell (p := ⟨mb, 0, none⟩) HMB.out.lt).trans (HMB.out.cell 0)
    refine step_append_own rfl _ _ 22 rfl _ 9 i0 _ 1 16 Tryz.underlying22 HI.out.1 HI.out.2.1 HI.out.2.2.1 HI.out.2.2.2 rfl (by decide) v m _ rfl HV1.out ⟨mb, 0, none⟩ 1 1 [.string s] rfl rfl (news_one hmc) (by intro u hu; simp at hu; subst hu; rfl) (by unfold maxLen; omega) (by omega) hbase ?_
    intro v' w22 hown hgr _
    obtain ⟨a22, g22, c22, rfl, h22, _⟩ := sk_of_row (l := ys ++ [s]) (by have h := hown; rw [show strsV ys ++ [.string s] = strsV (ys ++ [s]) by simp [strsV]] at h; exact h)
    have H22 := Lib.hid h22
    have hS3 : KS w BS w22 := by rw [HBS.out]; have h := hHeld; rw [HBS.out] at h; exact KS1_rowg h hgr hlt0 (fun r e => (HV1.out.lt r e).1)
    clear hown hgr h22 hmc
    refine hK.out _ _ hS3 (fun hHeld => ?_)
    clear hK K hS3
    (try simp only [Act.put]); (try simp only [List.setIfInBounds_toArray]); (try simp only [List.set_cons_succ]); (try simp only [List.set_cons_zero])
    refine wpAnyH_ready (rs := [5]) (by kernel_rfl) (by simp) ?_
    refine AllReadyH.cons rfl (fun K hK => ?_) (AllReadyH.nil)
    go_simp
    (refine (C22.out _ a22 g22 c22 hHeld.bel H22.out).mono ?_)
    rintro e w23 ⟨rfl, hb⟩
    have hS2 := hHeld.below hb
    clear hb
    refine hK.out _ _ hS2 (fun hHeld => ?_)
    clear hK K hS2
    (try simp only [Act.put]); (try simp only [List.setIfInBounds_toArray]); (try simp only [List.set_cons_succ]); (try simp only [List.set_cons_zero])
    refine wpAnyH_ready (rs := [6]) (by kernel_rfl) (by simp) ?_
    refine AllReadyH.cons rfl (fun K hK => ?_) (AllReadyH.nil)
    go_simp
    refine hK.out _ _ hHeld (fun hHeld => ?_)
    clear hK K
    (try simp only [Act.put]); (try simp only [List.setIfInBounds_toArray]); (try simp only [List.set_cons_succ]); (try simp only [List.set_cons_zero])
    refine wpAnyH_done (by kernel_rfl) ?_ _
    have HB := Lib.hid hHeld.bel
    clear hHeld
    go_wp2_with fail
    go_ret
    exact ⟨rfl, HB.out⟩
end Go.Proofs.YtkdflgaahhnigaaGreat

namespace Go.Proofs.YtkdflgaahhnigaaGreat
open Go.RowKit Go.Shelf

def XR (W : World) (Bc : Nat) (v : Value) (l : List Nat) : Prop := W.ownsRow 0 3 1 v l.length (natsV l) ∧ ∀ j, v.ownBlock = some j → j < Bc
theorem XR.below {W W' : World} {Bc : Nat} {v : Value} {l : List Nat} (h : XR W Bc v l) (hb : Below W.heap.size W W') : XR W' Bc v l := ⟨row_below h.1 hb, h.2⟩
theorem XR.grown {W W' : World} {Bc : Nat} {v : Value} {l : List Nat} {row : Option Nat} (h : XR W Bc v l) (hg : W.grownBy W' row) (hr : ∀ r, row = some r → Bc ≤ r) : XR W' Bc v l := by
  refine ⟨h.1.kept hg ?_, h.2⟩
  cases e : v.ownBlock with
  | none => exact .inl rfl
  | some j => right; intro e2; have := h.2 j e; have := hr j e2.symm; omega
theorem XR.of {W : World} {B : Nat} {v : Value} {l : List Nat} {n : Nat} (h : W.ownsRow B 3 1 v n (natsV l)) (hn : n = l.length) : XR W W.heap.size v l := by
  subst hn
  exact ⟨h.mono (Nat.zero_le _), fun j e => (h.lt j e).2⟩
theorem ik_own {W : World} {B n : Nat} {v : Value} {l : List Nat} (h : W.ownsRow B 3 1 v n (natsV l)) : ∃ a g c, v = .slice a n c ∧ IK W a g 0 n (l.map fun (k : Nat) => (k : Int)) := by
  rcases Joins.ownsRow_forms h with ⟨rfl, rfl⟩ | ⟨g, c, rfl⟩
  · have hl : l = [] := List.eq_nil_of_length_eq_zero (by simpa [natsV] using h.1)
    subst hl
    exact ⟨none, 0, 0, rfl, rfl, fun h => absurd rfl h, fun i x e => by simp at e, fun h => absurd rfl h⟩
  · exact ⟨_, g, c, rfl, ik_of_row h⟩
/-- the numbers of the costs below k -/
def dD (c : Nat → Nat) (m k : Nat) : List Nat := (List.range k).flatMap fun v => (List.range m).filter fun i => c i == v
theorem dD_succ (c : Nat → Nat) (m k : Nat) : dD c m (k + 1) = dD c m k ++ (List.range m).filter fun i => c i == k := by
  unfold dD; rw [List.range_succ, List.flatMap_append]; simp
theorem fl_len (c : Nat → Nat) (j k : Nat) : ((List.range j).filter fun i => c i == k).length ≤ j := by
  have := List.length_filter_le (fun i => c i == k) (List.range j); simpa using this
theorem dD_len (c : Nat → Nat) (m : Nat) : ∀ k, (dD c m k).length ≤ k * m
  | 0 => by simp [dD]
  | k+1 => by
    have h := dD_len c m k
    have h2 := fl_len c m k
    rw [dD_succ, List.length_append, Nat.add_mul]; omega
theorem fl_snoc (c : Nat → Nat) (j k : Nat) : ((List.range (j + 1)).filter fun i => c i == k) = if c j = k then ((List.range j).filter fun i => c i == k) ++ [j] else (List.range j).filter fun i => c i == k := by
  rw [List.range_succ, List.filter_append]
  by_cases h : c j = k
  · rw [if_pos h]; simp [h]
  · rw [if_neg h]; simp [h]
theorem due_cap (c : Nat → Nat) (m L : Nat) (hL : 2400 ≤ L) (hc : ∀ i, i < m → c i ≤ 2400) : Nm.dueL c m L = Nm.dueL c m 2400 := by
  refine Nm.sorted_unique (fun x y h => Nm.lex_asymm h) _ _ (Nm.dueL_sorted c m (L + 1)) (Nm.dueL_sorted c m 2401) fun x => ?_
  have h1 := Nm.dueL_mem c m L x
  have h2 := Nm.dueL_mem c m 2400 x
  rw [h1, h2]
  exact ⟨fun h => ⟨h.1, hc x h.1⟩, fun h => ⟨h.1, by omega⟩⟩
theorem natsV_snoc (l : List Nat) (x : Nat) : natsV l ++ [.int .i64 (x : Int)] = natsV (l ++ [x]) := by simp [natsV]
end Go.Proofs.YtkdflgaahhnigaaGreat
