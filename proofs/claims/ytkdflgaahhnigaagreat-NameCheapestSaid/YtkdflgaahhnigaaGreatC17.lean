/- The reference's Sound, Swap. An append of one element to a row of one's own that is still read: its cells stay. The reference's Cost. -/
import Derived.Test.YtkdflgaahhnigaaGreatC13
import Derived.Test.YtkdflgaahhnigaaGreatC12
import Derived.Test.YtkdflgaahhnigaaGreatC15
import Derived.ArgAppend
import Derived.Test.YtkdflgaahhnigaaGreatC10
set_option linter.unusedVariables false
set_option linter.unusedSimpArgs false
namespace Go.Proofs.YtkdflgaahhnigaaGreat
open Go.RowKit Go.Shelf

/-- the first class that has the letter -/
def sndF : List (List UInt8) → UInt8 → UInt8
  | [], b => b
  | c :: cs, b => if b ∈ c then c.headD 0 else sndF cs b
theorem fold_keep (b : UInt8) : ∀ (cs : List (List UInt8)) (x : UInt8), (∀ c, c ∈ cs → b ∉ c) → cs.foldl (fun x c => if decide (b ∈ c) then c.headD 0 else x) x = x
  | [], _, _ => rfl
  | c :: cs, x, h => by
    rw [List.foldl_cons, decide_eq_false (h c (by simp))]
    exact fold_keep b cs x fun c hc => h c (List.mem_cons_of_mem _ hc)
theorem sndF_fold (b : UInt8) : ∀ (cs : List (List UInt8)), cs.flatten.Nodup → sndF cs b = cs.foldl (fun x c => if decide (b ∈ c) then c.headD 0 else x) b
  | [], _ => rfl
  | c :: cs, h => by
    rw [List.flatten_cons, List.nodup_append] at h
    rw [sndF, List.foldl_cons]
    by_cases hb : b ∈ c
    · rw [if_pos hb, decide_eq_true hb]
      refine (fold_keep b cs _ fun c2 hc2 hb2 => ?_).symm
      exact h.2.2 b hb b (List.mem_flatten.2 ⟨c2, hc2, hb2⟩) rfl
    · rw [if_neg hb, decide_eq_false hb]
      exact sndF_fold b cs h.2.1
theorem sndF_snd {R : RB} (hg : Good R) (b : UInt8) : sndF (R.cls.map (·.data.toList)) b = sndR R b := by
  have hr := hg.rul
  simp only [rulB, distB, Bool.and_eq_true, decide_eq_true_eq] at hr
  exact sndF_fold b _ hr.1.1.1.2
theorem sndF_none {b : UInt8} : ∀ (cs : List (List UInt8)), (∀ c, c ∈ cs → b ∉ c) → sndF cs b = b
  | [], _ => rfl
  | c :: cs, h => by
    rw [sndF, if_neg (h c (by simp))]
    exact sndF_none cs fun c hc => h c (List.mem_cons_of_mem _ hc)
theorem sndF_at {b : UInt8} {c : List UInt8} : ∀ (cs : List (List UInt8)) (k : Nat), cs[k]? = some c → b ∈ c → (∀ j d, j < k → cs[j]? = some d → b ∉ d) → sndF cs b = c.headD 0
  | [], k, h, _, _ => by simp at h
  | d :: cs, 0, h, hb, _ => by simp at h; subst h; rw [sndF, if_pos hb]
  | d :: cs, k+1, h, hb, hn => by
    rw [sndF, if_neg (hn 0 d (by omega) (by simp))]
    exact sndF_at cs k (by simpa using h) hb fun j e hj he => hn (j + 1) e (by omega) (by simpa using he)
set_option maxRecDepth 100000 in
set_option maxHeartbeats 2000000 in
theorem Sound65 (a : Option Addr) (g o c n : Nat) (R : RB) (w : World) (hN : R.cls.length = n) (hk : SK w a g o R.cls) (hg : Good R) (ht : Thn R) (b : UInt8) : Calls Tryz.prog 65 #[rulesV a n c R.soft R.al R.ot R.sk R.ss R.db, .int .u8 (b.toNat : Int)] w fun e w' => e = .returned (.int .u8 ((sndR R b).toNat : Int)) ∧ Below w.heap.size w w' := by
  rw [← sndF_snd hg]
  generalize hV : sndF (R.cls.map (·.data.toList)) b = V
  have HV := Lib.hid hV
  have HK := Lib.hid hk
  have HN := Lib.hid hN
  have HT := Lib.hid ht
  have hn : n ≤ 1000 := by have := ht.1; omega
  have s0 := (KS.start w).new (rulesC a n c R.soft R.al R.ot R.sk R.ss R.db) 24
  have S0 := Lib.hid s0
  obtain ⟨kb0_0, kb0_1, kb0_2, kb0_3, kb0_4, kb0_5, kb0_6⟩ := (s0.blkAt 0 rfl).c7
  clear s0 hk hN hg ht hV
  go_enter Tryz.func65, Tryz.ntmps65
  go_wp2_with fail
  clear kb0_0 kb0_1 kb0_2 kb0_3 kb0_4 kb0_5 kb0_6
  go_loopw [5] (fun y wr => ∃ k : Nat, k ≤ n ∧ y = .int .i64 (k : Int) ∧ Hid ((∀ j cl, j < k → R.cls[j]? = some cl → b ∉ cl.data.toList) ∧ KS w [(w.heap.size, rulesC a n c R.soft R.al R.ot R.sk R.ss R.db, 24)] wr)) (fun y _ => n - (intOf y).toNat)
  case atStart => exact ⟨0, Nat.zero_le _, rfl, fun j cl h => by omega, S0.out⟩
  case round =>
    clear S0
    obtain ⟨k, hk, rfl, H⟩ := hrel
    have kc0 := (H.out.2.blkAt 0 rfl).cell 0
    by_cases hkn : k < n
    · obtain ⟨cl, hcl⟩ : ∃ cl, R.cls[k]? = some cl := ⟨R.cls[k]'(by rw [HN.out]; exact hkn), by simp⟩
      have HCL := Lib.hid hcl
      have hne : R.cls ≠ [] := by rintro e; rw [e] at hcl; simp at hcl
      have e1 := HK.out.1 hne
      subst e1
      have k0 := (HK.out.2.1.below H.out.2.bel (HK.out.2.2 hne)) k cl hcl
      have hcs := HT.out.2.1 cl (List.mem_of_getElem? hcl)
      have C38 := Lib.hid (fun W => Has38 cl hcs b W)
      clear hcl hne
      by_cases hm : b ∈ cl.data.toList
      · have hi : inS cl b = true := decide_eq_true hm
        rw [hi] at C38
        have hpos : 0 < cl.size := by
          have := List.length_pos_of_mem hm
          simpa using this
        have hv : V = cl[0] := HV.out.symm.trans ((sndF_at _ k (by rw [List.getElem?_map, HCL.out]; rfl) hm (fun j d hj hd => by
          rw [List.getElem?_map] at hd
          cases e : R.cls[j]? with
          | none => rw [e] at hd; simp at hd
          | some c2 => rw [e] at hd; simp at hd; rw [← hd]; simpa using H.out.1 j c2 hj e)).trans (headD_get cl hpos))
        subst hv
        have q0 : (0 : Int) < (cl.size : Int) := by omega
        clear hm hi
        go_wp2_with (go_at_call 38; (with_reducible refine (C38.out _).mono ?_); rintro e w1 ⟨rfl, rfl⟩)
        go_ret
        exact ⟨rfl, H.out.2.bel⟩
      · have hi : inS cl b = false := decide_eq_false hm
        rw [hi] at C38
        have S1 := Lib.hid (show (∀ j cl, j < k + 1 → R.cls[j]? = some cl → b ∉ cl.data.toList) ∧ KS w [(w.heap.size, rulesC (some ⟨g, o, none⟩) n c R.soft R.al R.ot R.sk R.ss R.db, 24)] wr from ⟨fun j c2 hj hc2 => by
          rcases Nat.lt_or_ge j k with h | h
          · exact H.out.1 j c2 h hc2
          · obtain rfl : j = k := by omega
            rw [HCL.out] at hc2; cases hc2; exact hm, H.out.2⟩)
        clear hm hi
        go_wp2_with (go_at_call 38; (with_reducible refine (C38.out _).mono ?_); rintro e w1 ⟨rfl, rfl⟩)
        go_roundw
        case rel => exact ⟨k + 1, by omega, by go_num, S1.out⟩
        case measure => simp [intOf]; omega
    · obtain rfl : k = n := by omega
      have hv : V = b := HV.out.symm.trans (sndF_none _ fun c2 hc2 => by
        obtain ⟨cl, hcl, rfl⟩ := List.mem_map.1 hc2
        obtain ⟨j, hj, e⟩ := List.mem_iff_getElem.1 hcl
        exact H.out.1 j cl (by rw [← HN.out]; exact hj) (by rw [List.getElem?_eq_getElem hj, e]))
      subst hv
      go_wp2_with fail
      go_ret
      exact ⟨rfl, H.out.2.bel⟩
set_option maxRecDepth 100000 in
set_option maxHeartbeats 1000000 in
theorem Swap_alike (a : Option Addr) (g o c n : Nat) (R : RB) (w : World) (hN : R.cls.length = n) (hk : SK w a g o R.cls) (hg : Good R) (ht : Thn R) (x y : UInt8) (hne : x ≠ y) (hs : sndR R x = sndR R y) : Calls Tryz.prog 62 #[rulesV a n c R.soft R.al R.ot R.sk R.ss R.db, .int .u8 (x.toNat : Int), .int .u8 (y.toNat : Int)] w fun e w' => e = .returned (.int .i64 R.al) ∧ Below w.heap.size w w' := by
  have C65 := Lib.hid (fun W (z : UInt8) (hW : Below w.heap.size w W) => Sound65 a g o c n R W hN (hk.below hW) hg ht z)
  have t0 : ((x.toNat : Int) == (y.toNat : Int)) = false := by rw [beq_eq_false_iff_ne]; intro e; exact hne (UInt8.toNat_inj.1 (by omega))
  have t1 : (((sndR R x).toNat : Int) == ((sndR R y).toNat : Int)) = true := by rw [hs]; simp
  have s0 := (KS.start w).new (rulesC a n c R.soft R.al R.ot R.sk R.ss R.db) 24
  have S0 := Lib.hid s0
  obtain ⟨kb0_0, kb0_1, kb0_2, kb0_3, kb0_4, kb0_5, kb0_6⟩ := (s0.blkAt 0 rfl).c7
  clear s0 hk hN hg ht hne hs
  go_enter Tryz.func62, Tryz.ntmps62
  go_wp2_with fail
  obtain ⟨BS, hBS⟩ : ∃ BS : List (Nat × Array Value × TypeId), BS = [(w.heap.size, rulesC a n c R.soft R.al R.ot R.sk R.ss R.db, 24)] := ⟨_, rfl⟩
  have hS : KS w BS (w.alloc (.cells (rulesC a n c R.soft R.al R.ot R.sk R.ss R.db) 24)).drew := by rw [hBS]; exact S0.out.drew
  have K0 : ∀ W, KS w BS W → W.cell? ⟨w.heap.size, 0, none⟩ = some (.slice a n c) := fun W h => by rw [hBS] at h; exact (h.blkAt 0 rfl).cell 0
  have K1 : ∀ W, KS w BS W → W.cell? ⟨w.heap.size, 1, none⟩ = some (.string R.soft) := fun W h => by rw [hBS] at h; exact (h.blkAt 0 rfl).cell 1
  have K2 : ∀ W, KS w BS W → W.cell? ⟨w.heap.size, 2, none⟩ = some (.int .i64 R.al) := fun W h => by rw [hBS] at h; exact (h.blkAt 0 rfl).cell 2
  have K3 : ∀ W, KS w BS W → W.cell? ⟨w.heap.size, 3, none⟩ = some (.int .i64 R.ot) := fun W h => by rw [hBS] at h; exact (h.blkAt 0 rfl).cell 3
  have K4 : ∀ W, KS w BS W → W.cell? ⟨w.heap.size, 4, none⟩ = some (.int .i64 R.sk) := fun W h => by rw [hBS] at h; exact (h.blkAt 0 rfl).cell 4
  have K5 : ∀ W, KS w BS W → W.cell? ⟨w.heap.size, 5, none⟩ = some (.int .i64 R.ss) := fun W h => by rw [hBS] at h; exact (h.blkAt 0 rfl).cell 5
  have K6 : ∀ W, KS w BS W → W.cell? ⟨w.heap.size, 6, none⟩ = some (.int .i64 R.db) := fun W h => by rw [hBS] at h; exact (h.blkAt 0 rfl).cell 6
  have HBS := Lib.hid hBS
  clear hBS
  clear kb0_0 kb0_1 kb0_2 kb0_3 kb0_4 kb0_5 kb0_6
  refine wp_region_held_drew (S := KS w BS) (by kernel_rfl) hS (fun hHeld => ?_)
  clear hS
  refine wpAnyH_take (i := 0) (v := ?_) rfl (by kernel_rfl) (by kernel_rfl) (by kernel_rfl) (fun _ _ _ h => h) (Or.inl ⟨by rfl, ?h0⟩) hHeld ?_
  case h0 =>
    intro w' hSw
    (try dsimp only at hSw)
    go_simp
    (try with_reducible rfl)
  (try simp only [Act.put]); (try simp only [List.setIfInBounds_toArray]); (try simp only [List.set_cons_succ]); (try simp only [List.set_cons_zero])
  refine wpAnyH_take (i := 1) (v := ?_) rfl (by kernel_rfl) (by kernel_rfl) (by kernel_rfl) (fun _ _ _ h => h) (Or.inl ⟨by rfl, ?h1⟩) hHeld ?_
  case h1 =>
    intro w' hSw
    (try dsimp only at hSw)
    go_simp
    (try with_reducible rfl)
  (try simp only [Act.put]); (try simp only [List.setIfInBounds_toArray]); (try simp only [List.set_cons_succ]); (try simp only [List.set_cons_zero])
  refine wpAnyH_take (i := 3) (v := ?_) rfl (by kernel_rfl) (by kernel_rfl) (by kernel_rfl) (fun _ _ _ h => h) (Or.inl ⟨by rfl, ?h3⟩) hHeld ?_
  case h3 =>
    intro w' hSw
    (try dsimp only at hSw)
    go_simp
    (try with_reducible rfl)
  (try simp only [Act.put]); (try simp only [List.setIfInBounds_toArray]); (try simp only [List.set_cons_succ]); (try simp only [List.set_cons_zero])
  refine wpAnyH_take (i := 4) (v := ?_) rfl (by kernel_rfl) (by kernel_rfl) (by kernel_rfl) (fun _ _ _ h => h) (Or.inl ⟨by rfl, ?h4⟩) hHeld ?_
  case h4 =>
    intro w' hSw
    (try dsimp only at hSw)
    go_simp
    (try with_reducible rfl)
  (try simp only [Act.put]); (try simp only [List.setIfInBounds_toArray]); (try simp only [List.set_cons_succ]); (try simp only [List.set_cons_zero])
  refine wpAnyH_ready (rs := [2]) (by kernel_rfl) (by simp) ?_
  refine AllReadyH.cons rfl (fun K hK => ?_) (AllReadyH.nil)
  go_simp
  (refine (C65.out _ x hHeld.bel).mono ?_)
  rintro e w1 ⟨rfl, hb⟩
  have hS2 := hHeld.below hb
  clear hb
  refine hK.out _ _ hS2 (fun hHeld => ?_)
  clear hK K hS2
  (try simp only [Act.put]); (try simp only [List.setIfInBounds_toArray]); (try simp only [List.set_cons_succ]); (try simp only [List.set_cons_zero])
  refine wpAnyH_ready (rs := [5]) (by kernel_rfl) (by simp) ?_
  refine AllReadyH.cons rfl (fun K hK => ?_) (AllReadyH.nil)
  go_simp
  (refine (C65.out _ y hHeld.bel).mono ?_)
  rintro e w2 ⟨rfl, hb⟩
  have hS2 := hHeld.below hb
  clear hb
  refine hK.out _ _ hS2 (fun hHeld => ?_)
  clear hK K hS2
  (try simp only [Act.put]); (try simp only [List.setIfInBounds_toArray]); (try simp only [List.set_cons_succ]); (try simp only [List.set_cons_zero])
  refine wpAnyH_ready (rs := [6]) (by kernel_rfl) (by simp) ?_
  refine AllReadyH.cons rfl (fun K hK => ?_) (AllReadyH.nil)
  go_simp
  refine hK.out _ _ hHeld (fun hHeld => ?_)
  clear hK K
  (try simp only [Act.put]); (try simp only [List.setIfInBounds_toArray]); (try simp only [List.set_cons_succ]); (try simp only [List.set_cons_zero])
  refine wpAnyH_done (by kernel_rfl) ?_ _
  have hs9 := hHeld
  rw [HBS.out] at hs9
  have HB := Lib.hid hs9.bel
  obtain ⟨kb0_0, kb0_1, kb0_2, kb0_3, kb0_4, kb0_5, kb0_6⟩ := (hs9.blkAt 0 rfl).c7
  clear hHeld hs9 K0 K1 K2 K3 K4 K5 K6 HBS
  go_wp2_with fail
  go_ret
  exact ⟨rfl, HB.out⟩
set_option maxRecDepth 100000 in
set_option maxHeartbeats 1000000 in
theorem Swap_other (a : Option Addr) (g o c n : Nat) (R : RB) (w : World) (hN : R.cls.length = n) (hk : SK w a g o R.cls) (hg : Good R) (ht : Thn R) (x y : UInt8) (hne : x ≠ y) (hs : sndR R x ≠ sndR R y) : Calls Tryz.prog 62 #[rulesV a n c R.soft R.al R.ot R.sk R.ss R.db, .int .u8 (x.toNat : Int), .int .u8 (y.toNat : Int)] w fun e w' => e = .returned (.int .i64 R.ot) ∧ Below w.heap.size w w' := by
  have C65 := Lib.hid (fun W (z : UInt8) (hW : Below w.heap.size w W) => Sound65 a g o c n R W hN (hk.below hW) hg ht z)
  have t0 : ((x.toNat : Int) == (y.toNat : Int)) = false := by rw [beq_eq_false_iff_ne]; intro e; exact hne (UInt8.toNat_inj.1 (by omega))
  have t1 : (((sndR R x).toNat : Int) == ((sndR R y).toNat : Int)) = false := by rw [beq_eq_false_iff_ne]; intro e; exact hs (UInt8.toNat_inj.1 (by omega))
  have s0 := (KS.start w).new (rulesC a n c R.soft R.al R.ot R.sk R.ss R.db) 24
  have S0 := Lib.hid s0
  obtain ⟨kb0_0, kb0_1, kb0_2, kb0_3, kb0_4, kb0_5, kb0_6⟩ := (s0.blkAt 0 rfl).c7
  clear s0 hk hN hg ht hne hs
  go_enter Tryz.func62, Tryz.ntmps62
  go_wp2_with fail
  obtain ⟨BS, hBS⟩ : ∃ BS : List (Nat × Array Value × TypeId), BS = [(w.heap.size, rulesC a n c R.soft R.al R.ot R.sk R.ss R.db, 24)] := ⟨_, rfl⟩
  have hS : KS w BS (w.alloc (.cells (rulesC a n c R.soft R.al R.ot R.sk R.ss R.db) 24)).drew := by rw [hBS]; exact S0.out.drew
  have K0 : ∀ W, KS w BS W → W.cell? ⟨w.heap.size, 0, none⟩ = some (.slice a n c) := fun W h => by rw [hBS] at h; exact (h.blkAt 0 rfl).cell 0
  have K1 : ∀ W, KS w BS W → W.cell? ⟨w.heap.size, 1, none⟩ = some (.string R.soft) := fun W h => by rw [hBS] at h; exact (h.blkAt 0 rfl).cell 1
  have K2 : ∀ W, KS w BS W → W.cell? ⟨w.heap.size, 2, none⟩ = some (.int .i64 R.al) := fun W h => by rw [hBS] at h; exact (h.blkAt 0 rfl).cell 2
  have K3 : ∀ W, KS w BS W → W.cell? ⟨w.heap.size, 3, none⟩ = some (.int .i64 R.ot) := fun W h => by rw [hBS] at h; exact (h.blkAt 0 rfl).cell 3
  have K4 : ∀ W, KS w BS W → W.cell? ⟨w.heap.size, 4, none⟩ = some (.int .i64 R.sk) := fun W h => by rw [hBS] at h; exact (h.blkAt 0 rfl).cell 4
  have K5 : ∀ W, KS w BS W → W.cell? ⟨w.heap.size, 5, none⟩ = some (.int .i64 R.ss) := fun W h => by rw [hBS] at h; exact (h.blkAt 0 rfl).cell 5
  have K6 : ∀ W, KS w BS W → W.cell? ⟨w.heap.size, 6, none⟩ = some (.int .i64 R.db) := fun W h => by rw [hBS] at h; exact (h.blkAt 0 rfl).cell 6
  have HBS := Lib.hid hBS
  clear hBS
  clear kb0_0 kb0_1 kb0_2 kb0_3 kb0_4 kb0_5 kb0_6
  refine wp_region_held_drew (S := KS w BS) (by kernel_rfl) hS (fun hHeld => ?_)
  clear hS
  refine wpAnyH_take (i := 0) (v := ?_) rfl (by kernel_rfl) (by kernel_rfl) (by kernel_rfl) (fun _ _ _ h => h) (Or.inl ⟨by rfl, ?h0⟩) hHeld ?_
  case h0 =>
    intro w' hSw
    (try dsimp only at hSw)
    go_simp
    (try with_reducible rfl)
  (try simp only [Act.put]); (try simp only [List.setIfInBounds_toArray]); (try simp only [List.set_cons_succ]); (try simp only [List.set_cons_zero])
  refine wpAnyH_take (i := 1) (v := ?_) rfl (by kernel_rfl) (by kernel_rfl) (by kernel_rfl) (fun _ _ _ h => h) (Or.inl ⟨by rfl, ?h1⟩) hHeld ?_
  case h1 =>
    intro w' hSw
    (try dsimp only at hSw)
    go_simp
    (try with_reducible rfl)
  (try simp only [Act.put]); (try simp only [List.setIfInBounds_toArray]); (try simp only [List.set_cons_succ]); (try simp only [List.set_cons_zero])
  refine wpAnyH_take (i := 3) (v := ?_) rfl (by kernel_rfl) (by kernel_rfl) (by kernel_rfl) (fun _ _ _ h => h) (Or.inl ⟨by rfl, ?h3⟩) hHeld ?_
  case h3 =>
    intro w' hSw
    (try dsimp only at hSw)
    go_simp
    (try with_reducible rfl)
  (try simp only [Act.put]); (try simp only [List.setIfInBounds_toArray]); (try simp only [List.set_cons_succ]); (try simp only [List.set_cons_zero])
  refine wpAnyH_take (i := 4) (v := ?_) rfl (by kernel_rfl) (by kernel_rfl) (by kernel_rfl) (fun _ _ _ h => h) (Or.inl ⟨by rfl, ?h4⟩) hHeld ?_
  case h4 =>
    intro w' hSw
    (try dsimp only at hSw)
    go_simp
    (try with_reducible rfl)
  (try simp only [Act.put]); (try simp only [List.setIfInBounds_toArray]); (try simp only [List.set_cons_succ]); (try simp only [List.set_cons_zero])
  refine wpAnyH_ready (rs := [2]) (by kernel_rfl) (by simp) ?_
  refine AllReadyH.cons rfl (fun K hK => ?_) (AllReadyH.nil)
  go_simp
  (refine (C65.out _ x hHeld.bel).mono ?_)
  rintro e w1 ⟨rfl, hb⟩
  have hS2 := hHeld.below hb
  clear hb
  refine hK.out _ _ hS2 (fun hHeld => ?_)
  clear hK K hS2
  (try simp only [Act.put]); (try simp only [List.setIfInBounds_toArray]); (try simp only [List.set_cons_succ]); (try simp only [List.set_cons_zero])
  refine wpAnyH_ready (rs := [5]) (by kernel_rfl) (by simp) ?_
  refine AllReadyH.cons rfl (fun K hK => ?_) (AllReadyH.nil)
  go_simp
  (refine (C65.out _ y hHeld.bel).mono ?_)
  rintro e w2 ⟨rfl, hb⟩
  have hS2 := hHeld.below hb
  clear hb
  refine hK.out _ _ hS2 (fun hHeld => ?_)
  clear hK K hS2
  (try simp only [Act.put]); (try simp only [List.setIfInBounds_toArray]); (try simp only [List.set_cons_succ]); (try simp only [List.set_cons_zero])
  refine wpAnyH_ready (rs := [6]) (by kernel_rfl) (by simp) ?_
  refine AllReadyH.cons rfl (fun K hK => ?_) (AllReadyH.nil)
  go_simp
  refine hK.out _ _ hHeld (fun hHeld => ?_)
  clear hK K
  (try simp only [Act.put]); (try simp only [List.setIfInBounds_toArray]); (try simp only [List.set_cons_succ]); (try simp only [List.set_cons_zero])
  refine wpAnyH_done (by kernel_rfl) ?_ _
  have hs9 := hHeld
  rw [HBS.out] at hs9
  have HB := Lib.hid hs9.bel
  obtain ⟨kb0_0, kb0_1, kb0_2, kb0_3, kb0_4, kb0_5, kb0_6⟩ := (hs9.blkAt 0 rfl).c7
  clear hHeld hs9 K0 K1 K2 K3 K4 K5 K6 HBS
  go_wp2_with fail
  go_ret
  exact ⟨rfl, HB.out⟩
set_option maxRecDepth 100000 in
set_option maxHeartbeats 1000000 in
theorem Swap62 (a : Option Addr) (g o c n : Nat) (R : RB) (w : World) (hN : R.cls.length = n) (hk : SK w a g o R.cls) (hg : Good R) (ht : Thn R) (x y : UInt8) : Calls Tryz.prog 62 #[rulesV a n c R.soft R.al R.ot R.sk R.ss R.db, .int .u8 (x.toNat : Int), .int .u8 (y.toNat : Int)] w fun e w' => e = .returned (.int .i64 (swN (sndR R) R.al.toNat R.ot.toNat x y : Nat)) ∧ Below w.heap.size w w' := by
  obtain ⟨h1, h2, _⟩ := hg.cos
  unfold swN
  by_cases he : x = y
  · subst he
    rw [if_pos rfl]
    clear hk hN hg ht h1 h2
    go_enter Tryz.func62, Tryz.ntmps62
    go_wp2_with fail
    go_ret
    exact ⟨rfl, (Below.refl _ _).alloc (Nat.le_refl _) _⟩
  · rw [if_neg he]
    by_cases hs : sndR R x = sndR R y
    · rw [if_pos hs, Int.toNat_of_nonneg h1.1]
      exact Swap_alike a g o c n R w hN hk hg ht x y he hs
    · rw [if_neg hs, Int.toNat_of_nonneg h2.1]
      exact Swap_other a g o c n R w hN hk hg ht x y he hs
end Go.Proofs.YtkdflgaahhnigaaGreat

namespace Go.Proofs.YtkdflgaahhnigaaGreat
open Go.RowKit Go.Shelf

theorem run_append_keep {P : Program} (w : World) (base : Nat) (t ty e : TypeId) (i : TypeInfo) (z : Value) (bytes : Nat) (ht : P.underlying t = some (.slice e)) (hi : P.info? e = some i) (hz : i.zero = some z)
    (hsize : i.size = 1) (hby : i.bytes = bytes) (hzs : z.cells.size = 1) (g k cap : Nat) (xs : List Value) (hown : w.ownsRow base e 1 (.slice (some ⟨g, 0, none⟩) k cap) k xs)
    (nb : Nat) (x : Value) (hcell : w.cell? ⟨nb, 0, none⟩ = some x) (h1 : x.oneCell' = true) (h63 : k + 1 ≤ maxLen) (hbytes : (k + 1) * bytes ≤ 140737488355328) (hbase : base ≤ w.heap.size) :
    ∃ g' cap' w', (Builtin.append_ #[t, t] ty #[.slice (some ⟨g, 0, none⟩) k cap, .slice (some ⟨nb, 0, none⟩) 1 1]).run P w = .ok (.slice (some ⟨g', 0, none⟩) (k + 1) cap') w' ∧
      w'.ownsRow base e 1 (.slice (some ⟨g', 0, none⟩) (k + 1) cap') (k + 1) (xs ++ [x]) ∧ w.grownBy w' (some g) ∧ ∀ j, j < k → w'.cell? ⟨g, j, none⟩ = w.cell? ⟨g, j, none⟩ := by
  have hl : ([x] : List Value).length = 1 * 1 := rfl
  have hnews : ∀ j u, ([x] : List Value)[j]? = some u → w.cell? ((⟨nb, 0, none⟩ : Addr).add j) = some u := fun j u hj => by
    have hj0 : j = 0 := by have := (List.getElem?_eq_some_iff.1 hj).1; simpa using this
    subst hj0
    simp at hj
    subst hj
    simpa [Addr.add] using hcell
  have h1c : ∀ u ∈ ([x] : List Value), u.oneCell' = true := fun u hu => by simp at hu; subst hu; exact h1
  have hlt := hown.lt g rfl
  by_cases hroom : k + 1 ≤ cap
  · obtain ⟨v', w', hrun, r1, r2, _⟩ := run_append_own (P := P) w base t ty e i z 1 bytes ht hi hz hsize hby hzs (by decide) _ k xs hown ⟨nb, 0, none⟩ 1 1 [x] hl hnews h1c h63 hbytes hbase
    have hsome : (w.cell? ⟨g, k, none⟩).isSome = true := by
      rcases hown.2 with ⟨h', _⟩ | ⟨g', cap', cur, h', _, hg, _, _, hsz, _⟩
      · simp at h'
      · simp only [Value.slice.injEq, Option.some.injEq, Addr.mk.injEq, and_true, true_and] at h'
        obtain ⟨rfl, rfl⟩ := h'
        rw [cell_of_row w g k cur e (0, 0) hg, Array.getElem?_eq_getElem (by omega)]; rfl
    have hrun2 := run_append_room_cells (P := P) w t ty e i ht hi g 0 k cap ⟨nb, 0, none⟩ 1 1 [x] (by rw [hsize]; rfl) hnews h1c hroom
      (fun j hj => by have : j = 0 := by simpa using hj
                      subst this; rw [hsize]; simpa using hsome) (fun j hj => by rw [hsize]; simpa using hown.frozenAt (0 + k * 1 + j))
    rw [hrun2] at hrun
    cases hrun
    refine ⟨g, cap, _, hrun2, r1, r2, fun j hj => ?_⟩
    exact World.cell?_setCells_out _ _ _ _ _ (fun _ _ => by left; rw [hsize]; simp; omega)
  · have holds : ∀ j u, xs[j]? = some u → w.cell? ((⟨g, 0, none⟩ : Addr).add j) = some u := fun j u hj => hown.cells rfl j u hj
    obtain ⟨v', w', hrun, r1, r2⟩ := run_append_arg_grows (P := P) w t ty e i z 1 bytes ht hi hz hsize hby hzs (by decide) ⟨g, 0, none⟩ k cap xs (by have := hown.1; omega) holds ⟨nb, 0, none⟩ 1 1 [x] hl hnews (by omega) h63 hbytes
    obtain ⟨g', cap', rfl⟩ := Joins.ownsRow_form r1 (by omega)
    exact ⟨g', cap', w', hrun, r1.mono hbase, ⟨r2.os, r2.tape, r2.output, r2.size, fun q hq _ => r2.block q hq (by simp)⟩, fun j hj => World.cell?_of_block (r2.block g hlt.2 (by simp))⟩
theorem step_append_keep {P : Program} {ops : Array Oper} {o : Oper} {a : Act} {w : World} {K : Act → World → Prop} {Q : Exit → Act → World → Prop} {E : Prop} (hgd : o.guard = none) (s y : Operand) (t : TypeId)
    (ho : o.op = .call { callee := .builtin .append, args := #[s, y], argTypes := #[t, t] })
    (base : Nat) (e : TypeId) (i : TypeInfo) (z : Value) (bytes : Nat) (ht : P.underlying t = some (.slice e)) (hi : P.info? e = some i) (hz : i.zero = some z)
    (hsize : i.size = 1) (hby : i.bytes = bytes) (hzs : z.cells.size = 1) (g k cap : Nat) (xs : List Value) (hs : a.eval s = .slice (some ⟨g, 0, none⟩) k cap) (hown : w.ownsRow base e 1 (.slice (some ⟨g, 0, none⟩) k cap) k xs)
    (nb : Nat) (x : Value) (hy : a.eval y = .slice (some ⟨nb, 0, none⟩) 1 1) (hcell : w.cell? ⟨nb, 0, none⟩ = some x) (h1 : x.oneCell' = true) (h63 : k + 1 ≤ maxLen) (hbytes : (k + 1) * bytes ≤ 140737488355328) (hbase : base ≤ w.heap.size)
    (h : ∀ g' cap' w', w'.ownsRow base e 1 (.slice (some ⟨g', 0, none⟩) (k + 1) cap') (k + 1) (xs ++ [x]) → w.grownBy w' (some g) → (∀ j, j < k → w'.cell? ⟨g, j, none⟩ = w.cell? ⟨g, j, none⟩) → K (a.put o.dst (.slice (some ⟨g', 0, none⟩) (k + 1) cap')) w') :
    if Region.wanted o (yielded ops a.tmps) = true then Oper.wp P o a w K Q else E := by
  have hw : Region.wanted o (yielded ops a.tmps) = true := by simp [Region.wanted, hgd]
  rw [if_pos hw]
  obtain ⟨g', cap', w', hrun, r1, r2, r3⟩ := run_append_keep (P := P) w base t o.type e i z bytes ht hi hz hsize hby hzs g k cap xs hown nb x hcell h1 h63 hbytes hbase
  unfold Oper.wp
  simp [execOp, ho, resolve, invoke, builtin, hs, hy, hrun, Result.andThen]
  exact h _ _ _ r1 r2 r3
/-- a row of numbers that is read -/
def RowC (W : World) (g : Nat) (l : List Nat) : Prop := g < W.heap.size ∧ ∀ (j x : Nat), l[j]? = some x → W.cell? ⟨g, j, none⟩ = some (.int .i64 (x : Int))
theorem RowC.below {W W' : World} {g : Nat} {l : List Nat} (h : RowC W g l) (hb : Below W.heap.size W W') : RowC W' g l := ⟨Nat.lt_of_lt_of_le h.1 hb.size, fun j x e => (hb.cell (p := ⟨g, j, none⟩) h.1).trans (h.2 j x e)⟩
theorem RowC.grown {W W' : World} {g : Nat} {l : List Nat} {row : Option Nat} (h : RowC W g l) (hg : W.grownBy W' row) (hne : some g ≠ row) : RowC W' g l :=
  ⟨Nat.lt_of_lt_of_le h.1 hg.size, fun j x e => (World.cell?_of_block (hg.block g h.1 hne)).trans (h.2 j x e)⟩
theorem RowC.same {W W' : World} {g k : Nat} {l : List Nat} (h : RowC W g l) (hl : l.length ≤ k) (hs : W.heap.size ≤ W'.heap.size) (hc : ∀ j, j < k → W'.cell? ⟨g, j, none⟩ = W.cell? ⟨g, j, none⟩) : RowC W' g l :=
  ⟨Nat.lt_of_lt_of_le h.1 hs, fun j x e => (hc j (by have := (List.getElem?_eq_some_iff.1 e).1; omega)).trans (h.2 j x e)⟩
theorem RowC.own {W : World} {B g k cap : Nat} {l : List Nat} (h : W.ownsRow B 3 1 (.slice (some ⟨g, 0, none⟩) k cap) k (natsV l)) : RowC W g l :=
  ⟨(h.lt g rfl).2, fun j x e => by
    have hj := (List.getElem?_eq_some_iff.1 e).1
    have hk : l.length = k := by have := h.1; simpa [natsV] using this
    rw [h.cellAt j (by omega), natsV, List.getElem?_map, e]; rfl⟩
/-- the rules, two rows -/
def CS (w : World) (rc : Array Value) (g : Nat) (l : List Nat) (g2 : Nat) (l2 : List Nat) (W : World) : Prop := KS w [(w.heap.size, rc, 24)] W ∧ RowC W g l ∧ RowC W g2 l2
theorem CS.below {w W W' : World} {rc : Array Value} {g g2 : Nat} {l l2 : List Nat} (h : CS w rc g l g2 l2 W) (hb : Below W.heap.size W W') : CS w rc g l g2 l2 W' := ⟨h.1.below hb, h.2.1.below hb, h.2.2.below hb⟩
theorem CS.drew {w W : World} {rc : Array Value} {g g2 : Nat} {l l2 : List Nat} (h : CS w rc g l g2 l2 W) : CS w rc g l g2 l2 W.drew := h.below (Below.refl _ _).drew
theorem CS.alloc {w W : World} {rc : Array Value} {g g2 : Nat} {l l2 : List Nat} (h : CS w rc g l g2 l2 W) (o : Obj) : CS w rc g l g2 l2 (W.alloc o) := h.below ((Below.refl _ _).alloc (Nat.le_refl _) o)
/-- behind an append to the second row -/
theorem CS.app {w W W' : World} {rc : Array Value} {g g2 k : Nat} {l l2 : List Nat} (h : CS w rc g l g2 l2 W) (hg : W.grownBy W' (some g2)) (hw : w.heap.size < g2) (hne : g ≠ g2) (hl : l2.length ≤ k) (hc : ∀ j, j < k → W'.cell? ⟨g2, j, none⟩ = W.cell? ⟨g2, j, none⟩) : CS w rc g l g2 l2 W' :=
  ⟨KS1_row h.1 hg (fun r e => by cases e; exact hw), h.2.1.grown hg (by simpa using hne), h.2.2.same hl hg.size hc⟩
theorem CS.app1 {w W W' : World} {rc : Array Value} {g k : Nat} {l : List Nat} (h : CS w rc g l g l W) (hg : W.grownBy W' (some g)) (hw : w.heap.size < g) (hl : l.length ≤ k) (hc : ∀ j, j < k → W'.cell? ⟨g, j, none⟩ = W.cell? ⟨g, j, none⟩) : CS w rc g l g l W' :=
  ⟨KS1_row h.1 hg (fun r e => by cases e; exact hw), h.2.1.same hl hg.size hc, h.2.2.same hl hg.size hc⟩
end Go.Proofs.YtkdflgaahhnigaaGreat

namespace Go.Proofs.YtkdflgaahhnigaaGreat
open Go.RowKit Go.Shelf

theorem pf_le {sw : Nat → Nat → Nat} {sa sb : Nat → Nat} (c : Nat) (h1 : ∀ i j, sw i j ≤ c) (h2 : ∀ i, sa i ≤ c) (h3 : ∀ i, sb i ≤ c) : ∀ i j, Nm.pf sw sa sb i j ≤ c * (i + j)
  | 0, 0 => by simp [Nm.pf]
  | 0, j+1 => by
    have := pf_le c h1 h2 h3 0 j
    have := h3 j
    rw [Nm.pf, ← Nat.add_assoc, Nat.mul_add]; omega
  | i+1, j => by
    have h := Nm.pf_sa (sw := sw) (sa := sa) (sb := sb) i j
    have := pf_le c h1 h2 h3 i j
    have := h2 i
    rw [Nat.add_right_comm, Nat.mul_add]; omega
def FR (R : RB) (x y : ByteArray) (i j : Nat) : Nat := Nm.pf (SW (sndR R) R.al.toNat R.ot.toNat x y) (SA R.soft R.sk.toNat R.ss.toNat R.db.toNat x) (SA R.soft R.sk.toNat R.ss.toNat R.db.toNat y) i j
def SAR (R : RB) (x : ByteArray) (i : Nat) : Nat := SA R.soft R.sk.toNat R.ss.toNat R.db.toNat x i
def SWR (R : RB) (x y : ByteArray) (i j : Nat) : Nat := SW (sndR R) R.al.toNat R.ot.toNat x y i j
theorem SAR_le {R : RB} (hg : Good R) (x : ByteArray) (i : Nat) : SAR R x i ≤ 100 := by
  have := hg.cos
  exact skN_le _ _ _ _ _ _ (by omega) (by omega) (by omega)
theorem SWR_le {R : RB} (hg : Good R) (x y : ByteArray) (i j : Nat) : SWR R x y i j ≤ 100 := by
  have := hg.cos
  exact swN_le _ _ _ _ _ (by omega) (by omega)
theorem FR_le {R : RB} (hg : Good R) (x y : ByteArray) (i j : Nat) : FR R x y i j ≤ 100 * (i + j) := pf_le 100 (fun i j => SWR_le hg x y i j) (fun i => SAR_le hg x i) (fun i => SAR_le hg y i) i j
theorem FR_00 (R : RB) (x y : ByteArray) : FR R x y 0 0 = 0 := by unfold FR; rw [Nm.pf]
theorem FR_0s (R : RB) (x y : ByteArray) (j : Nat) : FR R x y 0 (j + 1) = FR R x y 0 j + SAR R y j := by unfold FR; rw [Nm.pf]; rfl
theorem FR_s0 (R : RB) (x y : ByteArray) (i : Nat) : FR R x y (i + 1) 0 = FR R x y i 0 + SAR R x i := by unfold FR; rw [Nm.pf]; rfl
theorem FR_ss (R : RB) (x y : ByteArray) (i j : Nat) : FR R x y (i + 1) (j + 1) = min (FR R x y i j + SWR R x y i j) (min (FR R x y i (j + 1) + SAR R x i) (FR R x y (i + 1) j + SAR R y j)) := by unfold FR; rw [Nm.pf]; rfl
theorem FR_cR (R : RB) (x y : ByteArray) : FR R x y x.size y.size = cR R x y 0 0 := (cR_pf R x y).symm
/-- the first k of a row -/
def rowL (f : Nat → Nat) (k : Nat) : List Nat := (List.range k).map f
theorem rowL_len (f : Nat → Nat) (k : Nat) : (rowL f k).length = k := by simp [rowL]
theorem rowL_get (f : Nat → Nat) {k j : Nat} (h : j < k) : (rowL f k)[j]? = some (f j) := by simp [rowL, h]
theorem rowL_snoc (f : Nat → Nat) (k : Nat) : natsV (rowL f k) ++ [.int .i64 ((f k : Nat) : Int)] = natsV (rowL f (k + 1)) := by simp [rowL, natsV, List.range_succ]
theorem Skip37 (a : Option Addr) (n c : Nat) (R : RB) (hg : Good R) (ht : Thn R) (t : ByteArray) (hs : t.size ≤ 1000) (i : Nat) (hi : i < t.size) (w : World) : Calls Tryz.prog 37 #[rulesV a n c R.soft R.al R.ot R.sk R.ss R.db, .string t, .int .i64 (i : Int)] w fun e w' => e = .returned (.int .i64 (SAR R t i : Nat)) ∧ Below w.heap.size w w' := by
  have h := skip_any a n c R.soft R.al R.ot R.sk R.ss R.db ht.2.2 t hs i hi w
  have e : skV R.soft R.sk R.ss R.db t.data.toList i = ((SAR R t i : Nat) : Int) := skI_nat hg t i
  rw [e] at h
  exact h
set_option maxRecDepth 100000 in
set_option maxHeartbeats 8000000 in
theorem rCost24 (a : Option Addr) (g0 o c n : Nat) (R : RB) (w : World) (hN : R.cls.length = n) (hk : SK w a g0 o R.cls) (hg : Good R) (ht : Thn R) (x y : ByteArray) (hx : x.size ≤ 12) (hy : y.size ≤ 12) : Calls Tryz.prog 24 #[rulesV a n c R.soft R.al R.ot R.sk R.ss R.db, .string x, .string y] w fun e w' => e = .returned (.int .i64 (cR R x y 0 0 : Nat)) ∧ Below w.heap.size w w' := by
  rw [← FR_cR]
  have CX := Lib.hid (fun W (i : Nat) (hi : i < x.size) => Skip37 a n c R hg ht x (by omega) i hi W)
  have CY := Lib.hid (fun W (i : Nat) (hi : i < y.size) => Skip37 a n c R hg ht y (by omega) i hi W)
  have CW := Lib.hid (fun W (p q : UInt8) (hW : Below w.heap.size w W) => Swap62 a g0 o c n R W hN (hk.below hW) hg ht p q)
  have HFL := Lib.hid (FR_le hg x y)
  have HSX := Lib.hid (SAR_le hg x)
  have HSY := Lib.hid (SAR_le hg y)
  have HSW := Lib.hid (SWR_le hg x y)
  obtain ⟨i0, hi, hz0, hz1, hz2⟩ := info_parts tInfo3
  have HI := Lib.hid (And.intro hi (And.intro hz0 (And.intro hz1 hz2)))
  have s0 := (KS.start w).new (rulesC a n c R.soft R.al R.ot R.sk R.ss R.db) 24
  have S0 := Lib.hid s0
  obtain ⟨kb0_0, kb0_1, kb0_2, kb0_3, kb0_4, kb0_5, kb0_6⟩ := (s0.blkAt 0 rfl).c7
  have hown0 := World.ownsRow_lit (base := w.heap.size + 1) (e := 3) (size := 1) (w.alloc (.cells (rulesC a n c R.soft R.al R.ot R.sk R.ss R.db) 24)) #[.int .i64 0] 1 (by simp) (by unfold maxLen; omega) rfl
  have HO0 := Lib.hid hown0
  clear s0 hk hN hg ht hown0 hi hz0 hz1 hz2
  go_enter Tryz.func24, Tryz.ntmps24
  go_wp2_with fail
  clear kb0_0 kb0_1 kb0_2 kb0_3 kb0_4 kb0_5 kb0_6
  go_loopw [7, 8] (fun y7 y8 wr => ∃ (k g cap : Nat), k ≤ y.size ∧ y8 = .int .i64 (k : Int) ∧ y7 = .slice (some ⟨g, 0, none⟩) (k + 1) cap ∧ Hid (wr.ownsRow (w.heap.size + 1) 3 1 (.slice (some ⟨g, 0, none⟩) (k + 1) cap) (k + 1) (natsV (rowL (FR R x y 0) (k + 1))) ∧ KS w [(w.heap.size, rulesC a n c R.soft R.al R.ot R.sk R.ss R.db, 24)] wr)) (fun _ y8 _ => y.size - (intOf y8).toNat)
  case atStart => exact ⟨0, w.heap.size + 1, 1, Nat.zero_le _, rfl, by simp, by have h := HO0.out; simp at h; rw [show natsV (rowL (FR R x y 0) (0 + 1)) = [.int .i64 0] by simp [natsV, rowL, FR_00]]; exact h, S0.out.alloc _⟩
  case round =>
    clear S0 HO0
    obtain ⟨k, g, cap, hk, rfl, rfl, H⟩ := hrel
    by_cases hky : k < y.size
    · have CC := Lib.hid (fun W => CY.out W k hky)
      have hfl := HFL.out 0 k
      have hsl := HSY.out k
      have hfs := FR_0s R x y k
      have HFS := Lib.hid hfs
      have RW := Lib.hid (RowC.own H.out.1)
      have HBG := Lib.hid (H.out.1.lt g rfl)
      obtain ⟨BL, hBL⟩ : ∃ l, l = rowL (FR R x y 0) (k + 1) := ⟨_, rfl⟩
      have hgl : BL[k]? = some (FR R x y 0 k) := by rw [hBL]; exact rowL_get _ (by omega)
      have HBL := Lib.hid hBL
      have HGL := Lib.hid hgl
      clear hfs hBL hgl
      generalize FR R x y 0 k = f0 at *
      generalize SAR R y k = sy at *
      obtain ⟨f1, hf1⟩ : ∃ f1, f1 = f0 + sy := ⟨_, rfl⟩
      have HF1 := Lib.hid hf1
      have ea : IntKind.i64.wrap (f1 : Int) = (f1 : Int) := IntWalk.i64_in _ (by omega)
      have eb : (f0 : Int) + (sy : Int) = (f1 : Int) := by omega
      have pk0 : (0 : Int) ≤ (k : Int) := by omega
      have pk1 : (k : Int) < (k : Int) + 1 := by omega
      clear hf1 hfl hsl
      go_wp2_with fail
      obtain ⟨RC, hRC⟩ : ∃ r, r = rulesC a n c R.soft R.al R.ot R.sk R.ss R.db := ⟨_, rfl⟩
      have hS : CS w RC g BL g BL wr.drew := by rw [hRC, HBL.out]; exact CS.drew ⟨H.out.2, RowC.own H.out.1, RowC.own H.out.1⟩
      have K0 : ∀ W, CS w RC g BL g BL W → W.cell? ⟨w.heap.size, 0, none⟩ = some (.slice a n c) := fun W h => by rw [hRC] at h; exact (h.1.blkAt 0 rfl).cell 0
      have K1 : ∀ W, CS w RC g BL g BL W → W.cell? ⟨w.heap.size, 1, none⟩ = some (.string R.soft) := fun W h => by rw [hRC] at h; exact (h.1.blkAt 0 rfl).cell 1
      have K2 : ∀ W, CS w RC g BL g BL W → W.cell? ⟨w.heap.size, 2, none⟩ = some (.int .i64 R.al) := fun W h => by rw [hRC] at h; exact (h.1.blkAt 0 rfl).cell 2
      have K3 : ∀ W, CS w RC g BL g BL W → W.cell? ⟨w.heap.size, 3, none⟩ = some (.int .i64 R.ot) := fun W h => by rw [hRC] at h; exact (h.1.blkAt 0 rfl).cell 3
      have K4 : ∀ W, CS w RC g BL g BL W → W.cell? ⟨w.heap.size, 4, none⟩ = some (.int .i64 R.sk) := fun W h => by rw [hRC] at h; exact (h.1.blkAt 0 rfl).cell 4
      have K5 : ∀ W, CS w RC g BL g BL W → W.cell? ⟨w.heap.size, 5, none⟩ = some (.int .i64 R.ss) := fun W h => by rw [hRC] at h; exact (h.1.blkAt 0 rfl).cell 5
      have K6 : ∀ W, CS w RC g BL g BL W → W.cell? ⟨w.heap.size, 6, none⟩ = some (.int .i64 R.db) := fun W h => by rw [hRC] at h; exact (h.1.blkAt 0 rfl).cell 6
      have R1 : ∀ W, CS w RC g BL g BL W → W.cell? ⟨g, k, none⟩ = some (.int .i64 (f0 : Int)) := fun W h => h.2.1.2 k f0 HGL.out
      have HRC := Lib.hid hRC
      clear hRC RW
      refine wp_region_held_drew (S := CS w RC g BL g BL) (by kernel_rfl) hS (fun hHeld => ?_)
      clear hS
      refine wpAnyH_take (i := 0) (v := ?_) rfl (by kernel_rfl) (by kernel_rfl) (by kernel_rfl) (fun _ _ _ h => h) (Or.inl ⟨by rfl, ?h0⟩) hHeld ?_
      case h0 =>
        intro w' hSw
        (try dsimp only at hSw)
        go_simp
        (try with_reducible rfl)
      (try simp only [Act.put]); (try simp only [List.setIfInBounds_toArray]); (try simp only [List.set_cons_succ]); (try simp only [List.set_cons_zero])
      refine wpAnyH_take (i := 1) (v := ?_) rfl (by kernel_rfl) (by kernel_rfl) (by kernel_rfl) (fun _ _ _ h => h) (Or.inl ⟨by rfl, ?h1⟩) hHeld ?_
      case h1 =>
        intro w' hSw
        (try dsimp only at hSw)
        go_simp
        (try with_reducible rfl)
      (try simp only [Act.put]); (try simp only [List.setIfInBounds_toArray]); (try simp only [List.set_cons_succ]); (try simp only [List.set_cons_zero])
      refine wpAnyH_take (i := 2) (v := ?_) rfl (by kernel_rfl) (by kernel_rfl) (by kernel_rfl) (fun _ _ _ h => h) (Or.inl ⟨by rfl, ?h2⟩) hHeld ?_
      case h2 =>
        intro w' hSw
        (try dsimp only at hSw)
        go_simp
        (try with_reducible rfl)
      (try simp only [Act.put]); (try simp only [List.setIfInBounds_toArray]); (try simp only [List.set_cons_succ]); (try simp only [List.set_cons_zero])
      refine wpAnyH_take (i := 3) (v := ?_) rfl (by kernel_rfl) (by kernel_rfl) (by kernel_rfl) (fun _ _ _ h => h) (Or.inl ⟨by rfl, ?h3⟩) hHeld ?_
      case h3 =>
        intro w' hSw
        (try dsimp only at hSw)
        go_simp
        (try with_reducible rfl)
      (try simp only [Act.put]); (try simp only [List.setIfInBounds_toArray]); (try simp only [List.set_cons_succ]); (try simp only [List.set_cons_zero])
      refine wpAnyH_take (i := 4) (v := ?_) rfl (by kernel_rfl) (by kernel_rfl) (by kernel_rfl) (fun _ _ _ h => h) (Or.inl ⟨by rfl, ?h4⟩) hHeld ?_
      case h4 =>
        intro w' hSw
        (try dsimp only at hSw)
        go_simp
        (try with_reducible rfl)
      (try simp only [Act.put]); (try simp only [List.setIfInBounds_toArray]); (try simp only [List.set_cons_succ]); (try simp only [List.set_cons_zero])
      refine wpAnyH_take (i := 5) (v := ?_) rfl (by kernel_rfl) (by kernel_rfl) (by kernel_rfl) (fun _ _ _ h => h) (Or.inl ⟨by rfl, ?h5⟩) hHeld ?_
      case h5 =>
        intro w' hSw
        (try dsimp only at hSw)
        go_simp
        (try with_reducible rfl)
      (try simp only [Act.put]); (try simp only [List.setIfInBounds_toArray]); (try simp only [List.set_cons_succ]); (try simp only [List.set_cons_zero])
      refine wpAnyH_take (i := 6) (v := ?_) rfl (by kernel_rfl) (by kernel_rfl) (by kernel_rfl) (fun _ _ _ h => h) (Or.inl ⟨by rfl, ?h6⟩) hHeld ?_
      case h6 =>
        intro w' hSw
        (try dsimp only at hSw)
        go_simp
        (try with_reducible rfl)
      (try simp only [Act.put]); (try simp only [List.setIfInBounds_toArray]); (try simp only [List.set_cons_succ]); (try simp only [List.set_cons_zero])
      refine wpAnyH_take (i := 7) (v := ?_) rfl (by kernel_rfl) (by kernel_rfl) (by kernel_rfl) (fun _ _ _ h => h) (Or.inl ⟨by rfl, ?h7⟩) hHeld ?_
      case h7 =>
        intro w' hSw
        (try dsimp only at hSw)
        go_simp
        (try with_reducible rfl)
      (try simp only [Act.put]); (try simp only [List.setIfInBounds_toArray]); (try simp only [List.set_cons_succ]); (try simp only [List.set_cons_zero])
      refine wpAnyH_ready (rs := [8]) (by kernel_rfl) (by simp) ?_
      refine AllReadyH.cons rfl (fun K hK => ?_) (AllReadyH.nil)
      go_simp
      (refine (CC.out _).mono ?_)
      rintro e w3 ⟨rfl, hb⟩
      have HO3 := Lib.hid (row_below H.out.1 ((Below.refl _ wr).drew.trans hb))
      have hS2 := hHeld.below hb
      clear hb
      refine hK.out _ _ hS2 (fun hHeld => ?_)
      clear hK K hS2
      (try simp only [Act.put]); (try simp only [List.setIfInBounds_toArray]); (try simp only [List.set_cons_succ]); (try simp only [List.set_cons_zero])
      refine wpAnyH_take (i := 9) (v := ?_) rfl (by kernel_rfl) (by kernel_rfl) (by kernel_rfl) (fun _ _ _ h => h) (Or.inl ⟨by rfl, ?h9⟩) hHeld ?_
      case h9 =>
        intro w' hSw
        (try dsimp only at hSw)
        go_simp
        (try with_reducible rfl)
      (try simp only [Act.put]); (try simp only [List.setIfInBounds_toArray]); (try simp only [List.set_cons_succ]); (try simp only [List.set_cons_zero])
      refine wpAnyH_ready (rs := [10]) (by kernel_rfl) (by simp) ?_
      refine AllReadyH.cons rfl (fun K hK => ?_) (AllReadyH.nil)
      go_simp
      have HNB := Lib.hid (Blk.new w3 #[.int .i64 (f1 : Int)] 3)
      refine hK.out _ _ (hHeld.alloc _) (fun hHeld => ?_)
      clear hK K
      (try simp only [Act.put]); (try simp only [List.setIfInBounds_toArray]); (try simp only [List.set_cons_succ]); (try simp only [List.set_cons_zero])
      refine wpAnyH_ready (rs := [11]) (by kernel_rfl) (by simp) ?_
      refine AllReadyH.cons rfl (fun K hK => ?_) (AllReadyH.nil)
      refine step_append_keep rfl _ _ 41 rfl (w.heap.size + 1) 3 i0 _ 8 Tryz.underlying41 HI.out.1 HI.out.2.1 HI.out.2.2.1 HI.out.2.2.2 rfl g (k + 1) cap _ rfl (HO3.out.alloc _) w3.heap.size (.int .i64 (f1 : Int)) rfl (HNB.out.cell 0) rfl (by unfold maxLen; omega) (by omega) (by have h1 := HO3.out.lt g rfl; simp; omega) ?_
      intro g' cap' w5 hown hgr hsame
      have HO5 := Lib.hid hown
      have hS5 : CS w RC g BL g BL w5 := hHeld.app1 hgr (by have := (HO3.out.lt g rfl).1; omega) (by rw [HBL.out, rowL_len]; exact Nat.le_refl _) hsame
      clear hown hgr hsame
      refine hK.out _ _ hS5 (fun hHeld => ?_)
      clear hK K hS5
      (try simp only [Act.put]); (try simp only [List.setIfInBounds_toArray]); (try simp only [List.set_cons_succ]); (try simp only [List.set_cons_zero])
      refine wpAnyH_ready (rs := [12]) (by kernel_rfl) (by simp) ?_
      refine AllReadyH.cons rfl (fun K hK => ?_) (AllReadyH.nil)
      go_simp
      refine hK.out _ _ hHeld (fun hHeld => ?_)
      clear hK K
      (try simp only [Act.put]); (try simp only [List.setIfInBounds_toArray]); (try simp only [List.set_cons_succ]); (try simp only [List.set_cons_zero])
      refine wpAnyH_done (by kernel_rfl) ?_ _
      have hks5 := hHeld.1
      rw [HRC.out] at hks5
      clear hHeld K0 K1 K2 K3 K4 K5 K6 R1 HRC
      have S5 := Lib.hid hks5
      have HO5' := Lib.hid (show w5.ownsRow (w.heap.size + 1) 3 1 (.slice (some ⟨g', 0, none⟩) (k + 1 + 1) cap') (k + 1 + 1) (natsV (rowL (FR R x y 0) (k + 1 + 1))) by rw [← rowL_snoc, HFS.out, ← HF1.out]; exact HO5.out)
      clear hks5 HO5
      go_wp2_with fail
      go_roundw
      case rel => exact ⟨k + 1, g', cap', by omega, by go_num, rfl, HO5'.out, S5.out⟩
      case measure => simp [intOf]; omega
    · have hk2 : k = y.size := by omega
      have S1 := Lib.hid (show wr.ownsRow (w.heap.size + 1) 3 1 (.slice (some ⟨g, 0, none⟩) (y.size + 1) cap) (y.size + 1) (natsV (rowL (FR R x y 0) (y.size + 1))) ∧ KS w [(w.heap.size, rulesC a n c R.soft R.al R.ot R.sk R.ss R.db, 24)] wr from by have h := H.out; rw [hk2] at h; exact h)
      subst hk2
      clear H
      go_wp2_with fail
      go_loopw [7, 9] (fun y7 y9 wr => ∃ (i g cap : Nat), i ≤ x.size ∧ y9 = .int .i64 (i : Int) ∧ y7 = .slice (some ⟨g, 0, none⟩) (y.size + 1) cap ∧ Hid (wr.ownsRow (w.heap.size + 1) 3 1 (.slice (some ⟨g, 0, none⟩) (y.size + 1) cap) (y.size + 1) (natsV (rowL (FR R x y i) (y.size + 1))) ∧ KS w [(w.heap.size, rulesC a n c R.soft R.al R.ot R.sk R.ss R.db, 24)] wr)) (fun _ y9 _ => x.size - (intOf y9).toNat)
      case atStart => exact ⟨0, g, cap, Nat.zero_le _, rfl, rfl, S1.out⟩
      case round =>
        clear S1
        obtain ⟨i, g, cap, hi, rfl, rfl, H⟩ := hrel
        by_cases hix : i < x.size
        · have CC := Lib.hid (fun W => CX.out W i hix)
          have hfl := HFL.out i 0
          have hsl := HSX.out i
          have hfs := FR_s0 R x y i
          have HFS := Lib.hid hfs
          have HBG := Lib.hid (H.out.1.lt g rfl)
          obtain ⟨BL, hBL⟩ : ∃ l, l = rowL (FR R x y i) (y.size + 1) := ⟨_, rfl⟩
          have hgl : BL[0]? = some (FR R x y i 0) := by rw [hBL]; exact rowL_get _ (by omega)
          have HBL := Lib.hid hBL
          have HGL := Lib.hid hgl
          clear hfs hBL hgl
          generalize FR R x y i 0 = f0 at *
          obtain ⟨sy, hsy⟩ : ∃ s, s = SAR R x i := ⟨_, rfl⟩
          rw [← hsy] at CC HFS hsl
          obtain ⟨f1, hf1⟩ : ∃ f1, f1 = f0 + sy := ⟨_, rfl⟩
          have HF1 := Lib.hid hf1
          have ea : IntKind.i64.wrap (f1 : Int) = (f1 : Int) := IntWalk.i64_in _ (by omega)
          have eb : (f0 : Int) + (sy : Int) = (f1 : Int) := by omega
          have pk0 : (0 : Int) < (y.size : Int) + 1 := by omega
          clear hf1 hfl hsl hsy
          go_wp2_with fail
          obtain ⟨RC, hRC⟩ : ∃ r, r = rulesC a n c R.soft R.al R.ot R.sk R.ss R.db := ⟨_, rfl⟩
          have hS : CS w RC g BL g BL wr.drew := by rw [hRC, HBL.out]; exact CS.drew ⟨H.out.2, RowC.own H.out.1, RowC.own H.out.1⟩
          have K0 : ∀ W, CS w RC g BL g BL W → W.cell? ⟨w.heap.size, 0, none⟩ = some (.slice a n c) := fun W h => by rw [hRC] at h; exact (h.1.blkAt 0 rfl).cell 0
          have K1 : ∀ W, CS w RC g BL g BL W → W.cell? ⟨w.heap.size, 1, none⟩ = some (.string R.soft) := fun W h => by rw [hRC] at h; exact (h.1.blkAt 0 rfl).cell 1
          have K2 : ∀ W, CS w RC g BL g BL W → W.cell? ⟨w.heap.size, 2, none⟩ = some (.int .i64 R.al) := fun W h => by rw [hRC] at h; exact (h.1.blkAt 0 rfl).cell 2
          have K3 : ∀ W, CS w RC g BL g BL W → W.cell? ⟨w.heap.size, 3, none⟩ = some (.int .i64 R.ot) := fun W h => by rw [hRC] at h; exact (h.1.blkAt 0 rfl).cell 3
          have K4 : ∀ W, CS w RC g BL g BL W → W.cell? ⟨w.heap.size, 4, none⟩ = some (.int .i64 R.sk) := fun W h => by rw [hRC] at h; exact (h.1.blkAt 0 rfl).cell 4
          have K5 : ∀ W, CS w RC g BL g BL W → W.cell? ⟨w.heap.size, 5, none⟩ = some (.int .i64 R.ss) := fun W h => by rw [hRC] at h; exact (h.1.blkAt 0 rfl).cell 5
          have K6 : ∀ W, CS w RC g BL g BL W → W.cell? ⟨w.heap.size, 6, none⟩ = some (.int .i64 R.db) := fun W h => by rw [hRC] at h; exact (h.1.blkAt 0 rfl).cell 6
          have R1 : ∀ W, CS w RC g BL g BL W → W.cell? ⟨g, 0, none⟩ = some (.int .i64 (f0 : Int)) := fun W h => h.2.1.2 0 f0 HGL.out
          have HRC := Lib.hid hRC
          clear hRC
          refine wp_region_held_drew (S := CS w RC g BL g BL) (by kernel_rfl) hS (fun hHeld => ?_)
          clear hS
          refine wpAnyH_take (i := 0) (v := ?_) rfl (by kernel_rfl) (by kernel_rfl) (by kernel_rfl) (fun _ _ _ h => h) (Or.inl ⟨by rfl, ?h0⟩) hHeld ?_
          case h0 =>
            intro w' hSw
            (try dsimp only at hSw)
            go_simp
            (try with_reducible rfl)
          (try simp only [Act.put]); (try simp only [List.setIfInBounds_toArray]); (try simp only [List.set_cons_succ]); (try simp only [List.set_cons_zero])
          refine wpAnyH_take (i := 1) (v := ?_) rfl (by kernel_rfl) (by kernel_rfl) (by kernel_rfl) (fun _ _ _ h => h) (Or.inl ⟨by rfl, ?h1⟩) hHeld ?_
          case h1 =>
            intro w' hSw
            (try dsimp only at hSw)
            go_simp
            (try with_reducible rfl)
          (try simp only [Act.put]); (try simp only [List.setIfInBounds_toArray]); (try simp only [List.set_cons_succ]); (try simp only [List.set_cons_zero])
          refine wpAnyH_take (i := 2) (v := ?_) rfl (by kernel_rfl) (by kernel_rfl) (by kernel_rfl) (fun _ _ _ h => h) (Or.inl ⟨by rfl, ?h2⟩) hHeld ?_
          case h2 =>
            intro w' hSw
            (try dsimp only at hSw)
            go_simp
            (try with_reducible rfl)
          (try simp only [Act.put]); (try simp only [List.setIfInBounds_toArray]); (try simp only [List.set_cons_succ]); (try simp only [List.set_cons_zero])
          refine wpAnyH_take (i := 3) (v := ?_) rfl (by kernel_rfl) (by kernel_rfl) (by kernel_rfl) (fun _ _ _ h => h) (Or.inl ⟨by rfl, ?h3⟩) hHeld ?_
          case h3 =>
            intro w' hSw
            (try dsimp only at hSw)
            go_simp
            (try with_reducible rfl)
          (try simp only [Act.put]); (try simp only [List.setIfInBounds_toArray]); (try simp only [List.set_cons_succ]); (try simp only [List.set_cons_zero])
          refine wpAnyH_take (i := 4) (v := ?_) rfl (by kernel_rfl) (by kernel_rfl) (by kernel_rfl) (fun _ _ _ h => h) (Or.inl ⟨by rfl, ?h4⟩) hHeld ?_
          case h4 =>
            intro w' hSw
            (try dsimp only at hSw)
            go_simp
            (try with_reducible rfl)
          (try simp only [Act.put]); (try simp only [List.setIfInBounds_toArray]); (try simp only [List.set_cons_succ]); (try simp only [List.set_cons_zero])
          refine wpAnyH_take (i := 5) (v := ?_) rfl (by kernel_rfl) (by kernel_rfl) (by kernel_rfl) (fun _ _ _ h => h) (Or.inl ⟨by rfl, ?h5⟩) hHeld ?_
          case h5 =>
            intro w' hSw
            (try dsimp only at hSw)
            go_simp
            (try with_reducible rfl)
          (try simp only [Act.put]); (try simp only [List.setIfInBounds_toArray]); (try simp only [List.set_cons_succ]); (try simp only [List.set_cons_zero])
          refine wpAnyH_ready (rs := [6]) (by kernel_rfl) (by simp) ?_
          refine AllReadyH.cons rfl (fun K hK => ?_) (AllReadyH.nil)
          go_simp
          (refine (CC.out _).mono ?_)
          rintro e w3 ⟨rfl, hb⟩
          have HGW := Lib.hid (Nat.lt_of_lt_of_le HBG.out.2 hb.size)
          have hS2 := hHeld.below hb
          clear hb
          refine hK.out _ _ hS2 (fun hHeld => ?_)
          clear hK K hS2
          (try simp only [Act.put]); (try simp only [List.setIfInBounds_toArray]); (try simp only [List.set_cons_succ]); (try simp only [List.set_cons_zero])
          refine wpAnyH_take (i := 7) (v := ?_) rfl (by kernel_rfl) (by kernel_rfl) (by kernel_rfl) (fun _ _ _ h => h) (Or.inl ⟨by rfl, ?h7⟩) hHeld ?_
          case h7 =>
            intro w' hSw
            (try dsimp only at hSw)
            go_simp
            (try with_reducible rfl)
          (try simp only [Act.put]); (try simp only [List.setIfInBounds_toArray]); (try simp only [List.set_cons_succ]); (try simp only [List.set_cons_zero])
          refine wpAnyH_ready (rs := [8]) (by kernel_rfl) (by simp) ?_
          refine AllReadyH.cons rfl (fun K hK => ?_) (AllReadyH.nil)
          go_simp
          have HO9 := Lib.hid (World.ownsRow_lit (base := w3.heap.size) (e := 3) (size := 1) w3 #[.int .i64 (f1 : Int)] 1 (Nat.le_refl _) (by unfold maxLen; omega) rfl)
          refine hK.out _ _ (hHeld.alloc _) (fun hHeld => ?_)
          clear hK K
          (try simp only [Act.put]); (try simp only [List.setIfInBounds_toArray]); (try simp only [List.set_cons_succ]); (try simp only [List.set_cons_zero])
          refine wpAnyH_ready (rs := [9]) (by kernel_rfl) (by simp) ?_
          refine AllReadyH.cons rfl (fun K hK => ?_) (AllReadyH.nil)
          go_simp
          refine hK.out _ _ hHeld (fun hHeld => ?_)
          clear hK K
          (try simp only [Act.put]); (try simp only [List.setIfInBounds_toArray]); (try simp only [List.set_cons_succ]); (try simp only [List.set_cons_zero])
          refine wpAnyH_done (by kernel_rfl) ?_ _
          have hks9 := hHeld.1
          have hrc9 := hHeld.2.1
          have hgb9 := HGW.out
          rw [HRC.out] at hks9
          clear hHeld K0 K1 K2 K3 K4 K5 K6 R1 HRC
          have hbn : w3.heap.size < (w3.alloc (.cells #[.int .i64 (f1 : Int)] 3)).heap.size := by simp
          have S2 := Lib.hid (show (w3.alloc (.cells #[.int .i64 (f1 : Int)] 3)).ownsRow w3.heap.size 3 1 (.slice (some ⟨w3.heap.size, 0, none⟩) (0 + 1) 1) (0 + 1) (natsV (rowL (FR R x y (i + 1)) (0 + 1))) ∧ (KS w [(w.heap.size, rulesC a n c R.soft R.al R.ot R.sk R.ss R.db, 24)] (w3.alloc (.cells #[.int .i64 (f1 : Int)] 3)) ∧ RowC (w3.alloc (.cells #[.int .i64 (f1 : Int)] 3)) g (rowL (FR R x y i) (y.size + 1))) from ⟨by rw [show natsV (rowL (FR R x y (i + 1)) (0 + 1)) = [.int .i64 (f1 : Int)] by simp [natsV, rowL, HFS.out, HF1.out]]; exact HO9.out, hks9, by rw [← HBL.out]; exact hrc9⟩)
          have HBN := Lib.hid hgb9
          have HBW := Lib.hid (show w.heap.size + 1 ≤ w3.heap.size by have h := hks9.2.size; have h2 := HBG.out.1; omega)
          obtain ⟨Bn, hBn⟩ : ∃ B, B = w3.heap.size := ⟨_, rfl⟩
          rw [← hBn] at S2 HBN HBW ⊢
          clear hBn
          clear hks9 hrc9 hgb9 hbn HO9 H ea eb
          go_wp2_with fail
          go_loopw [10, 11] (fun y10 y11 wr => ∃ (j g2 cap2 : Nat), j ≤ y.size ∧ y11 = .int .i64 (j : Int) ∧ y10 = .slice (some ⟨g2, 0, none⟩) (j + 1) cap2 ∧ Hid (wr.ownsRow Bn 3 1 (.slice (some ⟨g2, 0, none⟩) (j + 1) cap2) (j + 1) (natsV (rowL (FR R x y (i + 1)) (j + 1))) ∧ KS w [(w.heap.size, rulesC a n c R.soft R.al R.ot R.sk R.ss R.db, 24)] wr ∧ RowC wr g (rowL (FR R x y i) (y.size + 1)))) (fun _ y11 _ => y.size - (intOf y11).toNat)
          case atStart => exact ⟨0, Bn, 1, Nat.zero_le _, rfl, rfl, S2.out⟩
          case round =>
            clear S2
            obtain ⟨j, g2, cap2, hj, rfl, rfl, H⟩ := hrel
            by_cases hjy : j < y.size
            · have CCX := Lib.hid (fun W => CX.out W i hix)
              have CCY := Lib.hid (fun W => CY.out W j hjy)
              have CCW := Lib.hid (fun W (hW : Below w.heap.size w W) => CW.out W x[i] y[j] hW)
              have b00 := HFL.out i j
              have b01 := HFL.out i (j + 1)
              have b10 := HFL.out (i + 1) j
              have bsx := HSX.out i
              have bsy := HSY.out j
              have bsw := HSW.out i j
              have hss := FR_ss R x y i j
              have hsw : swN (sndR R) R.al.toNat R.ot.toNat x[i] y[j] = SWR R x y i j := by unfold SWR SW; rw [getD_size x i hix, getD_size y j hjy]
              rw [hsw] at CCW
              have HB2 := Lib.hid (H.out.1.lt g2 rfl)
              obtain ⟨BL, hBL⟩ : ∃ l, l = rowL (FR R x y i) (y.size + 1) := ⟨_, rfl⟩
              obtain ⟨BM, hBM⟩ : ∃ l, l = rowL (FR R x y (i + 1)) (j + 1) := ⟨_, rfl⟩
              have hg0 : BL[j]? = some (FR R x y i j) := by rw [hBL]; exact rowL_get _ (by omega)
              have hg1 : BL[j + 1]? = some (FR R x y i (j + 1)) := by rw [hBL]; exact rowL_get _ (by omega)
              have hg2 : BM[j]? = some (FR R x y (i + 1) j) := by rw [hBM]; exact rowL_get _ (by omega)
              have HBL := Lib.hid hBL
              have HBM := Lib.hid hBM
              have HG0 := Lib.hid hg0
              have HG1 := Lib.hid hg1
              have HG2 := Lib.hid hg2
              have HSS := Lib.hid hss
              clear hBL hBM hg0 hg1 hg2 hss hsw
              generalize FR R x y i j = f00 at *
              generalize FR R x y i (j + 1) = f01 at *
              generalize FR R x y (i + 1) j = f10 at *
              generalize SWR R x y i j = sw at *
              obtain ⟨sx, hsx⟩ : ∃ s, s = SAR R x i := ⟨_, rfl⟩
              obtain ⟨sy, hsy⟩ : ∃ s, s = SAR R y j := ⟨_, rfl⟩
              rw [← hsx] at CCX HSS bsx
              rw [← hsy] at CCY HSS bsy
              obtain ⟨u1, hu1⟩ : ∃ u, u = f00 + sw := ⟨_, rfl⟩
              obtain ⟨u2, hu2⟩ : ∃ u, u = f01 + sx := ⟨_, rfl⟩
              obtain ⟨u3, hu3⟩ : ∃ u, u = f10 + sy := ⟨_, rfl⟩
              obtain ⟨mn, hmn⟩ : ∃ u, u = min u1 (min u2 u3) := ⟨_, rfl⟩
              have HMN := Lib.hid (show FR R x y (i + 1) (j + 1) = mn by rw [HSS.out, hmn, hu1, hu2, hu3])
              have e1 : (f00 : Int) + (sw : Int) = (u1 : Int) := by omega
              have e2 : (f01 : Int) + (sx : Int) = (u2 : Int) := by omega
              have e3 : (f10 : Int) + (sy : Int) = (u3 : Int) := by omega
              have d1 : IntKind.i64.wrap (u1 : Int) = (u1 : Int) := IntWalk.i64_in _ (by omega)
              have d2 : IntKind.i64.wrap (u2 : Int) = (u2 : Int) := IntWalk.i64_in _ (by omega)
              have d3 : IntKind.i64.wrap (u3 : Int) = (u3 : Int) := IntWalk.i64_in _ (by omega)
              have HM3 := Lib.hid (show (if (u3 : Int) < (if u2 < u1 then (u2 : Int) else (u1 : Int)) then (u3 : Int) else if u2 < u1 then (u2 : Int) else (u1 : Int)) = (mn : Int) by repeat' split <;> omega)
              have ej : IntKind.i64.wrap ((j : Int) + 1) = (j : Int) + 1 := IntWalk.i64_in _ (by omega)
              have pj0 : (0 : Int) ≤ (j : Int) := by omega
              have pj1 : (j : Int) < (y.size : Int) + 1 := by omega
              have pj2 : (0 : Int) ≤ (j : Int) + 1 := by omega
              have pj3 : (j : Int) + 1 < (y.size : Int) + 1 := by omega
              have pj4 : ((j : Int) + 1).toNat = j + 1 := by omega
              have pj5 : (j : Int) < (j : Int) + 1 := by omega
              have pi0 : (0 : Int) ≤ (i : Int) := by omega
              have pi1 : (i : Int) < (x.size : Int) := by omega
              have pj6 : (j : Int) < (y.size : Int) := by omega
              clear hsx hsy hu1 hu2 hu3 hmn b00 b01 b10 bsx bsy bsw
              go_wp2_with fail
              obtain ⟨RC, hRC⟩ : ∃ r, r = rulesC a n c R.soft R.al R.ot R.sk R.ss R.db := ⟨_, rfl⟩
              have hS : CS w RC g BL g2 BM wr.drew := by rw [hRC, HBL.out, HBM.out]; exact CS.drew ⟨H.out.2.1, H.out.2.2, RowC.own H.out.1⟩
              have K0 : ∀ W, CS w RC g BL g2 BM W → W.cell? ⟨w.heap.size, 0, none⟩ = some (.slice a n c) := fun W h => by rw [hRC] at h; exact (h.1.blkAt 0 rfl).cell 0
              have K1 : ∀ W, CS w RC g BL g2 BM W → W.cell? ⟨w.heap.size, 1, none⟩ = some (.string R.soft) := fun W h => by rw [hRC] at h; exact (h.1.blkAt 0 rfl).cell 1
              have K2 : ∀ W, CS w RC g BL g2 BM W → W.cell? ⟨w.heap.size, 2, none⟩ = some (.int .i64 R.al) := fun W h => by rw [hRC] at h; exact (h.1.blkAt 0 rfl).cell 2
              have K3 : ∀ W, CS w RC g BL g2 BM W → W.cell? ⟨w.heap.size, 3, none⟩ = some (.int .i64 R.ot) := fun W h => by rw [hRC] at h; exact (h.1.blkAt 0 rfl).cell 3
              have K4 : ∀ W, CS w RC g BL g2 BM W → W.cell? ⟨w.heap.size, 4, none⟩ = some (.int .i64 R.sk) := fun W h => by rw [hRC] at h; exact (h.1.blkAt 0 rfl).cell 4
              have K5 : ∀ W, CS w RC g BL g2 BM W → W.cell? ⟨w.heap.size, 5, none⟩ = some (.int .i64 R.ss) := fun W h => by rw [hRC] at h; exact (h.1.blkAt 0 rfl).cell 5
              have K6 : ∀ W, CS w RC g BL g2 BM W → W.cell? ⟨w.heap.size, 6, none⟩ = some (.int .i64 R.db) := fun W h => by rw [hRC] at h; exact (h.1.blkAt 0 rfl).cell 6
              have R1 : ∀ W, CS w RC g BL g2 BM W → W.cell? ⟨g, j, none⟩ = some (.int .i64 (f00 : Int)) := fun W h => h.2.1.2 j f00 HG0.out
              have R2 : ∀ W, CS w RC g BL g2 BM W → W.cell? ⟨g, j + 1, none⟩ = some (.int .i64 (f01 : Int)) := fun W h => h.2.1.2 (j + 1) f01 HG1.out
              have R3 : ∀ W, CS w RC g BL g2 BM W → W.cell? ⟨g2, j, none⟩ = some (.int .i64 (f10 : Int)) := fun W h => h.2.2.2 j f10 HG2.out
              have HRC := Lib.hid hRC
              clear hRC
              refine wp_region_held_drew (S := CS w RC g BL g2 BM) (by kernel_rfl) hS (fun hHeld => ?_)
              clear hS
              refine wpAnyH_take (i := 0) (v := ?_) rfl (by kernel_rfl) (by kernel_rfl) (by kernel_rfl) (fun _ _ _ h => h) (Or.inl ⟨by rfl, ?h0⟩) hHeld ?_
              case h0 =>
                intro w' hSw
                (try dsimp only at hSw)
                go_simp
                (try with_reducible rfl)
              (try simp only [Act.put]); (try simp only [List.setIfInBounds_toArray]); (try simp only [List.set_cons_succ]); (try simp only [List.set_cons_zero])
              refine wpAnyH_take (i := 1) (v := ?_) rfl (by kernel_rfl) (by kernel_rfl) (by kernel_rfl) (fun _ _ _ h => h) (Or.inl ⟨by rfl, ?h1⟩) hHeld ?_
              case h1 =>
                intro w' hSw
                (try dsimp only at hSw)
                go_simp
                (try with_reducible rfl)
              (try simp only [Act.put]); (try simp only [List.setIfInBounds_toArray]); (try simp only [List.set_cons_succ]); (try simp only [List.set_cons_zero])
              refine wpAnyH_take (i := 2) (v := ?_) rfl (by kernel_rfl) (by kernel_rfl) (by kernel_rfl) (fun _ _ _ h => h) (Or.inl ⟨by rfl, ?h2⟩) hHeld ?_
              case h2 =>
                intro w' hSw
                (try dsimp only at hSw)
                go_simp
                (try with_reducible rfl)
              (try simp only [Act.put]); (try simp only [List.setIfInBounds_toArray]); (try simp only [List.set_cons_succ]); (try simp only [List.set_cons_zero])
              refine wpAnyH_take (i := 3) (v := ?_) rfl (by kernel_rfl) (by kernel_rfl) (by kernel_rfl) (fun _ _ _ h => h) (Or.inl ⟨by rfl, ?h3⟩) hHeld ?_
              case h3 =>
                intro w' hSw
                (try dsimp only at hSw)
                go_simp
                (try with_reducible rfl)
              (try simp only [Act.put]); (try simp only [List.setIfInBounds_toArray]); (try simp only [List.set_cons_succ]); (try simp only [List.set_cons_zero])
              refine wpAnyH_take (i := 4) (v := ?_) rfl (by kernel_rfl) (by kernel_rfl) (by kernel_rfl) (fun _ _ _ h => h) (Or.inl ⟨by rfl, ?h4⟩) hHeld ?_
              case h4 =>
                intro w' hSw
                (try dsimp only at hSw)
                go_simp
                (try with_reducible rfl)
              (try simp only [Act.put]); (try simp only [List.setIfInBounds_toArray]); (try simp only [List.set_cons_succ]); (try simp only [List.set_cons_zero])
              refine wpAnyH_take (i := 5) (v := ?_) rfl (by kernel_rfl) (by kernel_rfl) (by kernel_rfl) (fun _ _ _ h => h) (Or.inl ⟨by rfl, ?h5⟩) hHeld ?_
              case h5 =>
                intro w' hSw
                (try dsimp only at hSw)
                go_simp
                (try with_reducible rfl)
              (try simp only [Act.put]); (try simp only [List.setIfInBounds_toArray]); (try simp only [List.set_cons_succ]); (try simp only [List.set_cons_zero])
              refine wpAnyH_take (i := 6) (v := ?_) rfl (by kernel_rfl) (by kernel_rfl) (by kernel_rfl) (fun _ _ _ h => h) (Or.inl ⟨by rfl, ?h6⟩) hHeld ?_
              case h6 =>
                intro w' hSw
                (try dsimp only at hSw)
                go_simp
                (try with_reducible rfl)
              (try simp only [Act.put]); (try simp only [List.setIfInBounds_toArray]); (try simp only [List.set_cons_succ]); (try simp only [List.set_cons_zero])
              refine wpAnyH_take (i := 7) (v := ?_) rfl (by kernel_rfl) (by kernel_rfl) (by kernel_rfl) (fun _ _ _ h => h) (Or.inl ⟨by rfl, ?h7⟩) hHeld ?_
              case h7 =>
                intro w' hSw
                (try dsimp only at hSw)
                go_simp
                (try with_reducible rfl)
              (try simp only [Act.put]); (try simp only [List.setIfInBounds_toArray]); (try simp only [List.set_cons_succ]); (try simp only [List.set_cons_zero])
              refine wpAnyH_take (i := 8) (v := ?_) rfl (by kernel_rfl) (by kernel_rfl) (by kernel_rfl) (fun _ _ _ h => h) (Or.inl ⟨by rfl, ?h8⟩) hHeld ?_
              case h8 =>
                intro w' hSw
                (try dsimp only at hSw)
                go_simp
                (try with_reducible rfl)
              (try simp only [Act.put]); (try simp only [List.setIfInBounds_toArray]); (try simp only [List.set_cons_succ]); (try simp only [List.set_cons_zero])
              refine wpAnyH_take (i := 9) (v := ?_) rfl (by kernel_rfl) (by kernel_rfl) (by kernel_rfl) (fun _ _ _ h => h) (Or.inl ⟨by rfl, ?h9⟩) hHeld ?_
              case h9 =>
                intro w' hSw
                (try dsimp only at hSw)
                go_simp
                (try with_reducible rfl)
              (try simp only [Act.put]); (try simp only [List.setIfInBounds_toArray]); (try simp only [List.set_cons_succ]); (try simp only [List.set_cons_zero])
              refine wpAnyH_take (i := 10) (v := ?_) rfl (by kernel_rfl) (by kernel_rfl) (by kernel_rfl) (fun _ _ _ h => h) (Or.inl ⟨by rfl, ?h10⟩) hHeld ?_
              case h10 =>
                intro w' hSw
                (try dsimp only at hSw)
                go_simp
                (try with_reducible rfl)
              (try simp only [Act.put]); (try simp only [List.setIfInBounds_toArray]); (try simp only [List.set_cons_succ]); (try simp only [List.set_cons_zero])
              refine wpAnyH_take (i := 11) (v := ?_) rfl (by kernel_rfl) (by kernel_rfl) (by kernel_rfl) (fun _ _ _ h => h) (Or.inl ⟨by rfl, ?h11⟩) hHeld ?_
              case h11 =>
                intro w' hSw
                (try dsimp only at hSw)
                go_simp
                (try with_reducible rfl)
              (try simp only [Act.put]); (try simp only [List.setIfInBounds_toArray]); (try simp only [List.set_cons_succ]); (try simp only [List.set_cons_zero])
              refine wpAnyH_take (i := 14) (v := ?_) rfl (by kernel_rfl) (by kernel_rfl) (by kernel_rfl) (fun _ _ _ h => h) (Or.inl ⟨by rfl, ?h14⟩) hHeld ?_
              case h14 =>
                intro w' hSw
                (try dsimp only at hSw)
                go_simp
                (try with_reducible rfl)
              (try simp only [Act.put]); (try simp only [List.setIfInBounds_toArray]); (try simp only [List.set_cons_succ]); (try simp only [List.set_cons_zero])
              refine wpAnyH_take (i := 15) (v := ?_) rfl (by kernel_rfl) (by kernel_rfl) (by kernel_rfl) (fun _ _ _ h => h) (Or.inl ⟨by rfl, ?h15⟩) hHeld ?_
              case h15 =>
                intro w' hSw
                (try dsimp only at hSw)
                go_simp
                (try with_reducible rfl)
              (try simp only [Act.put]); (try simp only [List.setIfInBounds_toArray]); (try simp only [List.set_cons_succ]); (try simp only [List.set_cons_zero])
              refine wpAnyH_take (i := 16) (v := ?_) rfl (by kernel_rfl) (by kernel_rfl) (by kernel_rfl) (fun _ _ _ h => h) (Or.inl ⟨by rfl, ?h16⟩) hHeld ?_
              case h16 =>
                intro w' hSw
                (try dsimp only at hSw)
                go_simp
                (try with_reducible rfl)
              (try simp only [Act.put]); (try simp only [List.setIfInBounds_toArray]); (try simp only [List.set_cons_succ]); (try simp only [List.set_cons_zero])
              refine wpAnyH_take (i := 17) (v := ?_) rfl (by kernel_rfl) (by kernel_rfl) (by kernel_rfl) (fun _ _ _ h => h) (Or.inl ⟨by rfl, ?h17⟩) hHeld ?_
              case h17 =>
                intro w' hSw
                (try dsimp only at hSw)
                go_simp
                (try with_reducible rfl)
              (try simp only [Act.put]); (try simp only [List.setIfInBounds_toArray]); (try simp only [List.set_cons_succ]); (try simp only [List.set_cons_zero])
              refine wpAnyH_take (i := 18) (v := ?_) rfl (by kernel_rfl) (by kernel_rfl) (by kernel_rfl) (fun _ _ _ h => h) (Or.inl ⟨by rfl, ?h18⟩) hHeld ?_
              case h18 =>
                intro w' hSw
                (try dsimp only at hSw)
                go_simp
                (try with_reducible rfl)
              (try simp only [Act.put]); (try simp only [List.setIfInBounds_toArray]); (try simp only [List.set_cons_succ]); (try simp only [List.set_cons_zero])
              refine wpAnyH_take (i := 19) (v := ?_) rfl (by kernel_rfl) (by kernel_rfl) (by kernel_rfl) (fun _ _ _ h => h) (Or.inl ⟨by rfl, ?h19⟩) hHeld ?_
              case h19 =>
                intro w' hSw
                (try dsimp only at hSw)
                go_simp
                (try with_reducible rfl)
              (try simp only [Act.put]); (try simp only [List.setIfInBounds_toArray]); (try simp only [List.set_cons_succ]); (try simp only [List.set_cons_zero])
              refine wpAnyH_take (i := 20) (v := ?_) rfl (by kernel_rfl) (by kernel_rfl) (by kernel_rfl) (fun _ _ _ h => h) (Or.inl ⟨by rfl, ?h20⟩) hHeld ?_
              case h20 =>
                intro w' hSw
                (try dsimp only at hSw)
                go_simp
                (try with_reducible rfl)
              (try simp only [Act.put]); (try simp only [List.setIfInBounds_toArray]); (try simp only [List.set_cons_succ]); (try simp only [List.set_cons_zero])
              refine wpAnyH_take (i := 21) (v := ?_) rfl (by kernel_rfl) (by kernel_rfl) (by kernel_rfl) (fun _ _ _ h => h) (Or.inl ⟨by rfl, ?h21⟩) hHeld ?_
              case h21 =>
                intro w' hSw
                (try dsimp only at hSw)
                go_simp
                (try with_reducible rfl)
              (try simp only [Act.put]); (try simp only [List.setIfInBounds_toArray]); (try simp only [List.set_cons_succ]); (try simp only [List.set_cons_zero])
              refine wpAnyH_take (i := 24) (v := ?_) rfl (by kernel_rfl) (by kernel_rfl) (by kernel_rfl) (fun _ _ _ h => h) (Or.inl ⟨by rfl, ?h24⟩) hHeld ?_
              case h24 =>
                intro w' hSw
                (try dsimp only at hSw)
                go_simp
                (try with_reducible rfl)
              (try simp only [Act.put]); (try simp only [List.setIfInBounds_toArray]); (try simp only [List.set_cons_succ]); (try simp only [List.set_cons_zero])
              refine wpAnyH_take (i := 25) (v := ?_) rfl (by kernel_rfl) (by kernel_rfl) (by kernel_rfl) (fun _ _ _ h => h) (Or.inl ⟨by rfl, ?h25⟩) hHeld ?_
              case h25 =>
                intro w' hSw
                (try dsimp only at hSw)
                go_simp
                (try with_reducible rfl)
              (try simp only [Act.put]); (try simp only [List.setIfInBounds_toArray]); (try simp only [List.set_cons_succ]); (try simp only [List.set_cons_zero])
              refine wpAnyH_take (i := 26) (v := ?_) rfl (by kernel_rfl) (by kernel_rfl) (by kernel_rfl) (fun _ _ _ h => h) (Or.inl ⟨by rfl, ?h26⟩) hHeld ?_
              case h26 =>
                intro w' hSw
                (try dsimp only at hSw)
                go_simp
                (try with_reducible rfl)
              (try simp only [Act.put]); (try simp only [List.setIfInBounds_toArray]); (try simp only [List.set_cons_succ]); (try simp only [List.set_cons_zero])
              refine wpAnyH_take (i := 27) (v := ?_) rfl (by kernel_rfl) (by kernel_rfl) (by kernel_rfl) (fun _ _ _ h => h) (Or.inl ⟨by rfl, ?h27⟩) hHeld ?_
              case h27 =>
                intro w' hSw
                (try dsimp only at hSw)
                go_simp
                (try with_reducible rfl)
              (try simp only [Act.put]); (try simp only [List.setIfInBounds_toArray]); (try simp only [List.set_cons_succ]); (try simp only [List.set_cons_zero])
              refine wpAnyH_take (i := 28) (v := ?_) rfl (by kernel_rfl) (by kernel_rfl) (by kernel_rfl) (fun _ _ _ h => h) (Or.inl ⟨by rfl, ?h28⟩) hHeld ?_
              case h28 =>
                intro w' hSw
                (try dsimp only at hSw)
                go_simp
                (try with_reducible rfl)
              (try simp only [Act.put]); (try simp only [List.setIfInBounds_toArray]); (try simp only [List.set_cons_succ]); (try simp only [List.set_cons_zero])
              refine wpAnyH_take (i := 29) (v := ?_) rfl (by kernel_rfl) (by kernel_rfl) (by kernel_rfl) (fun _ _ _ h => h) (Or.inl ⟨by rfl, ?h29⟩) hHeld ?_
              case h29 =>
                intro w' hSw
                (try dsimp only at hSw)
                go_simp
                (try with_reducible rfl)
              (try simp only [Act.put]); (try simp only [List.setIfInBounds_toArray]); (try simp only [List.set_cons_succ]); (try simp only [List.set_cons_zero])
              refine wpAnyH_take (i := 30) (v := ?_) rfl (by kernel_rfl) (by kernel_rfl) (by kernel_rfl) (fun _ _ _ h => h) (Or.inl ⟨by rfl, ?h30⟩) hHeld ?_
              case h30 =>
                intro w' hSw
                (try dsimp only at hSw)
                go_simp
                (try with_reducible rfl)
              (try simp only [Act.put]); (try simp only [List.setIfInBounds_toArray]); (try simp only [List.set_cons_succ]); (try simp only [List.set_cons_zero])
              refine wpAnyH_ready (rs := [12]) (by kernel_rfl) (by simp) ?_
              refine AllReadyH.cons rfl (fun K hK => ?_) (AllReadyH.nil)
              go_simp
              (refine (CCW.out _ hHeld.1.bel).mono ?_)
              rintro e w3 ⟨rfl, hb⟩
              have HO3 := Lib.hid (row_below H.out.1 ((Below.refl _ wr).drew.trans hb))
              have hS2 := hHeld.below hb
              clear hb
              refine hK.out _ _ hS2 (fun hHeld => ?_)
              clear hK K hS2
              (try simp only [Act.put]); (try simp only [List.setIfInBounds_toArray]); (try simp only [List.set_cons_succ]); (try simp only [List.set_cons_zero])
              refine wpAnyH_take (i := 13) (v := ?_) rfl (by kernel_rfl) (by kernel_rfl) (by kernel_rfl) (fun _ _ _ h => h) (Or.inl ⟨by rfl, ?h13⟩) hHeld ?_
              case h13 =>
                intro w' hSw
                (try dsimp only at hSw)
                go_simp
                (try with_reducible rfl)
              (try simp only [Act.put]); (try simp only [List.setIfInBounds_toArray]); (try simp only [List.set_cons_succ]); (try simp only [List.set_cons_zero])
              refine wpAnyH_ready (rs := [22]) (by kernel_rfl) (by simp) ?_
              refine AllReadyH.cons rfl (fun K hK => ?_) (AllReadyH.nil)
              go_simp
              (refine (CCX.out _).mono ?_)
              rintro e w4 ⟨rfl, hb⟩
              have HO4 := Lib.hid (row_below HO3.out hb)
              have hS2 := hHeld.below hb
              clear hb
              refine hK.out _ _ hS2 (fun hHeld => ?_)
              clear hK K hS2
              (try simp only [Act.put]); (try simp only [List.setIfInBounds_toArray]); (try simp only [List.set_cons_succ]); (try simp only [List.set_cons_zero])
              refine wpAnyH_take (i := 23) (v := ?_) rfl (by kernel_rfl) (by kernel_rfl) (by kernel_rfl) (fun _ _ _ h => h) (Or.inl ⟨by rfl, ?h23⟩) hHeld ?_
              case h23 =>
                intro w' hSw
                (try dsimp only at hSw)
                go_simp
                (try with_reducible rfl)
              (try simp only [Act.put]); (try simp only [List.setIfInBounds_toArray]); (try simp only [List.set_cons_succ]); (try simp only [List.set_cons_zero])
              refine wpAnyH_ready (rs := [31]) (by kernel_rfl) (by simp) ?_
              refine AllReadyH.cons rfl (fun K hK => ?_) (AllReadyH.nil)
              go_simp
              (refine (CCY.out _).mono ?_)
              rintro e w5 ⟨rfl, hb⟩
              have HO5 := Lib.hid (row_below HO4.out hb)
              have hS2 := hHeld.below hb
              clear hb
              refine hK.out _ _ hS2 (fun hHeld => ?_)
              clear hK K hS2
              (try simp only [Act.put]); (try simp only [List.setIfInBounds_toArray]); (try simp only [List.set_cons_succ]); (try simp only [List.set_cons_zero])
              refine wpAnyH_take (i := 32) (v := ?_) rfl (by kernel_rfl) (by kernel_rfl) (by kernel_rfl) (fun _ _ _ h => h) (Or.inl ⟨by rfl, ?h32⟩) hHeld ?_
              case h32 =>
                intro w' hSw
                (try dsimp only at hSw)
                go_simp
                (try with_reducible rfl)
              (try simp only [Act.put]); (try simp only [List.setIfInBounds_toArray]); (try simp only [List.set_cons_succ]); (try simp only [List.set_cons_zero])
              refine wpAnyH_ready (rs := [33]) (by kernel_rfl) (by simp) ?_
              refine AllReadyH.cons rfl (fun K hK => ?_) (AllReadyH.nil)
              go_simp
              rw [HM3.out]
              refine hK.out _ _ hHeld (fun hHeld => ?_)
              clear hK K
              (try simp only [Act.put]); (try simp only [List.setIfInBounds_toArray]); (try simp only [List.set_cons_succ]); (try simp only [List.set_cons_zero])
              refine wpAnyH_ready (rs := [34]) (by kernel_rfl) (by simp) ?_
              refine AllReadyH.cons rfl (fun K hK => ?_) (AllReadyH.nil)
              go_simp
              have HNB := Lib.hid (Blk.new w5 #[.int .i64 (mn : Int)] 3)
              refine hK.out _ _ (hHeld.alloc _) (fun hHeld => ?_)
              clear hK K
              (try simp only [Act.put]); (try simp only [List.setIfInBounds_toArray]); (try simp only [List.set_cons_succ]); (try simp only [List.set_cons_zero])
              refine wpAnyH_ready (rs := [35]) (by kernel_rfl) (by simp) ?_
              refine AllReadyH.cons rfl (fun K hK => ?_) (AllReadyH.nil)
              refine step_append_keep rfl _ _ 41 rfl Bn 3 i0 _ 8 Tryz.underlying41 HI.out.1 HI.out.2.1 HI.out.2.2.1 HI.out.2.2.2 rfl g2 (j + 1) cap2 _ rfl (HO5.out.alloc _) w5.heap.size (.int .i64 (mn : Int)) rfl (HNB.out.cell 0) rfl (by unfold maxLen; omega) (by omega) (by have h1 := HO5.out.lt g2 rfl; simp; omega) ?_
              intro g' cap' w6 hown hgr hsame
              have HO5 := Lib.hid hown
              have hS5 : CS w RC g BL g2 BM w6 := hHeld.app hgr (by have := HB2.out.1; have := HBW.out; omega) (by have := HB2.out.1; have := HBN.out; omega) (by rw [HBM.out, rowL_len]; exact Nat.le_refl _) hsame
              clear hown hgr hsame
              refine hK.out _ _ hS5 (fun hHeld => ?_)
              clear hK K hS5
              (try simp only [Act.put]); (try simp only [List.setIfInBounds_toArray]); (try simp only [List.set_cons_succ]); (try simp only [List.set_cons_zero])
              refine wpAnyH_ready (rs := [36]) (by kernel_rfl) (by simp) ?_
              refine AllReadyH.cons rfl (fun K hK => ?_) (AllReadyH.nil)
              go_simp
              refine hK.out _ _ hHeld (fun hHeld => ?_)
              clear hK K
              (try simp only [Act.put]); (try simp only [List.setIfInBounds_toArray]); (try simp only [List.set_cons_succ]); (try simp only [List.set_cons_zero])
              refine wpAnyH_done (by kernel_rfl) ?_ _
              have hks5 : KS w [(w.heap.size, rulesC a n c R.soft R.al R.ot R.sk R.ss R.db, 24)] w6 ∧ RowC w6 g (rowL (FR R x y i) (y.size + 1)) := by have h := hHeld; rw [HRC.out, HBL.out] at h; exact ⟨h.1, h.2.1⟩
              clear hHeld K0 K1 K2 K3 K4 K5 K6 R1 R2 R3 HRC
              have S5 := Lib.hid hks5
              have HO5' := Lib.hid (show w6.ownsRow Bn 3 1 (.slice (some ⟨g', 0, none⟩) (j + 1 + 1) cap') (j + 1 + 1) (natsV (rowL (FR R x y (i + 1)) (j + 1 + 1))) by rw [← rowL_snoc, HMN.out]; exact HO5.out)
              clear hks5 HO5
              go_wp2_with fail
              go_roundw
              case rel => exact ⟨j + 1, g', cap', by omega, by go_num, rfl, HO5'.out, S5.out⟩
              case measure => simp [intOf]; omega
            · have hj2 : j = y.size := by omega
              have S6 := Lib.hid (show wr.ownsRow (w.heap.size + 1) 3 1 (.slice (some ⟨g2, 0, none⟩) (y.size + 1) cap2) (y.size + 1) (natsV (rowL (FR R x y (i + 1)) (y.size + 1))) ∧ KS w [(w.heap.size, rulesC a n c R.soft R.al R.ot R.sk R.ss R.db, 24)] wr by have h := H.out; rw [hj2] at h; exact ⟨h.1.mono HBW.out, h.2.1⟩)
              subst hj2
              clear H
              go_wp2_with fail
              go_roundw
              case rel => exact ⟨i + 1, g2, cap2, by omega, by go_num, rfl, S6.out⟩
              case measure => simp [intOf]; omega
        · have hi2 : i = x.size := by omega
          have hcell := (RowC.own H.out.1).2 y.size _ (rowL_get (FR R x y i) (by omega))
          rw [hi2] at hcell
          have HB := Lib.hid H.out.2.bel
          subst hi2
          have pj0 : (0 : Int) ≤ (y.size : Int) := by omega
          have pj1 : (y.size : Int) < (y.size : Int) + 1 := by omega
          go_wp2_with fail
          go_ret
          exact ⟨rfl, HB.out⟩
end Go.Proofs.YtkdflgaahhnigaaGreat
