/- tithingtop: heard: a name in which one letter is replaced by another one of its class. -/
import Derived.Test.YtdfebccmjbocjaaGreatDoorNaG3
set_option linter.unusedVariables false
set_option linter.unusedSimpArgs false
namespace Go.Proofs.YtdfebccmjbocjaaGreatDoor.Na
open Go.RowKit Go.Shelf
set_option maxRecDepth 100000 in
set_option maxHeartbeats 3200000 in
theorem heard_any (a : Option Addr) (g o c n : Nat) (R : RB) (w : World) (hN : R.cls.length = n) (hk : SK w a g o R.cls) (ht : Thn R) (hg : Good R) (s : ByteArray) (hsp : spB s = true) (h12 : s.size ≤ 12) (wd : Nat) (hwd : wd ≤ 65535) :
    Calls Tryz.prog 12 #[rulesV a n c R.soft R.al R.ot R.sk R.ss R.db, .string s, .int .i64 (wd : Int)] w fun e w' => ∃ x, e = .returned (.string x) ∧ OKv R s x ∧ Below w.heap.size w w' := by
  have hs0 : 0 < s.size := by
    rcases Nat.eq_zero_or_pos s.size with h | h
    · exfalso
      have e : s.data.toList = [] := List.eq_nil_of_length_eq_zero (by simpa using h)
      simp [spB, e] at hsp
    · exact h
  obtain ⟨i, hi⟩ : ∃ i, i = wd % s.size := ⟨_, rfl⟩
  have hix : i < s.size := by rw [hi]; exact Nat.mod_lt _ hs0
  have erem : (wd : Int).tmod (s.size : Int) = (i : Int) := by rw [hi]; exact (Int.ofNat_tmod wd s.size).symm
  have erem2 : (wd : Int) % (s.size : Int) = (i : Int) := by rw [hi]; exact (Int.natCast_emod wd s.size).symm
  obtain ⟨q16, hq⟩ : ∃ q, q = wd / 16 := ⟨_, rfl⟩
  have equo : (wd : Int).tdiv 16 = (q16 : Int) := by rw [hq]; exact (Int.ofNat_tdiv wd 16).symm
  have equo2 : (wd : Int) / 16 = (q16 : Int) := by rw [hq]; exact (Int.natCast_ediv wd 16).symm
  have hq16 : q16 ≤ 65535 := by omega
  have hxz : ¬ (s.size : Int) = 0 := by omega
  have hxz2 : ¬ s.size = 0 := by omega
  have b0 : (0 : Int) ≤ (i : Int) := by omega
  have b1 : (i : Int) < (s.size : Int) := by omega
  have b2 : (i : Int) ≤ (s.size : Int) := by omega
  have b3 : (0 : Int) ≤ (i : Int) + 1 := by omega
  have b4 : (i : Int) + 1 ≤ (s.size : Int) := by omega
  have b5 : ((i : Int) + 1).toNat = i + 1 := by omega
  have b6 : IntKind.i64.wrap ((i : Int) + 1) = (i : Int) + 1 := IntWalk.i64_in _ (by omega)
  have s0 := (KS.start w).new (rulesC a n c R.soft R.al R.ot R.sk R.ss R.db) 24
  obtain ⟨k0, k1, k2, k3, k4, k5, k6⟩ := (s0.blkAt 0 rfl).c7
  have kl := (s0.blkAt 0 rfl).lt
  have S0 := Lib.hid s0
  have HK := Lib.hid (hk.below s0.bel)
  have HT := Lib.hid ht
  have HG := Lib.hid hg
  have HSP := Lib.hid hsp
  have HN := Lib.hid hN
  have hn9 : n ≤ 1000 := by have := ht.1; omega
  clear s0 hk ht hg hi hq hsp
  go_enter Tryz.func12, Tryz.ntmps12
  go_wp2_with fail
  go_loopw [8] (fun x wr => ∃ j : Nat, j ≤ n ∧ x = .int .i64 (j : Int) ∧ wr = w.alloc (.cells (rulesC a n c R.soft R.al R.ot R.sk R.ss R.db) 24)) (fun x _ => n - (intOf x).toNat)
  case atStart => exact ⟨0, Nat.zero_le _, rfl, rfl⟩
  case round =>
    obtain ⟨j, hj, rfl, rfl⟩ := hrel
    by_cases hjn : j < n
    · obtain ⟨cl, hcl⟩ : ∃ cl, R.cls[j]? = some cl := ⟨_, List.getElem?_eq_getElem (by rw [HN.out]; exact hjn)⟩
      have hclm := List.mem_of_getElem? hcl
      have hne : R.cls ≠ [] := by rintro e; rw [e] at hcl; simp at hcl
      have e1 := HK.out.1 hne
      subst e1
      have cc := HK.out.2.1 j cl hcl
      have lc := HK.out.2.2 hne
      have hcs := HT.out.2.1 cl hclm
      have C33 := Lib.hid (fun W => Has38 cl hcs s[i] W)
      have pj0 : (0 : Int) ≤ (j : Int) := by omega
      have pj1 : (j : Int) < (n : Int) := by omega
      have HCM := Lib.hid hclm
      clear hcl hclm hne
      cases hso : inS cl s[i] with
      | false =>
        rw [hso] at C33
        clear hso
        go_wp2_with (go_at_call 33; (with_reducible refine (C33.out _).mono ?_); rintro e w5 ⟨rfl, rfl⟩)
        go_roundw
        case rel => exact ⟨j + 1, by omega, by go_num, trivial⟩
        case measure => simp [intOf]; omega
      | true =>
        rw [hso] at C33
        have hin : s[i] ∈ cl.data.toList := by simpa [inS] using hso
        have hcp : 0 < cl.size := by have h := List.length_pos_of_mem hin; simpa using h
        obtain ⟨i2, hi2⟩ : ∃ i2, i2 = q16 % cl.size := ⟨_, rfl⟩
        have hi2c : i2 < cl.size := by rw [hi2]; exact Nat.mod_lt q16 hcp
        have frem : (q16 : Int).tmod (cl.size : Int) = (i2 : Int) := by rw [hi2]; exact (Int.ofNat_tmod q16 cl.size).symm
        have frem2 : (q16 : Int) % (cl.size : Int) = (i2 : Int) := by rw [hi2]; exact (Int.natCast_emod q16 cl.size).symm
        have em2 : IntKind.i64.wrap (q16 : Int) = (q16 : Int) := IntWalk.i64_in _ (by omega)
        have hcz : ¬ (cl.size : Int) = 0 := by omega
        have hcz2 : ¬ cl.size = 0 := by omega
        have c0 : (0 : Int) ≤ (i2 : Int) := by omega
        have c1 : (i2 : Int) < (cl.size : Int) := by omega
        have hym : cl[i2] ∈ cl.data.toList := List.mem_of_getElem? (get_u8 hi2c)
        have HOZ := Lib.hid (v_alike HG.out HSP.out (by omega) hix HCM.out hin hym)
        have hconv3 : (convert 87 9 (.slice (some ⟨w.heap.size + 1, 0, none⟩) 1 1)).run Tryz.prog ((w.alloc (.cells (rulesC (some ⟨g, o, none⟩) n c R.soft R.al R.ot R.sk R.ss R.db) 24)).alloc (.cells #[.int .u8 ((cl[i2]).toNat : Int)] 5)).drew = .ok (.string (oneK cl[i2])) ((w.alloc (.cells (rulesC (some ⟨g, o, none⟩) n c R.soft R.al R.ot R.sk R.ss R.db) 24)).alloc (.cells #[.int .u8 ((cl[i2]).toNat : Int)] 5)).drew := by
          have h := conv_oneK cl[i2] (w.alloc (.cells (rulesC (some ⟨g, o, none⟩) n c R.soft R.al R.ot R.sk R.ss R.db) 24)).drew
          have e : (w.alloc (.cells (rulesC (some ⟨g, o, none⟩) n c R.soft R.al R.ot R.sk R.ss R.db) 24)).drew.heap.size = w.heap.size + 1 := World.size_alloc _ _
          rw [e] at h
          exact h
        have qz1 : ¬ 9223372036854775807 < min i s.size + (oneK cl[i2]).size := by rw [show (oneK cl[i2]).size = 1 from rfl]; omega
        have qz2 : ¬ 9223372036854775807 < min i s.size + (oneK cl[i2]).size + (s.size - (i + 1)) := by rw [show (oneK cl[i2]).size = 1 from rfl]; omega
        clear hso hi2 hin hym hcp
        go_wp2_with (go_at_call 33; (with_reducible refine (C33.out _).mono ?_); rintro e w5 ⟨rfl, rfl⟩)
        obtain ⟨BS, hBS⟩ : ∃ BS : List (Nat × Array Value × TypeId), BS = [(w.heap.size, rulesC (some ⟨g, o, none⟩) n c R.soft R.al R.ot R.sk R.ss R.db, 24)] := ⟨_, rfl⟩
        have hS : KS w BS (w.alloc (.cells (rulesC (some ⟨g, o, none⟩) n c R.soft R.al R.ot R.sk R.ss R.db) 24)).drew := by rw [hBS]; exact S0.out.drew
        clear hBS k0 k1 k2 k3 k4 k5 k6 kl cc lc
        refine wp_region_held_drew (S := KS w BS) (by kernel_rfl) hS (fun hHeld => ?_)
        clear hS
        refine wpAnyH_take (i := 0) (v := ?_) rfl (by kernel_rfl) (by kernel_rfl) (by kernel_rfl) (fun _ _ _ h => h) (Or.inl ⟨by rfl, ?h0⟩) hHeld ?_
        case h0 =>
          intro w' hSw
          (try dsimp only at hSw)
          go_simp
          (try with_reducible rfl)
        (try simp only [Act.put]); (try simp only [List.setIfInBounds_toArray]); (try simp only [List.set_cons_succ]); (try simp only [List.set_cons_zero])
        refine wpAnyH_take (i := 1) (v := ?_) rfl (by kernel_rfl) (by kernel_rfl) (by kernel_rfl) (fun _ _ _ h => h) (Or.inl ⟨by rfl, ?h1⟩) hHeld ?_
        case h1 =>
          intro w' hSw
          (try dsimp only at hSw)
          go_simp
          (try with_reducible rfl)
        (try simp only [Act.put]); (try simp only [List.setIfInBounds_toArray]); (try simp only [List.set_cons_succ]); (try simp only [List.set_cons_zero])
        refine wpAnyH_take (i := 2) (v := ?_) rfl (by kernel_rfl) (by kernel_rfl) (by kernel_rfl) (fun _ _ _ h => h) (Or.inl ⟨by rfl, ?h2⟩) hHeld ?_
        case h2 =>
          intro w' hSw
          (try dsimp only at hSw)
          go_simp
          (try with_reducible rfl)
        (try simp only [Act.put]); (try simp only [List.setIfInBounds_toArray]); (try simp only [List.set_cons_succ]); (try simp only [List.set_cons_zero])
        refine wpAnyH_take (i := 3) (v := ?_) rfl (by kernel_rfl) (by kernel_rfl) (by kernel_rfl) (fun _ _ _ h => h) (Or.inl ⟨by rfl, ?h3⟩) hHeld ?_
        case h3 =>
          intro w' hSw
          (try dsimp only at hSw)
          go_simp
          (try with_reducible rfl)
        (try simp only [Act.put]); (try simp only [List.setIfInBounds_toArray]); (try simp only [List.set_cons_succ]); (try simp only [List.set_cons_zero])
        refine wpAnyH_take (i := 4) (v := ?_) rfl (by kernel_rfl) (by kernel_rfl) (by kernel_rfl) (fun _ _ _ h => h) (Or.inl ⟨by rfl, ?h4⟩) hHeld ?_
        case h4 =>
          intro w' hSw
          (try dsimp only at hSw)
          go_simp
          (try with_reducible rfl)
        (try simp only [Act.put]); (try simp only [List.setIfInBounds_toArray]); (try simp only [List.set_cons_succ]); (try simp only [List.set_cons_zero])
        refine wpAnyH_take (i := 5) (v := ?_) rfl (by kernel_rfl) (by kernel_rfl) (by kernel_rfl) (fun _ _ _ h => h) (Or.inl ⟨by rfl, ?h5⟩) hHeld ?_
        case h5 =>
          intro w' hSw
          (try dsimp only at hSw)
          go_simp
          (try with_reducible rfl)
        (try simp only [Act.put]); (try simp only [List.setIfInBounds_toArray]); (try simp only [List.set_cons_succ]); (try simp only [List.set_cons_zero])
        refine wpAnyH_take (i := 6) (v := ?_) rfl (by kernel_rfl) (by kernel_rfl) (by kernel_rfl) (fun _ _ _ h => h) (Or.inl ⟨by rfl, ?h6⟩) hHeld ?_
        case h6 =>
          intro w' hSw
          (try dsimp only at hSw)
          go_simp
          (try with_reducible rfl)
        (try simp only [Act.put]); (try simp only [List.setIfInBounds_toArray]); (try simp only [List.set_cons_succ]); (try simp only [List.set_cons_zero])
        refine wpAnyH_take (i := 7) (v := ?_) rfl (by kernel_rfl) (by kernel_rfl) (by kernel_rfl) (fun _ _ _ h => h) (Or.inl ⟨by rfl, ?h7⟩) hHeld ?_
        case h7 =>
          intro w' hSw
          (try dsimp only at hSw)
          go_simp
          (try with_reducible rfl)
        (try simp only [Act.put]); (try simp only [List.setIfInBounds_toArray]); (try simp only [List.set_cons_succ]); (try simp only [List.set_cons_zero])
        refine wpAnyH_take (i := 8) (v := ?_) rfl (by kernel_rfl) (by kernel_rfl) (by kernel_rfl) (fun _ _ _ h => h) (Or.inl ⟨by rfl, ?h8⟩) hHeld ?_
        case h8 =>
          intro w' hSw
          (try dsimp only at hSw)
          go_simp
          (try with_reducible rfl)
        (try simp only [Act.put]); (try simp only [List.setIfInBounds_toArray]); (try simp only [List.set_cons_succ]); (try simp only [List.set_cons_zero])
        refine wpAnyH_take (i := 9) (v := ?_) rfl (by kernel_rfl) (by kernel_rfl) (by kernel_rfl) (fun _ _ _ h => h) (Or.inl ⟨by rfl, ?h9⟩) hHeld ?_
        case h9 =>
          intro w' hSw
          (try dsimp only at hSw)
          go_simp
          (try with_reducible rfl)
        (try simp only [Act.put]); (try simp only [List.setIfInBounds_toArray]); (try simp only [List.set_cons_succ]); (try simp only [List.set_cons_zero])
        refine wpAnyH_take (i := 13) (v := ?_) rfl (by kernel_rfl) (by kernel_rfl) (by kernel_rfl) (fun _ _ _ h => h) (Or.inl ⟨by rfl, ?h13⟩) hHeld ?_
        case h13 =>
          intro w' hSw
          (try dsimp only at hSw)
          go_simp
          (try with_reducible rfl)
        (try simp only [Act.put]); (try simp only [List.setIfInBounds_toArray]); (try simp only [List.set_cons_succ]); (try simp only [List.set_cons_zero])
        refine wpAnyH_take (i := 14) (v := ?_) rfl (by kernel_rfl) (by kernel_rfl) (by kernel_rfl) (fun _ _ _ h => h) (Or.inl ⟨by rfl, ?h14⟩) hHeld ?_
        case h14 =>
          intro w' hSw
          (try dsimp only at hSw)
          go_simp
          (try with_reducible rfl)
        (try simp only [Act.put]); (try simp only [List.setIfInBounds_toArray]); (try simp only [List.set_cons_succ]); (try simp only [List.set_cons_zero])
        refine wpAnyH_take (i := 15) (v := ?_) rfl (by kernel_rfl) (by kernel_rfl) (by kernel_rfl) (fun _ _ _ h => h) (Or.inl ⟨by rfl, ?h15⟩) hHeld ?_
        case h15 =>
          intro w' hSw
          (try dsimp only at hSw)
          go_simp
          (try with_reducible rfl)
        (try simp only [Act.put]); (try simp only [List.setIfInBounds_toArray]); (try simp only [List.set_cons_succ]); (try simp only [List.set_cons_zero])
        refine wpAnyH_take (i := 16) (v := ?_) rfl (by kernel_rfl) (by kernel_rfl) (by kernel_rfl) (fun _ _ _ h => h) (Or.inl ⟨by rfl, ?h16⟩) hHeld ?_
        case h16 =>
          intro w' hSw
          (try dsimp only at hSw)
          go_simp
          (try with_reducible rfl)
        (try simp only [Act.put]); (try simp only [List.setIfInBounds_toArray]); (try simp only [List.set_cons_succ]); (try simp only [List.set_cons_zero])
        refine wpAnyH_ready (rs := [10]) (by kernel_rfl) (by simp) ?_
        refine AllReadyH.cons rfl (fun K hK => ?_) (AllReadyH.nil)
        go_simp
        refine hK.out _ _ (hHeld.alloc _) (fun hHeld => ?_)
        clear hK K
        (try simp only [Act.put]); (try simp only [List.setIfInBounds_toArray]); (try simp only [List.set_cons_succ]); (try simp only [List.set_cons_zero])
        refine wpAnyH_ready (rs := [11]) (by kernel_rfl) (by simp) ?_
        refine AllReadyH.cons rfl (fun K hK => ?_) (AllReadyH.nil)
        go_simp
        refine hK.out _ _ hHeld (fun hHeld => ?_)
        clear hK K
        (try simp only [Act.put]); (try simp only [List.setIfInBounds_toArray]); (try simp only [List.set_cons_succ]); (try simp only [List.set_cons_zero])
        refine wpAnyH_take (i := 12) (v := ?_) rfl (by kernel_rfl) (by kernel_rfl) (by kernel_rfl) (fun _ _ _ h => h) (Or.inl ⟨by rfl, ?h12⟩) hHeld ?_
        case h12 =>
          intro w' hSw
          (try dsimp only at hSw)
          go_simp
          (try with_reducible rfl)
        (try simp only [Act.put]); (try simp only [List.setIfInBounds_toArray]); (try simp only [List.set_cons_succ]); (try simp only [List.set_cons_zero])
        refine wpAnyH_take (i := 17) (v := ?_) rfl (by kernel_rfl) (by kernel_rfl) (by kernel_rfl) (fun _ _ _ h => h) (Or.inl ⟨by rfl, ?h17⟩) hHeld ?_
        case h17 =>
          intro w' hSw
          (try dsimp only at hSw)
          go_simp
          (try with_reducible rfl)
        (try simp only [Act.put]); (try simp only [List.setIfInBounds_toArray]); (try simp only [List.set_cons_succ]); (try simp only [List.set_cons_zero])
        refine wpAnyH_ready (rs := [18]) (by kernel_rfl) (by simp) ?_
        refine AllReadyH.cons rfl (fun K hK => ?_) (AllReadyH.nil)
        go_simp
        refine hK.out _ _ hHeld (fun hHeld => ?_)
        clear hK K
        (try simp only [Act.put]); (try simp only [List.setIfInBounds_toArray]); (try simp only [List.set_cons_succ]); (try simp only [List.set_cons_zero])
        refine wpAnyH_done (by kernel_rfl) ?_ _
        have HF := Lib.hid hHeld.bel
        clear hHeld
        go_wp2_with fail
        go_ret
        exact ⟨_, rfl, HOZ.out, HF.out⟩
    · have pjn : ¬ (j : Int) < (n : Int) := by omega
      go_wp2_with fail
      go_ret
      exact ⟨_, rfl, ⟨HSP.out, h12, rfl⟩, S0.out.bel⟩
end Go.Proofs.YtdfebccmjbocjaaGreatDoor.Na
