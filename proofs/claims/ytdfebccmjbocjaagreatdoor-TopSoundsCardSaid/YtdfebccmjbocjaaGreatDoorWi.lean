/- sheet: ProveAssignment, at a true one. -/
import Derived.Test.YtdfebccmjbocjaaGreatDoorWe
import Derived.Test.YtdfebccmjbocjaaGreatDoorWh
import Derived.StillTailTactics
set_option linter.unusedVariables false
set_option linter.unusedSimpArgs false
namespace Go.Proofs.YtdfebccmjbocjaaGreatDoor
open Go.RowKit Go.Shelf
set_option maxRecDepth 100000 in
set_option maxHeartbeats 8000000 in
theorem Prove_ok (e s a : Loc) (es : List Ent) (sm ap : List (Nat × Nat)) (om nu : Nat × Nat) (of : List Nat) (tab : List (List Nat)) (P : Nat) (va : Option Addr) (vc B : Nat) (w : World) (hA : CenAt w e s a es sm ap) (hC : CenOk es sm ap om nu) (hT : Tru es sm ap of) (hG : GrpOk of tab) (hP : tab.length = P) (hP10 : P ≤ 10) (h10r : ∀ r, r ∈ tab → r.length ≤ 10) (hV : TabK w B (.slice va P vc) tab) (h3 : nu.1 ≤ P + om.2) (h4 : P + om.1 ≤ nu.2) :
    Calls Tryz.prog 15 #[cenL e s a es sm ap om nu, .slice va P vc] w fun x w' => x = .returned (.bool true) ∧ Below w.heap.size w w' := by
  have s0 := (KS.start w).new (cenA (.slice e.a es.length e.c) (.slice s.a sm.length s.c) (.slice a.a ap.length a.c) (om.1 : Int) (om.2 : Int) (nu.1 : Int) (nu.2 : Int)) 54
  obtain ⟨c0, c1, c2, c3, c4, c5, c6⟩ := (s0.blkAt 0 rfl).c7
  have HCK := Lib.hid (check_ok e s a es sm ap om nu _ (hA.below s0.bel) hC)
  have hn9 : es.length ≤ 9 := by rw [hT.len]; exact hT.n9
  have HA := Lib.hid hA
  have HC := Lib.hid hC
  have HT := Lib.hid hT
  have HG := Lib.hid hG
  have HP := Lib.hid hP
  have HR10 := Lib.hid h10r
  have HV := Lib.hid hV
  have H34 := Lib.hid (And.intro h3 h4)
  have S0 := Lib.hid s0
  clear s0 hA hC hT hG hP h10r hV h3 h4
  go_enter Tryz.func15, Tryz.ntmps15
  go_wp2_with fail
  with_reducible refine HCK.out.mono ?_
  rintro x w1 ⟨rfl, hb⟩
  have hk1 := S0.out.below hb
  obtain ⟨c0, c1, c2, c3, c4, c5, c6⟩ := (hk1.blkAt 0 rfl).c7
  have cl := (hk1.blkAt 0 rfl).lt
  have S1 := Lib.hid hk1
  clear hb hk1 HCK S0
  go_wp2_with fail
  obtain ⟨W2, hW2⟩ : ∃ W2, W2 = w1.alloc (.cells (((((((Tryz.zeroCells107.setIfInBounds 0 (.slice e.a es.length e.c)).setIfInBounds 1 (.slice s.a sm.length s.c)).setIfInBounds 2 (.slice a.a ap.length a.c)).setIfInBounds 3 (.int .i64 (om.1 : Int))).setIfInBounds 4 (.int .i64 (om.2 : Int))).setIfInBounds 5 (.int .i64 (nu.1 : Int))).setIfInBounds 6 (.int .i64 (nu.2 : Int))) 107) := ⟨_, rfl⟩
  have s2 := S1.out.new (((((((Tryz.zeroCells107.setIfInBounds 0 (.slice e.a es.length e.c)).setIfInBounds 1 (.slice s.a sm.length s.c)).setIfInBounds 2 (.slice a.a ap.length a.c)).setIfInBounds 3 (.int .i64 (om.1 : Int))).setIfInBounds 4 (.int .i64 (om.2 : Int))).setIfInBounds 5 (.int .i64 (nu.1 : Int))).setIfInBounds 6 (.int .i64 (nu.2 : Int))) 107
  rw [← hW2] at s2 ⊢
  have wk := wk_new (.slice e.a es.length e.c) (.slice s.a sm.length s.c) (.slice a.a ap.length a.c) (om.1 : Int) (om.2 : Int) (nu.1 : Int) (nu.2 : Int)
  have hg1 := (s2.blkAt 0 rfl).cell 0
  have hg2 := (s2.blkAt 0 rfl).cell 2
  rw [wk.c0] at hg1
  rw [wk.c2] at hg2
  have HF := Lib.hid (show FW W2 w1.heap.size e a es ap from ⟨(s2.blkAt 0 rfl).lt, hg1, hg2, (HA.out.below s2.bel).e, (HA.out.below s2.bel).a, (HA.out.below s2.bel).gt, (HA.out.below s2.bel).one⟩)
  have HB2 := Lib.hid s2.bel
  have BC := Lib.hid (s2.blkAt 1 rfl)
  have BW := Lib.hid (fun W (h : Below W2.heap.size W2 W) => HB2.out.trans (h.mono HB2.out.size))
  clear hW2 s2 wk hg1 hg2 S1 c0 c1 c2 c3 c4 c5 c6 cl
  go_loopw [21, 6] (fun x v wr => ∃ k : Nat, k ≤ P ∧ x = .int .i64 (k : Int) ∧ v = .int .u64 ((sn tab k 0 : Nat) : Int) ∧ Hid (Below W2.heap.size W2 wr)) (fun x _ _ => P - (intOf x).toNat)
  case atStart => exact ⟨0, Nat.zero_le _, rfl, by simp [sn, snL, mk], Lib.hid (Below.refl _ _)⟩
  case round =>
    obtain ⟨k, hk, rfl, rfl, H⟩ := hrel
    by_cases hkP : k < P
    · obtain ⟨r, hr⟩ : ∃ r, tab[k]? = some r := ⟨_, List.getElem?_eq_getElem (by rw [HP.out]; exact hkP)⟩
      have hrm := List.mem_of_getElem? hr
      obtain ⟨ga, ca, s1, hv, hga, hcell, hsl⟩ := (show TabK w B (.slice va tab.length vc) tab by rw [HP.out]; exact HV.out).row hr
      simp only [Value.slice.injEq, true_and] at hv
      obtain ⟨hv1, hv2⟩ := hv
      subst hv1
      subst hv2
      have hrne := HG.out.ne r hrm
      have hrl : 0 < r.length := List.length_pos_iff.2 hrne
      have hr10 := HR10.out r hrm
      obtain ⟨s1a, s1b, s1o, s1c⟩ := s1
      have e1 := hsl.at_ hrne
      dsimp only at e1 hcell
      subst e1
      have q0 : (0 : Int) ≤ (k : Int) := by omega
      have q1 : (k : Int) < (P : Int) := by omega
      have HSL := Lib.hid (fun W (h : Below W2.heap.size W2 W) => hsl.below (BW.out W h))
      have HRR := Lib.hid (And.intro hr (And.intro hrm hrne))
      have cg := ((BW.out _ H.out).cell (p := ⟨ga, k, none⟩) hga).trans hcell
      have lg := Nat.lt_of_lt_of_le hga (BW.out _ H.out).size
      have bc := BC.out.b H.out
      obtain ⟨c0, c1, c2, c3, c4, c5, c6⟩ := bc.c7
      have cl := bc.lt
      obtain ⟨S0', hS0'⟩ : ∃ z, z = sn tab k 0 := ⟨_, rfl⟩
      rw [← hS0']
      have HS0 := Lib.hid hS0'
      clear hr hrm hrne hcell hga hsl bc hS0'
      go_wp2_with fail
      obtain ⟨wo, hwo⟩ : ∃ wo, wo = wr := ⟨_, rfl⟩
      subst hwo
      have hb0 := Blk.new wo #[.int .u64 0] 109
      have HX := Lib.hid (And.intro hb0 ((H.out).alloc H.out.size (.cells #[.int .u64 0] 109)))
      clear hb0
      go_loopw [27, 6] (fun x v wr2 => ∃ i : Nat, i ≤ r.length ∧ x = .int .i64 (i : Int) ∧ v = .int .u64 ((sn tab k i : Nat) : Int) ∧ Hid (Blk wr2 wo.heap.size #[.int .u64 ((mk (r.take i) : Nat) : Int)] 109 ∧ Below W2.heap.size W2 wr2)) (fun x _ _ => r.length - (intOf x).toNat)
      case atStart => exact ⟨0, Nat.zero_le _, rfl, by rw [HS0.out], Lib.hid ⟨HX.out.1, HX.out.2⟩⟩
      case round =>
        clear HX c0 c1 c2 c3 c4 c5 c6 cl cg lg
        obtain ⟨i, hi, rfl, rfl, G⟩ := hrel
        have bc := BC.out.b G.out.2
        obtain ⟨c0, c1, c2, c3, c4, c5, c6⟩ := bc.c7
        have cl := bc.lt
        have bl := G.out.1.lt
        have hbo2 : W2.heap.size ≤ wo.heap.size := H.out.size
        by_cases hir : i < r.length
        · obtain ⟨x, hx⟩ : ∃ x, r[i]? = some x := ⟨_, List.getElem?_eq_getElem hir⟩
          have hxn : x < of.length := HG.out.lt r HRR.out.2.1 x (List.mem_of_getElem? hx)
          rw [← HT.out.len] at hxn
          have hofl : of.length ≤ 10 := by have := HT.out.n9; omega
          have hsb := sn_bit HG.out HRR.out.1 hx
          have hss := sn_snoc HRR.out.1 hx
          have hsl10 := sn_lt HG.out hofl k i
          have hms : mk (r.take (i + 1)) = mk (r.take i) ||| 2 ^ x := by rw [List.take_add_one, hx]; exact mk_snoc _ _
          have hml : mk (r.take i) < 1024 := mk_lt fun z hz => by have := HG.out.lt r HRR.out.2.1 z (List.mem_of_mem_take hz); omega
          have h2x : 2 ^ x ≤ 2 ^ 9 := Nat.pow_le_pow_right (by omega) (by omega)
          have e2i : ((2 : Int) ^ x) = ((2 ^ x : Nat) : Int) := by rw [Int.natCast_pow]; rfl
          obtain ⟨Q, hQ⟩ : ∃ Q, Q = 2 ^ x := ⟨_, rfl⟩
          rw [← hQ] at e2i h2x hss hms
          have ep : IntKind.u64.wrap (2 ^ x) = (Q : Int) := by rw [e2i]; exact IntWalk.u64_in _ (by omega)
          obtain ⟨N0, hN0⟩ : ∃ z, z = sn tab k i := ⟨_, rfl⟩
          obtain ⟨N1, hN1⟩ : ∃ z, z = sn tab k (i + 1) := ⟨_, rfl⟩
          obtain ⟨M0, hM0⟩ : ∃ z, z = mk (r.take i) := ⟨_, rfl⟩
          obtain ⟨M1, hM1⟩ : ∃ z, z = mk (r.take (i + 1)) := ⟨_, rfl⟩
          rw [← hN0] at hss hsb hsl10
          rw [← hN1] at hss
          rw [← hM0] at hms hml G
          rw [← hM1] at hms
          have ob1 : bits BinOp.or IntKind.u64 (M0 : Int) (Q : Int) = (M1 : Int) := by rw [or_bits M0 Q hml (by omega), hms]
          have ob2 : bits BinOp.or IntKind.u64 (N0 : Int) (Q : Int) = (N1 : Int) := by rw [or_bits N0 Q hsl10 (by omega), hss]
          have C41 := Lib.hid (fun W => has_any N0 x hsl10 (by omega) W)
          rw [hsb] at C41
          have ein : inB (x : Int) 0 ((es.length : Int) - 1) = true := by unfold inB; simp; omega
          have C40 := Lib.hid (fun W => within_s (x : Int) 0 ((es.length : Int) - 1) W)
          rw [ein] at C40
          rw [← hN0]
          have cr := (HSL.out _ G.out.2).cells i x hx
          have lr := (HSL.out _ G.out.2).lt HRR.out.2.2
          dsimp only at cr lr
          have cb := G.out.1.cell 0
          have fb := G.out.1.frozen 0
          have q2 : (0 : Int) ≤ (i : Int) := by omega
          have q3 : (i : Int) < (r.length : Int) := by omega
          have q4 : (0 : Int) ≤ (x : Int) := by omega
          have q5 : (x : Int) < 64 := by omega
          have HM := Lib.hid (And.intro hM1 hN1)
          have HXX := Lib.hid hx
          have HB2' := Lib.hid hbo2
          have hx64 : x < 64 := by omega
          clear hsb hss hms hml h2x e2i hQ hN0 hN1 hM0 hM1 ein hx bc hofl hbo2 hsl10
          by_cases hi0 : 0 < i
          · obtain ⟨p1, hp1⟩ : ∃ p1, p1 = i - 1 := ⟨_, rfl⟩
            have sp1 : (i : Int) - 1 = (p1 : Int) := by omega
            obtain ⟨y, hy⟩ : ∃ y, r[p1]? = some y := ⟨_, List.getElem?_eq_getElem (by omega)⟩
            have hyx : y < x := by
              have hy' := List.getElem?_eq_some_iff.1 hy
              have hx' := List.getElem?_eq_some_iff.1 HXX.out
              have := List.pairwise_iff_getElem.1 (HG.out.sorted r HRR.out.2.1) p1 i hy'.1 hx'.1 (by omega)
              rwa [hy'.2, hx'.2] at this
            have cy := (HSL.out _ G.out.2).cells p1 y hy
            dsimp only at cy
            have q6 : (0 : Int) < (i : Int) := by omega
            have q7 : ¬ (x : Int) ≤ (y : Int) := by omega
            have q8 : (0 : Int) ≤ (p1 : Int) := by omega
            have q9 : (p1 : Int) < (r.length : Int) := by omega
            clear hp1 hy
            go_wp2_with (first | (go_at_call 40; (with_reducible refine (C40.out _).mono ?_); rintro e w' ⟨rfl, rfl⟩) | (go_at_call 41; (with_reducible refine (C41.out _).mono ?_); rintro e w' ⟨rfl, rfl⟩))
            have hS : KS W2 [] wr.drew := ⟨fun x hx => (by cases hx), G.out.2.drew⟩
            refine wp_region_held_drew (S := KS W2 []) (by kernel_rfl) hS (fun hHeld => ?_)
            clear hS
            refine wpAnyH_take (i := 1) (v := ?_) rfl (by kernel_rfl) (by kernel_rfl) (by kernel_rfl) (fun _ _ _ h => h) (Or.inl ⟨by rfl, ?h1⟩) hHeld ?_
            case h1 =>
              intro w' hSw
              (try dsimp only at hSw)
              go_simp
              (try with_reducible rfl)
            (try simp only [Act.put]); (try simp only [List.setIfInBounds_toArray]); (try simp only [List.set_cons_succ]); (try simp only [List.set_cons_zero])
            refine wpAnyH_take (i := 2) (v := ?_) rfl (by kernel_rfl) (by kernel_rfl) (by kernel_rfl) (fun _ _ _ h => h) (Or.inl ⟨by rfl, ?h2⟩) hHeld ?_
            case h2 =>
              intro w' hSw
              (try dsimp only at hSw)
              go_simp
              (try with_reducible rfl)
            (try simp only [Act.put]); (try simp only [List.setIfInBounds_toArray]); (try simp only [List.set_cons_succ]); (try simp only [List.set_cons_zero])
            refine wpAnyH_ready (rs := [0]) (by kernel_rfl) (by simp) ?_
            refine AllReadyH.cons rfl (fun K hK => ?_) (AllReadyH.nil)
            go_simp
            refine hK.out _ _ hHeld (fun hHeld => ?_)
            clear hK K
            (try simp only [Act.put]); (try simp only [List.setIfInBounds_toArray]); (try simp only [List.set_cons_succ]); (try simp only [List.set_cons_zero])
            refine wpAnyH_take (i := 3) (v := ?_) rfl (by kernel_rfl) (by kernel_rfl) (by kernel_rfl) (fun _ _ _ h => h) (Or.inl ⟨by rfl, ?h3⟩) hHeld ?_
            case h3 =>
              intro w' hSw
              (try dsimp only at hSw)
              go_simp
              (try with_reducible rfl)
            (try simp only [Act.put]); (try simp only [List.setIfInBounds_toArray]); (try simp only [List.set_cons_succ]); (try simp only [List.set_cons_zero])
            refine wpAnyH_ready (rs := [4]) (by kernel_rfl) (by simp) ?_
            refine AllReadyH.cons rfl (fun K hK => ?_) (AllReadyH.nil)
            go_simp
            have hS2 : KS W2 [] (wr.drew.setCell ⟨wo.heap.size, 0, none⟩ (.int .u64 (M1 : Int))) := KS.setOff hHeld (a := ⟨wo.heap.size, 0, none⟩) HB2'.out (fun x hx => by cases hx) _
            refine hK.out _ _ hS2 (fun hHeld => ?_)
            clear hK K hS2
            (try simp only [Act.put]); (try simp only [List.setIfInBounds_toArray]); (try simp only [List.set_cons_succ]); (try simp only [List.set_cons_zero])
            refine wpAnyH_done (by kernel_rfl) ?_ _
            clear hHeld
            have hbs := G.out.1.drew.set 0 (.int .u64 (M1 : Int))
            simp only [List.setIfInBounds_toArray, List.set_cons_zero] at hbs
            have HGS := Lib.hid (And.intro hbs (G.out.2.drew.setCell (p := ⟨wo.heap.size, 0, none⟩) HB2'.out (.int .u64 (M1 : Int))))
            clear hbs
            go_wp2_with fail
            go_roundw
            case rel => exact ⟨i + 1, by omega, by go_num, by rw [HM.out.2], Lib.hid ⟨by rw [← HM.out.1]; exact HGS.out.1, HGS.out.2⟩⟩
            case measure => simp [intOf]; omega
          · have q6 : ¬ (0 : Int) < (i : Int) := by omega
            go_wp2_with (first | (go_at_call 40; (with_reducible refine (C40.out _).mono ?_); rintro e w' ⟨rfl, rfl⟩) | (go_at_call 41; (with_reducible refine (C41.out _).mono ?_); rintro e w' ⟨rfl, rfl⟩))
            have hS : KS W2 [] wr.drew := ⟨fun x hx => (by cases hx), G.out.2.drew⟩
            refine wp_region_held_drew (S := KS W2 []) (by kernel_rfl) hS (fun hHeld => ?_)
            clear hS
            refine wpAnyH_take (i := 1) (v := ?_) rfl (by kernel_rfl) (by kernel_rfl) (by kernel_rfl) (fun _ _ _ h => h) (Or.inl ⟨by rfl, ?h1⟩) hHeld ?_
            case h1 =>
              intro w' hSw
              (try dsimp only at hSw)
              go_simp
              (try with_reducible rfl)
            (try simp only [Act.put]); (try simp only [List.setIfInBounds_toArray]); (try simp only [List.set_cons_succ]); (try simp only [List.set_cons_zero])
            refine wpAnyH_take (i := 2) (v := ?_) rfl (by kernel_rfl) (by kernel_rfl) (by kernel_rfl) (fun _ _ _ h => h) (Or.inl ⟨by rfl, ?h2⟩) hHeld ?_
            case h2 =>
              intro w' hSw
              (try dsimp only at hSw)
              go_simp
              (try with_reducible rfl)
            (try simp only [Act.put]); (try simp only [List.setIfInBounds_toArray]); (try simp only [List.set_cons_succ]); (try simp only [List.set_cons_zero])
            refine wpAnyH_ready (rs := [0]) (by kernel_rfl) (by simp) ?_
            refine AllReadyH.cons rfl (fun K hK => ?_) (AllReadyH.nil)
            go_simp
            refine hK.out _ _ hHeld (fun hHeld => ?_)
            clear hK K
            (try simp only [Act.put]); (try simp only [List.setIfInBounds_toArray]); (try simp only [List.set_cons_succ]); (try simp only [List.set_cons_zero])
            refine wpAnyH_take (i := 3) (v := ?_) rfl (by kernel_rfl) (by kernel_rfl) (by kernel_rfl) (fun _ _ _ h => h) (Or.inl ⟨by rfl, ?h3⟩) hHeld ?_
            case h3 =>
              intro w' hSw
              (try dsimp only at hSw)
              go_simp
              (try with_reducible rfl)
            (try simp only [Act.put]); (try simp only [List.setIfInBounds_toArray]); (try simp only [List.set_cons_succ]); (try simp only [List.set_cons_zero])
            refine wpAnyH_ready (rs := [4]) (by kernel_rfl) (by simp) ?_
            refine AllReadyH.cons rfl (fun K hK => ?_) (AllReadyH.nil)
            go_simp
            have hS2 : KS W2 [] (wr.drew.setCell ⟨wo.heap.size, 0, none⟩ (.int .u64 (M1 : Int))) := KS.setOff hHeld (a := ⟨wo.heap.size, 0, none⟩) HB2'.out (fun x hx => by cases hx) _
            refine hK.out _ _ hS2 (fun hHeld => ?_)
            clear hK K hS2
            (try simp only [Act.put]); (try simp only [List.setIfInBounds_toArray]); (try simp only [List.set_cons_succ]); (try simp only [List.set_cons_zero])
            refine wpAnyH_done (by kernel_rfl) ?_ _
            clear hHeld
            have hbs := G.out.1.drew.set 0 (.int .u64 (M1 : Int))
            simp only [List.setIfInBounds_toArray, List.set_cons_zero] at hbs
            have HGS := Lib.hid (And.intro hbs (G.out.2.drew.setCell (p := ⟨wo.heap.size, 0, none⟩) HB2'.out (.int .u64 (M1 : Int))))
            clear hbs
            go_wp2_with fail
            go_roundw
            case rel => exact ⟨i + 1, by omega, by go_num, by rw [HM.out.2], Lib.hid ⟨by rw [← HM.out.1]; exact HGS.out.1, HGS.out.2⟩⟩
            case measure => simp [intOf]; omega
        · have hix : i = r.length := by omega
          have hml : mk r < 1024 := mk_lt fun z hz => by have := HG.out.lt r HRR.out.2.1 z hz; have := HT.out.n9; omega
          have hmk : mk (r.take i) = mk r := by rw [hix, List.take_length]
          rw [hmk] at G
          have hrow := row_fits HT.out HG.out HRR.out.2.1
          have hsame := row_same HT.out HG.out HRR.out.2.1
          have hpos := mk_pos HRR.out.2.2
          have hin : ∀ k, k ∈ Sh.bits (mk r) → k < es.length := fun z hz => by
            have h := HG.out.lt r HRR.out.2.1 z ((mem_bits_mk fun z hz => by have := HG.out.lt r HRR.out.2.1 z hz; have := HT.out.n9; omega).1 hz)
            rwa [HT.out.len]
          have hap : ∀ p, p ∈ ap → p.1 < 64 ∧ p.2 < 64 := fun p hp => by have := HC.out.ap p hp; omega
          have hsm : ∀ p, p ∈ sm → p.1 < 64 ∧ p.2 < 64 := fun p hp => by have := HC.out.sm p hp; omega
          have h6 := HC.out.s6
          have ha6 := HC.out.a6
          obtain ⟨M, hM⟩ : ∃ M, M = mk r := ⟨_, rfl⟩
          rw [← hM] at hml hrow hsame hpos hin G
          have C42 := Lib.hid (fun W (hW : Below W2.heap.size W2 W) => fits_w w1.heap.size e a es ap M W hml (by omega) hin ha6 hap (HF.out.below hW))
          rw [hrow] at C42
          have C43 := Lib.hid (fun W (hW : Below W2.heap.size W2 W) (hb : Blk W wo.heap.size #[.int .u64 (M : Int)] 109) => allP 44 #[] #[.pointer (some ⟨wo.heap.size, 0, none⟩)] s.a s.b s.o s.c sm.length sm (fun p => M.testBit p.1 == M.testBit p.2) W rfl ((HA.out.below (BW.out W hW)).s.at_) ((HA.out.below (BW.out W hW)).s.lt) (by omega) ((HA.out.below (BW.out W hW)).s.cells)
            (fun bx W3 hW3 hbx x hx W4 hW4 => clos_same wo.heap.size x bx W4 (hbx.b hW4) (fun W5 hW5 => same_any x wo.heap.size M hml (hsm x hx).1 (hsm x hx).2 W5 (((hb.b hW3).b hW4).b hW5))))
          rw [hsame] at C43
          have cb := G.out.1.cell 0
          have t0 : ((M : Int) == 0) = false := by rw [beq_eq_false_iff_ne]; omega
          have q3 : ¬ (i : Int) < (r.length : Int) := by omega
          have HIX := Lib.hid hix
          clear hix hmk hrow hsame hpos hin hap hsm hM bc
          go_wp2_with (first
            | (go_at_call 42; (with_reducible refine (C42.out _ G.out.2).mono ?_); rintro e w5 ⟨rfl, hb⟩; have HB5 := Lib.hid (G.out.2.trans (hb.mono G.out.2.size)); have HBK := Lib.hid (G.out.1.b hb); obtain ⟨-, d1, -, -, -, -, -⟩ := (BC.out.b HB5.out).c7; have dl := (BC.out.b HB5.out).lt; clear hb)
            | (go_at_call 43; (with_reducible refine (C43.out _ HB5.out HBK.out).mono ?_); rintro e w6 ⟨rfl, hb⟩; have HB6 := Lib.hid (HB5.out.trans (hb.mono HB5.out.size)); clear hb))
          go_roundw
          case rel => exact ⟨k + 1, by omega, by go_num, by rw [sn_row HRR.out.1, ← HIX.out], HB6⟩
          case measure => simp [intOf]; omega
    · have hkx : k = P := by omega
      have hofl : of.length ≤ 10 := by have := HT.out.n9; omega
      have hsa : (Sh.bits (sn tab k 0)).length = es.length := by rw [hkx, ← HP.out, sn_all HG.out hofl, HT.out.len]
      have hsl := sn_lt HG.out hofl k 0
      obtain ⟨S, hS⟩ : ∃ S, S = sn tab k 0 := ⟨_, rfl⟩
      rw [← hS] at hsa hsl ⊢
      have HSA := Lib.hid hsa
      obtain ⟨A0, hA0⟩ : ∃ A, A = (nu.1 : Int) - (om.2 : Int) := ⟨_, rfl⟩
      obtain ⟨A1, hA1⟩ : ∃ A, A = (nu.2 : Int) - (om.1 : Int) := ⟨_, rfl⟩
      have C45 := Lib.hid (fun W => limits_any (.slice e.a es.length e.c) (.slice s.a sm.length s.c) (.slice a.a ap.length a.c) (om.1 : Int) (om.2 : Int) (nu.1 : Int) (nu.2 : Int) HC.out.small W)
      rw [← hA0, ← hA1] at C45
      have ein : inB (P : Int) A0 A1 = true := by have := H34.out; unfold inB; simp; omega
      have C40 := Lib.hid (fun W => within_s (P : Int) A0 A1 W)
      rw [ein] at C40
      have bc := BC.out.b H.out
      obtain ⟨c0, c1, c2, c3, c4, c5, c6⟩ := bc.c7
      have cl := bc.lt
      have q1 : ¬ (k : Int) < (P : Int) := by omega
      have HBC := Lib.hid bc
      clear hkx hsa hS hA0 hA1 ein bc
      go_wp2_with fail
      with_reducible refine (C45.out _).mono ?_
      rintro x9 w5 ⟨rfl, hb⟩
      have HB5 := Lib.hid ((BW.out _ H.out).trans (hb.mono (BW.out _ H.out).size))
      have b5 := HBC.out.b hb
      have n5 := Blk.new w5 #[.int .i64 A0, .int .i64 A1] 48
      have s5 : KS w [(w5.heap.size, #[.int .i64 A0, .int .i64 A1], 48), (w.heap.size, cenA (.slice e.a es.length e.c) (.slice s.a sm.length s.c) (.slice a.a ap.length a.c) (om.1 : Int) (om.2 : Int) (nu.1 : Int) (nu.2 : Int), 54)] (w5.alloc (.cells #[.int .i64 A0, .int .i64 A1] 48)) := ⟨fun x hx => by
        simp only [List.mem_cons, List.not_mem_nil, or_false] at hx
        rcases hx with rfl | rfl
        · exact n5
        · exact b5.alloc _, HB5.out.alloc HB5.out.size _⟩
      have C46 := Lib.hid (fun W (h : Below w.heap.size w W) => list_any S hsl W ((HA.out.below h).gt) ((HA.out.below h).one))
      clear hb b5 n5 c0 c1 c2 c3 c4 c5 c6 cl
      go_wp2_with fail
      obtain ⟨BS, hBS⟩ : ∃ BS : List (Nat × Array Value × TypeId), BS = [(w5.heap.size, #[.int .i64 A0, .int .i64 A1], 48), (w.heap.size, cenA (.slice e.a es.length e.c) (.slice s.a sm.length s.c) (.slice a.a ap.length a.c) (om.1 : Int) (om.2 : Int) (nu.1 : Int) (nu.2 : Int), 54)] := ⟨_, rfl⟩
      rw [← hBS] at s5
      have hS : KS w BS (w5.alloc (.cells #[.int .i64 A0, .int .i64 A1] 48)).drew := s5.drew
      have KG : ∀ W, KS w BS W → W.cell? ⟨w.heap.size, 0, none⟩ = some (.slice e.a es.length e.c) := fun W hW => by rw [hBS] at hW; exact (hW.blkAt 1 rfl).cell 0
      have K0 : ∀ W, KS w BS W → W.cell? ⟨w5.heap.size, 0, none⟩ = some (.int .i64 A0) := fun W hW => by rw [hBS] at hW; exact (hW.blkAt 0 rfl).cell 0
      have K1 : ∀ W, KS w BS W → W.cell? ⟨w5.heap.size, 1, none⟩ = some (.int .i64 A1) := fun W hW => by rw [hBS] at hW; exact (hW.blkAt 0 rfl).cell 1
      clear hBS s5
      refine wp_region_held_drew (S := KS w BS) (by kernel_rfl) hS (fun hHeld => ?_)
      clear hS
      refine wpAnyH_take (i := 0) (v := ?_) rfl (by kernel_rfl) (by kernel_rfl) (by kernel_rfl) (fun _ _ _ h => h) (Or.inl ⟨by rfl, ?h0⟩) hHeld ?_
      case h0 =>
        intro w' hSw
        (try dsimp only at hSw)
        go_simp
        (try with_reducible rfl)
      (try simp only [Act.put]); (try simp only [List.setIfInBounds_toArray]); (try simp only [List.set_cons_succ]); (try simp only [List.set_cons_zero])
      refine wpAnyH_take (i := 3) (v := ?_) rfl (by kernel_rfl) (by kernel_rfl) (by kernel_rfl) (fun _ _ _ h => h) (Or.inl ⟨by rfl, ?h3⟩) hHeld ?_
      case h3 =>
        intro w' hSw
        (try dsimp only at hSw)
        go_simp
        (try with_reducible rfl)
      (try simp only [Act.put]); (try simp only [List.setIfInBounds_toArray]); (try simp only [List.set_cons_succ]); (try simp only [List.set_cons_zero])
      refine wpAnyH_take (i := 4) (v := ?_) rfl (by kernel_rfl) (by kernel_rfl) (by kernel_rfl) (fun _ _ _ h => h) (Or.inl ⟨by rfl, ?h4⟩) hHeld ?_
      case h4 =>
        intro w' hSw
        (try dsimp only at hSw)
        go_simp
        (try with_reducible rfl)
      (try simp only [Act.put]); (try simp only [List.setIfInBounds_toArray]); (try simp only [List.set_cons_succ]); (try simp only [List.set_cons_zero])
      refine wpAnyH_take (i := 5) (v := ?_) rfl (by kernel_rfl) (by kernel_rfl) (by kernel_rfl) (fun _ _ _ h => h) (Or.inl ⟨by rfl, ?h5⟩) hHeld ?_
      case h5 =>
        intro w' hSw
        (try dsimp only at hSw)
        go_simp
        (try with_reducible rfl)
      (try simp only [Act.put]); (try simp only [List.setIfInBounds_toArray]); (try simp only [List.set_cons_succ]); (try simp only [List.set_cons_zero])
      refine wpAnyH_ready (rs := [1]) (by kernel_rfl) (by simp) ?_
      refine AllReadyH.cons rfl (fun K hK => ?_) (AllReadyH.nil)
      go_simp
      (refine (C46.out _ hHeld.bel).mono ?_)
      rintro e9 w6 ⟨v9, rfl, hown, hb⟩
      obtain ⟨l9, hv9, -, -⟩ := SlN.of_own hown
      subst hv9
      rw [HSA.out]
      have hS2 := hHeld.below hb
      clear hb hown
      refine hK.out _ _ hS2 (fun hHeld => ?_)
      clear hK K hS2
      (try simp only [Act.put]); (try simp only [List.setIfInBounds_toArray]); (try simp only [List.set_cons_succ]); (try simp only [List.set_cons_zero])
      refine wpAnyH_take (i := 2) (v := ?_) rfl (by kernel_rfl) (by kernel_rfl) (by kernel_rfl) (fun _ _ _ h => h) (Or.inl ⟨by rfl, ?h2⟩) hHeld ?_
      case h2 =>
        intro w' hSw
        (try dsimp only at hSw)
        go_simp
        (try with_reducible rfl)
      (try simp only [Act.put]); (try simp only [List.setIfInBounds_toArray]); (try simp only [List.set_cons_succ]); (try simp only [List.set_cons_zero])
      refine wpAnyH_take (i := 6) (v := ?_) rfl (by kernel_rfl) (by kernel_rfl) (by kernel_rfl) (fun _ _ _ h => h) (Or.inl ⟨by rfl, ?h6⟩) hHeld ?_
      case h6 =>
        intro w' hSw
        (try dsimp only at hSw)
        go_simp
        (try with_reducible rfl)
      (try simp only [Act.put]); (try simp only [List.setIfInBounds_toArray]); (try simp only [List.set_cons_succ]); (try simp only [List.set_cons_zero])
      refine wpAnyH_take (i := 7) (v := ?_) rfl (by kernel_rfl) (by kernel_rfl) (by kernel_rfl) (fun _ _ _ h => h) (Or.inl ⟨by rfl, ?h7⟩) hHeld ?_
      case h7 =>
        intro w' hSw
        (try dsimp only at hSw)
        go_simp
        (try with_reducible rfl)
      (try simp only [Act.put]); (try simp only [List.setIfInBounds_toArray]); (try simp only [List.set_cons_succ]); (try simp only [List.set_cons_zero])
      refine wpAnyH_take (i := 8) (v := ?_) rfl (by kernel_rfl) (by kernel_rfl) (by kernel_rfl) (fun _ _ _ h => h) (Or.inl ⟨by kernel_rfl, ?h8⟩) hHeld ?_
      case h8 =>
        intro w' hSw
        (try dsimp only at hSw)
        go_simp
        (try with_reducible rfl)
      (try simp only [Act.put]); (try simp only [List.setIfInBounds_toArray]); (try simp only [List.set_cons_succ]); (try simp only [List.set_cons_zero])
      refine wpAnyH_take (i := 9) (v := ?_) rfl (by kernel_rfl) (by kernel_rfl) (by kernel_rfl) (fun _ _ _ h => h) (Or.inl ⟨by kernel_rfl, ?h9⟩) hHeld ?_
      case h9 =>
        intro w' hSw
        (try dsimp only at hSw)
        go_simp
        (try with_reducible rfl)
      (try simp only [Act.put]); (try simp only [List.setIfInBounds_toArray]); (try simp only [List.set_cons_succ]); (try simp only [List.set_cons_zero])
      refine wpAnyH_take (i := 10) (v := ?_) rfl (by kernel_rfl) (by kernel_rfl) (by kernel_rfl) (fun _ _ _ h => h) (Or.inl ⟨by kernel_rfl, ?h10⟩) hHeld ?_
      case h10 =>
        intro w' hSw
        (try dsimp only at hSw)
        go_simp
        (try with_reducible rfl)
      (try simp only [Act.put]); (try simp only [List.setIfInBounds_toArray]); (try simp only [List.set_cons_succ]); (try simp only [List.set_cons_zero])
      refine wpAnyH_take (i := 11) (v := ?_) rfl (by kernel_rfl) (by kernel_rfl) (by kernel_rfl) (fun _ _ _ h => h) (Or.inl ⟨by kernel_rfl, ?h11⟩) hHeld ?_
      case h11 =>
        intro w' hSw
        (try dsimp only at hSw)
        go_simp
        (try with_reducible rfl)
      (try simp only [Act.put]); (try simp only [List.setIfInBounds_toArray]); (try simp only [List.set_cons_succ]); (try simp only [List.set_cons_zero])
      refine wpAnyH_take (i := 12) (v := ?_) rfl (by kernel_rfl) (by kernel_rfl) (by kernel_rfl) (fun _ _ _ h => h) (Or.inl ⟨by kernel_rfl, ?h12⟩) hHeld ?_
      case h12 =>
        intro w' hSw
        (try dsimp only at hSw)
        go_simp
        (try with_reducible rfl)
      (try simp only [Act.put]); (try simp only [List.setIfInBounds_toArray]); (try simp only [List.set_cons_succ]); (try simp only [List.set_cons_zero])
      refine wpAnyH_take (i := 13) (v := ?_) rfl (by kernel_rfl) (by kernel_rfl) (by kernel_rfl) (fun _ _ _ h => h) (Or.inl ⟨by kernel_rfl, ?h13⟩) hHeld ?_
      case h13 =>
        intro w' hSw
        (try dsimp only at hSw)
        go_simp
        (try with_reducible rfl)
      (try simp only [Act.put]); (try simp only [List.setIfInBounds_toArray]); (try simp only [List.set_cons_succ]); (try simp only [List.set_cons_zero])
      refine wpAnyH_ready (rs := [14]) (by kernel_rfl) (by simp) ?_
      refine AllReadyH.cons rfl (fun K hK => ?_) (AllReadyH.nil)
      go_simp
      (refine (C40.out _).mono ?_)
      rintro e9 w7 ⟨rfl, rfl⟩
      refine hK.out _ _ hHeld (fun hHeld => ?_)
      clear hK K
      (try simp only [Act.put]); (try simp only [List.setIfInBounds_toArray]); (try simp only [List.set_cons_succ]); (try simp only [List.set_cons_zero])
      refine wpAnyH_take (i := 15) (v := ?_) rfl (by kernel_rfl) (by kernel_rfl) (by kernel_rfl) (fun _ _ _ h => h) (Or.inl ⟨by rfl, ?h15⟩) hHeld ?_
      case h15 =>
        intro w' hSw
        (try dsimp only at hSw)
        go_simp
        (try with_reducible rfl)
      (try simp only [Act.put]); (try simp only [List.setIfInBounds_toArray]); (try simp only [List.set_cons_succ]); (try simp only [List.set_cons_zero])
      refine wpAnyH_ready (rs := [16]) (by kernel_rfl) (by simp) ?_
      refine AllReadyH.cons rfl (fun K hK => ?_) (AllReadyH.nil)
      go_simp
      refine hK.out _ _ hHeld (fun hHeld => ?_)
      clear hK K
      (try simp only [Act.put]); (try simp only [List.setIfInBounds_toArray]); (try simp only [List.set_cons_succ]); (try simp only [List.set_cons_zero])
      refine wpAnyH_done (by kernel_rfl) ?_ _
      have HF9 := Lib.hid hHeld.bel
      clear hHeld
      go_wp2_with fail
      go_ret
      exact ⟨rfl, HF9.out⟩
end Go.Proofs.YtdfebccmjbocjaaGreatDoor
