/- MissAreas: the walk. -/
import Derived.Test.YtkfobnhnehbkeaaAreQ
import Derived.Test.YtkfobnhnehbkeaaAwake
set_option linter.unusedVariables false
set_option linter.unusedSimpArgs false
namespace Go.Proofs.Ytkfobnhnehbkeaa
open Go.RowKit Go.Shelf

theorem wp_joinA {ι : Type} {P : Program} {code : Code} {Q : Exit → Act → World → Prop} {a : Act} {W : World} (f : Act → ι → Act) (mid : ι → World → Prop)
    (h1 : code.wp P (fun e a' W' => e = .normal ∧ ∃ b, a' = f a b ∧ mid b W') a W) (h2 : ∀ b W', mid b W' → Q .normal (f a b) W') : code.wp P Q a W :=
  Code.wp_mono (fun e a' W' h => by obtain ⟨rfl, b, rfl, hm⟩ := h; exact h2 b W' hm) h1
theorem reads_one {W : World} {b : Nat} {L M S F : Int} {t : TypeId} (h : Blk W b #[.int .i64 L, .int .i64 M, .int .i64 S, .int .i64 F] t) : ∀ adr, (some (⟨b, 0, none⟩ : Addr)) = some adr → ∀ (j : Nat) (u : Value), (cellsA [⟨L, M, S, F⟩])[j]? = some u → W.cell? (adr.add j) = some u := by
  intro adr e j u hu
  cases e
  refine reads_areas (fun i a hi => ?_) j u hu
  match i, hi with
  | 0, hi => simp at hi; subst hi; exact ⟨h.cell 0, h.cell 1, h.cell 2, h.cell 3⟩
theorem KS_grow2 {w W W' : World} {c1 c2 : Array Value} {t1 t2 : TypeId} {row : Option Nat} (h : KS w [(w.heap.size + 1, c1, t1), (w.heap.size, c2, t2)] W) (hg : W.grownBy W' row) (hr : ∀ r, row = some r → w.heap.size + 2 ≤ r) : KS w [(w.heap.size + 1, c1, t1), (w.heap.size, c2, t2)] W' := by
  refine ⟨fun z hz => (h.1 z hz).kept hg (fun e => ?_), h.2.grown hg h.2.size (fun r e => by have := hr r e; omega)⟩
  have h2 := hr _ e.symm
  simp only [List.mem_cons, List.not_mem_nil, or_false] at hz
  rcases hz with rfl | rfl
  · simp only at h2; omega
  · simp only at h2; omega
set_option maxRecDepth 100000 in
set_option maxHeartbeats 8000000 in
theorem MissAreas_walk (ad : Option Addr) (g o cap q : Nat) (l : List A4) (L M S F n d : Int) (k0 : Nat) (hk0 : k0 < 256) (w : World) (hl : l.length = q) (had : l ≠ [] → ad = some ⟨g, o, none⟩) (hnil : ad = none → cap = 0) (hb : l ≠ [] → g < w.heap.size) (ha : AreasAt w g o l) :
    Calls Try.prog 15 #[.slice ad q cap, areaV L M S F, fracV n d, .int .u8 (k0 : Int)] w fun e w' => e = .returned (.bool true) ∧ Below w.heap.size w w' := by
  have s0 := ((KS.start w).new #[.int .i64 L, .int .i64 M, .int .i64 S, .int .i64 F] 23).new #[.int .i64 n, .int .i64 d] 36
  rw [World.size_alloc] at s0
  obtain ⟨kb0_0, kb0_1, kb0_2, kb0_3⟩ := (s0.blkAt 1 rfl).c4
  obtain ⟨kb1_0, kb1_1, _⟩ := (s0.blkAt 0 rfl).c2
  have S0 := Lib.hid s0
  clear s0
  by_cases h5 : 5 < q
  · have t5 : (5 : Int) < (q : Int) := by omega
    clear h5 hl had hnil hb ha
    go_enter Try.func15, Try.ntmps15
    go_wp2_with (go_at_call 24; (refine (awake_any _).mono ?_); rintro e wA ⟨rfl, hbA⟩; have SA := Lib.hid (S0.out.bel.trans (hbA.mono S0.out.bel.size)); clear hbA)
    go_ret
    exact ⟨rfl, SA.out⟩
  have t5 : ¬ (5 : Int) < (q : Int) := by omega
  have C42 := Lib.hid (fun W => rIsArea_any L M S F W)
  cases hA : areaB L M S F with
  | false =>
    rw [hA] at C42
    clear h5 hl had hnil hb ha
    go_enter Try.func15, Try.ntmps15
    go_wp2_with fail
    refine (C42.out _).mono ?_
    rintro e w1 ⟨rfl, hb1⟩
    have S1 := Lib.hid (S0.out.below hb1)
    clear hb1
    go_wp2_with (go_at_call 24; (refine (awake_any _).mono ?_); rintro e wA ⟨rfl, hbA⟩; have SA := Lib.hid (S1.out.bel.trans (hbA.mono S1.out.bel.size)); clear hbA)
    go_ret
    exact ⟨rfl, SA.out⟩
  | true =>
    rw [hA] at C42
    have C33 := Lib.hid (fun W => rIsLevel_any n d W)
    cases hV : levB n d with
    | false =>
      rw [hV] at C33
      clear h5 hl had hnil hb ha
      go_enter Try.func15, Try.ntmps15
      go_wp2_with fail
      refine (C42.out _).mono ?_
      rintro e w1 ⟨rfl, hb1⟩
      have s1 := S0.out.below hb1
      clear kb0_0 kb0_1 kb0_2 kb0_3 kb1_0 kb1_1
      obtain ⟨kb1_0, kb1_1, _⟩ := (s1.blkAt 0 rfl).c2
      have S1 := Lib.hid s1
      clear hb1 s1
      go_wp2_with fail
      refine (C33.out _).mono ?_
      rintro e w2 ⟨rfl, hb2⟩
      have S2 := Lib.hid (S1.out.below hb2)
      clear hb2
      go_wp2_with (go_at_call 24; (refine (awake_any _).mono ?_); rintro e wA ⟨rfl, hbA⟩; have SA := Lib.hid (S2.out.bel.trans (hbA.mono S2.out.bel.size)); clear hbA)
      go_ret
      exact ⟨rfl, SA.out⟩
    | true =>
      rw [hV] at C33
      have HL := Lib.hid hl
      have HAD := Lib.hid had
      have HB := Lib.hid hb
      have HAT := Lib.hid ha
      clear hl had hb ha
      go_enter Try.func15, Try.ntmps15
      go_wp2_with fail
      refine (C42.out _).mono ?_
      rintro e w1 ⟨rfl, hb1⟩
      have s1 := S0.out.below hb1
      clear kb0_0 kb0_1 kb0_2 kb0_3 kb1_0 kb1_1
      obtain ⟨kb1_0, kb1_1, _⟩ := (s1.blkAt 0 rfl).c2
      have S1 := Lib.hid s1
      clear hb1 s1
      go_wp2_with fail
      refine (C33.out _).mono ?_
      rintro e w2 ⟨rfl, hb2⟩
      have S2 := Lib.hid (S1.out.below hb2)
      clear hb2 kb1_0 kb1_1
      go_wp2_with fail
      go_loopw [9] (fun y9 wr => ∃ i : Nat, i ≤ q ∧ y9 = .int .i64 (i : Int) ∧ Hid ((l.take i).all A4.ok = true ∧ KS w [(w.heap.size + 1, #[.int .i64 n, .int .i64 d], 36), (w.heap.size, #[.int .i64 L, .int .i64 M, .int .i64 S, .int .i64 F], 23)] wr)) (fun y9 _ => q - (intOf y9).toNat)
      case atStart => exact ⟨0, Nat.zero_le _, rfl, rfl, S2.out⟩
      case round =>
        clear S2
        obtain ⟨i, hi, rfl, H⟩ := hrel
        by_cases hiq : i < q
        · obtain ⟨a, hai⟩ : ∃ a, l[i]? = some a := ⟨_, List.getElem?_eq_getElem (by rw [HL.out]; exact hiq)⟩
          have hne : l ≠ [] := by rintro rfl; simp at hai
          have e1 := HAD.out hne
          subst e1
          obtain ⟨c0, c1, c2, c3⟩ := HAT.out.below H.out.2.bel (HB.out hne) i a hai
          have hgl := Nat.lt_of_lt_of_le (HB.out hne) H.out.2.bel.size
          have p0 : (0 : Int) ≤ (i : Int) := by omega
          have p1 : (i : Int) < (q : Int) := by omega
          have HT := Lib.hid (show l.take (i + 1) = l.take i ++ [a] by rw [List.take_add_one, hai]; rfl)
          have CI := Lib.hid (fun W => rIsArea_any a.L a.M a.S a.F W)
          cases hok : areaB a.L a.M a.S a.F with
          | false =>
            rw [hok] at CI
            clear hai hne hok
            go_wp2_with (first | (go_at_call 42; (refine (CI.out _).mono ?_); rintro e w3 ⟨rfl, hb3⟩; have S3 := Lib.hid (H.out.2.below hb3); clear hb3) | (go_at_call 24; (refine (awake_any _).mono ?_); rintro e wA ⟨rfl, hbA⟩; have SA := Lib.hid (S3.out.bel.trans (hbA.mono S3.out.bel.size)); clear hbA))
            go_ret
            exact ⟨rfl, SA.out⟩
          | true =>
            rw [hok] at CI
            have HK := Lib.hid (show (l.take (i + 1)).all A4.ok = true by rw [HT.out, List.all_append, H.out.1]; simp [A4.ok, hok])
            clear hai hne hok
            go_wp2_with (first | (go_at_call 42; (refine (CI.out _).mono ?_); rintro e w3 ⟨rfl, hb3⟩; have S3 := Lib.hid (H.out.2.below hb3); clear hb3))
            go_roundw
            case rel => exact ⟨i + 1, by omega, by go_num, HK.out, S3.out⟩
            case measure => simp [intOf]; omega
        · obtain rfl : i = q := by omega
          have p1 : ¬ (i : Int) < (i : Int) := by omega
          have hall : l.all A4.ok = true := by have h := H.out.1; rwa [List.take_of_length_le (by rw [HL.out]; exact Nat.le_refl _)] at h
          have HOK := Lib.hid hall
          clear hall
          go_wp2_with fail
          have HRD := Lib.hid (show ∀ W, Below w.heap.size w W → ∀ adr, ad = some adr → ∀ (j : Nat) (u : Value), (cellsA l)[j]? = some u → W.cell? (adr.add j) = some u from fun W hW adr e j u hu => by
            by_cases hne : l = []
            · rw [hne] at hu; simp [cellsA] at hu
            · have e2 := HAD.out hne
              rw [e] at e2; cases e2
              exact reads_areas (HAT.out.below hW (HB.out hne)) j u hu)
          have hni : ad = none → i = 0 ∧ cap = 0 := by
            intro e
            refine ⟨?_, hnil e⟩
            by_cases hne : l = []
            · have h := HL.out; rw [hne] at h; exact h.symm
            · have e2 := HAD.out hne; rw [e] at e2; cases e2
          have HNI := Lib.hid hni
          clear hni
          have hi5 : i ≤ 5 := by omega
          have hlt := H.out.2.lt 0 rfl
          obtain ⟨BS, hBS⟩ : ∃ BS : List (Nat × Array Value × TypeId), BS = [(w.heap.size + 1, #[.int .i64 n, .int .i64 d], 36), (w.heap.size, #[.int .i64 L, .int .i64 M, .int .i64 S, .int .i64 F], 23)] := ⟨_, rfl⟩
          have hS : KS w BS wr.drew := by rw [hBS]; exact H.out.2.drew
          have K0 : ∀ W, KS w BS W → W.cell? ⟨w.heap.size, 0, none⟩ = some (.int .i64 L) := fun W h => by rw [hBS] at h; exact (h.blkAt 1 rfl).cell 0
          have K1 : ∀ W, KS w BS W → W.cell? ⟨w.heap.size, 1, none⟩ = some (.int .i64 M) := fun W h => by rw [hBS] at h; exact (h.blkAt 1 rfl).cell 1
          have K2 : ∀ W, KS w BS W → W.cell? ⟨w.heap.size, 2, none⟩ = some (.int .i64 S) := fun W h => by rw [hBS] at h; exact (h.blkAt 1 rfl).cell 2
          have K3 : ∀ W, KS w BS W → W.cell? ⟨w.heap.size, 3, none⟩ = some (.int .i64 F) := fun W h => by rw [hBS] at h; exact (h.blkAt 1 rfl).cell 3
          have HBS := Lib.hid hBS
          clear hBS
          refine wp_joinA (ι := Nat × Nat × Value × Value) (f := fun aa bb => (((((((aa.put (some 49) (.slice ad i cap)).put (some 51) (.agg #[.int .i64 L, .int .i64 M, .int .i64 S, .int .i64 F])).put (some 48) (.slice (some ⟨bb.1, 0, none⟩) 0 0)).put (some 52) (.slice (some ⟨bb.2.1, 0, none⟩) 1 1)).put (some 50) (bb.2.2.1)).put (some 53) (bb.2.2.2)).put (some 10) (bb.2.2.2))) (mid := fun bb W' => KS w BS W' ∧ W'.ownsRow (w.heap.size + 2) 23 4 bb.2.2.2 (i + 1) (cellsA (l ++ [⟨L, M, S, F⟩]))) ?_ ?_
          · refine wp_region_held_drew (S := KS w BS) (by kernel_rfl) hS (fun hHeld => ?_)
            clear hS
            refine wpAnyH_take (i := 1) (v := ?_) rfl (by kernel_rfl) (by kernel_rfl) (by kernel_rfl) (fun _ _ _ h => (by cases h.1)) (Or.inl ⟨by rfl, ?h1⟩) hHeld ?_
            case h1 =>
              intro w' hSw
              (try dsimp only at hSw)
              go_simp
              (try with_reducible rfl)
            (try simp only [Act.put]); (try simp only [List.setIfInBounds_toArray]); (try simp only [List.set_cons_succ]); (try simp only [List.set_cons_zero])
            refine wpAnyH_take (i := 3) (v := ?_) rfl (by kernel_rfl) (by kernel_rfl) (by kernel_rfl) (fun _ _ _ h => (by cases h.1)) (Or.inl ⟨by rfl, ?h3⟩) hHeld ?_
            case h3 =>
              intro w' hSw
              (try dsimp only at hSw)
              go_simp
              (try with_reducible rfl)
            (try simp only [Act.put]); (try simp only [List.setIfInBounds_toArray]); (try simp only [List.set_cons_succ]); (try simp only [List.set_cons_zero])
            refine wpAnyH_ready (rs := [0, 4]) (by kernel_rfl) (by simp) ?_
            refine AllReadyH.cons rfl (fun K hK => ?_) (AllReadyH.cons rfl (fun K hK => ?_) (AllReadyH.nil))
            · go_simp
              have hW0 : w.heap.size + 2 ≤ (wr.drew).heap.size := by simp; omega
              obtain ⟨e8, he8⟩ : ∃ e, e = (wr.drew).heap.size := ⟨_, rfl⟩
              have he := World.ownsRow_lit (base := w.heap.size + 2) (e := 23) (size := 4) wr.drew #[] 0 hW0 (by unfold maxLen; omega) rfl
              have HE := Lib.hid he
              clear he
              refine hK.out _ _ (hHeld.alloc _) (fun hHeld => ?_)
              clear hK K
              (try simp only [Act.put]); (try simp only [List.setIfInBounds_toArray]); (try simp only [List.set_cons_succ]); (try simp only [List.set_cons_zero])
              refine wpAnyH_ready (rs := [2, 4]) (by kernel_rfl) (by simp) ?_
              refine AllReadyH.cons rfl (fun K hK => ?_) (AllReadyH.cons rfl (fun K hK => ?_) (AllReadyH.nil))
              · refine step_append_areas rfl _ _ rfl (w.heap.size + 2) 0 i cap (.slice (some ⟨wr.heap.size, 0, none⟩) 0 0) [] l ad rfl rfl rfl HL.out HE.out HNI.out (HRD.out _ hHeld.bel) (by omega) (by simp; omega) ?_
                intro v1 w7 hown hgr
                have HV := Lib.hid (show w7.ownsRow (w.heap.size + 2) 23 4 v1 i (cellsA l) from by simpa using hown)
                have hw7 : w.heap.size + 2 ≤ w7.heap.size := Nat.le_trans (by simp; omega) hgr.size
                have hS3 : KS w BS w7 := by
                  rw [HBS.out]; have h := hHeld; rw [HBS.out] at h
                  exact KS_grow2 h hgr (fun r e => (HE.out.lt r e).1)
                clear hown hgr
                refine hK.out _ _ hS3 (fun hHeld => ?_)
                clear hK K hS3
                (try simp only [Act.put]); (try simp only [List.setIfInBounds_toArray]); (try simp only [List.set_cons_succ]); (try simp only [List.set_cons_zero])
                refine wpAnyH_ready (rs := [4]) (by kernel_rfl) (by simp) ?_
                refine AllReadyH.cons rfl (fun K hK => ?_) (AllReadyH.nil)
                go_simp
                have nb := Blk.new w7 #[.int .i64 L, .int .i64 M, .int .i64 S, .int .i64 F] 23
                have NB := Lib.hid nb
                clear nb
                have HV := Lib.hid (HV.out.alloc (.cells #[.int .i64 L, .int .i64 M, .int .i64 S, .int .i64 F] 23))
                have hw7 : w.heap.size + 2 ≤ ((w7.alloc (.cells #[.int .i64 L, .int .i64 M, .int .i64 S, .int .i64 F] 23))).heap.size := by simp; omega
                refine hK.out _ _ (hHeld.alloc _) (fun hHeld => ?_)
                clear hK K
                (try simp only [Act.put]); (try simp only [List.setIfInBounds_toArray]); (try simp only [List.set_cons_succ]); (try simp only [List.set_cons_zero])
                refine wpAnyH_ready (rs := [5]) (by kernel_rfl) (by simp) ?_
                refine AllReadyH.cons rfl (fun K hK => ?_) (AllReadyH.nil)
                refine step_append_areas rfl _ _ rfl (w.heap.size + 2) i 1 1 v1 l [⟨L, M, S, F⟩] _ rfl rfl HL.out rfl HV.out (fun e => by cases e) (reads_one NB.out) (by omega) hw7 ?_
                intro v2 w8 hown hgr
                have HX := Lib.hid hown
                have hS3 : KS w BS w8 := by
                  rw [HBS.out]; have h := hHeld; rw [HBS.out] at h
                  exact KS_grow2 h hgr (fun r e => (HV.out.lt r e).1)
                clear hown hgr
                refine hK.out _ _ hS3 (fun hHeld => ?_)
                clear hK K hS3
                (try simp only [Act.put]); (try simp only [List.setIfInBounds_toArray]); (try simp only [List.set_cons_succ]); (try simp only [List.set_cons_zero])
                refine wpAnyH_ready (rs := [6]) (by kernel_rfl) (by simp) ?_
                refine AllReadyH.cons rfl (fun K hK => ?_) (AllReadyH.nil)
                go_simp
                refine hK.out _ _ hHeld (fun hHeld => ?_)
                clear hK K
                (try simp only [Act.put]); (try simp only [List.setIfInBounds_toArray]); (try simp only [List.set_cons_succ]); (try simp only [List.set_cons_zero])
                refine wpAnyH_done (by kernel_rfl) ?_ _
                exact ⟨rfl, (_, _, _, _), rfl, hHeld, HX.out⟩
              · go_simp
                have nb := Blk.new (wr.drew.alloc (.cells #[] 23)) #[.int .i64 L, .int .i64 M, .int .i64 S, .int .i64 F] 23
                rw [World.size_alloc] at nb
                have NB := Lib.hid nb
                clear nb
                have HE := Lib.hid (HE.out.alloc (.cells #[.int .i64 L, .int .i64 M, .int .i64 S, .int .i64 F] 23))
                refine hK.out _ _ (hHeld.alloc _) (fun hHeld => ?_)
                clear hK K
                (try simp only [Act.put]); (try simp only [List.setIfInBounds_toArray]); (try simp only [List.set_cons_succ]); (try simp only [List.set_cons_zero])
                refine wpAnyH_ready (rs := [2]) (by kernel_rfl) (by simp) ?_
                refine AllReadyH.cons rfl (fun K hK => ?_) (AllReadyH.nil)
                refine step_append_areas rfl _ _ rfl (w.heap.size + 2) 0 i cap (.slice (some ⟨wr.heap.size, 0, none⟩) 0 0) [] l ad rfl rfl rfl HL.out HE.out HNI.out (HRD.out _ hHeld.bel) (by omega) (by simp; omega) ?_
                intro v1 w7 hown hgr
                have HV := Lib.hid (show w7.ownsRow (w.heap.size + 2) 23 4 v1 i (cellsA l) from by simpa using hown)
                have hw7 : w.heap.size + 2 ≤ w7.heap.size := Nat.le_trans (by simp; omega) hgr.size
                have hS3 : KS w BS w7 := by
                  rw [HBS.out]; have h := hHeld; rw [HBS.out] at h
                  exact KS_grow2 h hgr (fun r e => (HE.out.lt r e).1)
                have NB := Lib.hid (NB.out.kept hgr (fun e => by simp [Value.ownBlock] at e))
                clear hown hgr
                refine hK.out _ _ hS3 (fun hHeld => ?_)
                clear hK K hS3
                (try simp only [Act.put]); (try simp only [List.setIfInBounds_toArray]); (try simp only [List.set_cons_succ]); (try simp only [List.set_cons_zero])
                refine wpAnyH_ready (rs := [5]) (by kernel_rfl) (by simp) ?_
                refine AllReadyH.cons rfl (fun K hK => ?_) (AllReadyH.nil)
                refine step_append_areas rfl _ _ rfl (w.heap.size + 2) i 1 1 v1 l [⟨L, M, S, F⟩] _ rfl rfl HL.out rfl HV.out (fun e => by cases e) (reads_one NB.out) (by omega) hw7 ?_
                intro v2 w8 hown hgr
                have HX := Lib.hid hown
                have hS3 : KS w BS w8 := by
                  rw [HBS.out]; have h := hHeld; rw [HBS.out] at h
                  exact KS_grow2 h hgr (fun r e => (HV.out.lt r e).1)
                clear hown hgr
                refine hK.out _ _ hS3 (fun hHeld => ?_)
                clear hK K hS3
                (try simp only [Act.put]); (try simp only [List.setIfInBounds_toArray]); (try simp only [List.set_cons_succ]); (try simp only [List.set_cons_zero])
                refine wpAnyH_ready (rs := [6]) (by kernel_rfl) (by simp) ?_
                refine AllReadyH.cons rfl (fun K hK => ?_) (AllReadyH.nil)
                go_simp
                refine hK.out _ _ hHeld (fun hHeld => ?_)
                clear hK K
                (try simp only [Act.put]); (try simp only [List.setIfInBounds_toArray]); (try simp only [List.set_cons_succ]); (try simp only [List.set_cons_zero])
                refine wpAnyH_done (by kernel_rfl) ?_ _
                exact ⟨rfl, (_, _, _, _), rfl, hHeld, HX.out⟩
            · go_simp
              have nb := Blk.new wr.drew #[.int .i64 L, .int .i64 M, .int .i64 S, .int .i64 F] 23
              have NB := Lib.hid nb
              clear nb
              refine hK.out _ _ (hHeld.alloc _) (fun hHeld => ?_)
              clear hK K
              (try simp only [Act.put]); (try simp only [List.setIfInBounds_toArray]); (try simp only [List.set_cons_succ]); (try simp only [List.set_cons_zero])
              refine wpAnyH_ready (rs := [0]) (by kernel_rfl) (by simp) ?_
              refine AllReadyH.cons rfl (fun K hK => ?_) (AllReadyH.nil)
              go_simp
              have hW0 : w.heap.size + 2 ≤ ((wr.drew.alloc (.cells #[.int .i64 L, .int .i64 M, .int .i64 S, .int .i64 F] 23))).heap.size := by simp; omega
              obtain ⟨e8, he8⟩ : ∃ e, e = ((wr.drew.alloc (.cells #[.int .i64 L, .int .i64 M, .int .i64 S, .int .i64 F] 23))).heap.size := ⟨_, rfl⟩
              have he := World.ownsRow_lit (base := w.heap.size + 2) (e := 23) (size := 4) (wr.drew.alloc (.cells #[.int .i64 L, .int .i64 M, .int .i64 S, .int .i64 F] 23)) #[] 0 hW0 (by unfold maxLen; omega) rfl
              rw [World.size_alloc] at he
              have HE := Lib.hid he
              clear he
              have NB := Lib.hid (NB.out.alloc (.cells #[] 23))
              refine hK.out _ _ (hHeld.alloc _) (fun hHeld => ?_)
              clear hK K
              (try simp only [Act.put]); (try simp only [List.setIfInBounds_toArray]); (try simp only [List.set_cons_succ]); (try simp only [List.set_cons_zero])
              refine wpAnyH_ready (rs := [2]) (by kernel_rfl) (by simp) ?_
              refine AllReadyH.cons rfl (fun K hK => ?_) (AllReadyH.nil)
              refine step_append_areas rfl _ _ rfl (w.heap.size + 2) 0 i cap (.slice (some ⟨wr.heap.size + 1, 0, none⟩) 0 0) [] l ad rfl rfl rfl HL.out HE.out HNI.out (HRD.out _ hHeld.bel) (by omega) (by simp; omega) ?_
              intro v1 w7 hown hgr
              have HV := Lib.hid (show w7.ownsRow (w.heap.size + 2) 23 4 v1 i (cellsA l) from by simpa using hown)
              have hw7 : w.heap.size + 2 ≤ w7.heap.size := Nat.le_trans (by simp; omega) hgr.size
              have hS3 : KS w BS w7 := by
                rw [HBS.out]; have h := hHeld; rw [HBS.out] at h
                exact KS_grow2 h hgr (fun r e => (HE.out.lt r e).1)
              have NB := Lib.hid (NB.out.kept hgr (fun e => by simp [Value.ownBlock] at e))
              clear hown hgr
              refine hK.out _ _ hS3 (fun hHeld => ?_)
              clear hK K hS3
              (try simp only [Act.put]); (try simp only [List.setIfInBounds_toArray]); (try simp only [List.set_cons_succ]); (try simp only [List.set_cons_zero])
              refine wpAnyH_ready (rs := [5]) (by kernel_rfl) (by simp) ?_
              refine AllReadyH.cons rfl (fun K hK => ?_) (AllReadyH.nil)
              refine step_append_areas rfl _ _ rfl (w.heap.size + 2) i 1 1 v1 l [⟨L, M, S, F⟩] _ rfl rfl HL.out rfl HV.out (fun e => by cases e) (reads_one NB.out) (by omega) hw7 ?_
              intro v2 w8 hown hgr
              have HX := Lib.hid hown
              have hS3 : KS w BS w8 := by
                rw [HBS.out]; have h := hHeld; rw [HBS.out] at h
                exact KS_grow2 h hgr (fun r e => (HV.out.lt r e).1)
              clear hown hgr
              refine hK.out _ _ hS3 (fun hHeld => ?_)
              clear hK K hS3
              (try simp only [Act.put]); (try simp only [List.setIfInBounds_toArray]); (try simp only [List.set_cons_succ]); (try simp only [List.set_cons_zero])
              refine wpAnyH_ready (rs := [6]) (by kernel_rfl) (by simp) ?_
              refine AllReadyH.cons rfl (fun K hK => ?_) (AllReadyH.nil)
              go_simp
              refine hK.out _ _ hHeld (fun hHeld => ?_)
              clear hK K
              (try simp only [Act.put]); (try simp only [List.setIfInBounds_toArray]); (try simp only [List.set_cons_succ]); (try simp only [List.set_cons_zero])
              refine wpAnyH_done (by kernel_rfl) ?_ _
              exact ⟨rfl, (_, _, _, _), rfl, hHeld, HX.out⟩
          · rintro ⟨e8, b8, v8, vx⟩ W8 ⟨hS8, hX8⟩
            obtain ⟨n1, hn1⟩ : ∃ u, u = i + 1 := ⟨_, rfl⟩
            rw [← hn1] at hX8
            obtain ⟨gx, cx, rfl⟩ := Joins.ownsRow_form hX8 (by omega)
            obtain ⟨k, hk⟩ : ∃ u, u = k0 % n1 := ⟨_, rfl⟩
            have hkn : k < n1 := by rw [hk]; exact Nat.mod_lt k0 (by omega)
            have erem : (k0 : Int).tmod (n1 : Int) = (k : Int) := by rw [hk]; exact (Int.ofNat_tmod k0 n1).symm
            have erem2 : (k0 : Int) % (n1 : Int) = (k : Int) := by rw [hk]; exact (Int.natCast_emod k0 n1).symm
            have ek0 : IntKind.i64.wrap (k0 : Int) = (k0 : Int) := IntWalk.i64_in _ (by omega)
            have ek : IntKind.i64.wrap (k : Int) = (k : Int) := IntWalk.i64_in _ (by omega)
            have nz1 : ¬ (n1 : Int) = 0 := by omega
            have nz2 : ¬ n1 = 0 := by omega
            have HX8 := Lib.hid hX8
            have HS8 := Lib.hid hS8
            have HN1 := Lib.hid hn1
            clear hX8 hS8 hn1 hk
            simp only [Act.put, List.setIfInBounds_toArray, List.set_cons_zero, List.set_cons_succ]
            go_wp2_with fail
            have hcx : n1 ≤ cx := by
              rcases HX8.out.2 with ⟨e, _⟩ | ⟨g2, cap2, cur2, e, _, _, h2, _⟩
              · cases e
              · cases e; exact h2
            have hxl : (l ++ [(⟨L, M, S, F⟩ : A4)]).length = n1 := by rw [List.length_append, HL.out, HN1.out]; rfl
            have hn6 : n1 ≤ 6 := by have := HN1.out; omega
            have hlt8 := HS8.out.ltAll
            have hsz8 : w.heap.size + 2 ≤ W8.heap.size := by have := hlt8 (w.heap.size + 1, #[.int .i64 n, .int .i64 d], 36) (by rw [HBS.out]; simp); have h2 : w.heap.size + 1 < W8.heap.size := this; omega
            have hgx := HX8.out.lt gx rfl
            have i0 : (0 : Int) ≤ (k : Int) := by omega
            have i1 : (k : Int) ≤ (n1 : Int) := by omega
            have i2 : (n1 : Int) ≤ (cx : Int) := by omega
            have i3 : (k : Int) ≤ (cx : Int) := by omega
            have i4 : k ≤ n1 := by omega
            have i5 : k ≤ cx := by omega
            have i6 : ¬ cx = k := by omega
            have HXA := Lib.hid (own_areas HX8.out hxl)
            have hS : KS w BS W8.drew := HS8.out.drew
            clear hlt8
            refine wp_joinA (ι := Nat × Value × Value) (f := fun aa bb => ((((((((((aa.put (some 60) (.slice (some ⟨gx, 0, none⟩) n1 cx)).put (some 61) (.int .i64 (k : Int))).put (some 62) (.slice (some ⟨gx, k * 4, none⟩) (n1 - k) (cx - k))).put (some 64) (.slice (some ⟨gx, 0, none⟩) n1 cx)).put (some 65) (.int .i64 (k : Int))).put (some 66) (.slice (some ⟨gx, 0, none⟩) k cx)).put (some 59) (.slice (some ⟨bb.1, 0, none⟩) 0 0)).put (some 63) (bb.2.1)).put (some 67) (bb.2.2)).put (some 12) (bb.2.2))) (mid := fun bb W' => KS w BS W' ∧ W'.ownsRow (w.heap.size + 2) 23 4 (.slice (some ⟨gx, 0, none⟩) n1 cx) n1 (cellsA (l ++ [(⟨L, M, S, F⟩ : A4)])) ∧ W'.ownsRow W8.heap.size 23 4 bb.2.2 n1 (cellsA ((l ++ [(⟨L, M, S, F⟩ : A4)]).drop k ++ (l ++ [(⟨L, M, S, F⟩ : A4)]).take k))) ?_ ?_
            · refine wp_region_held_drew (S := KS w BS) (by kernel_rfl) hS (fun hHeld => ?_)
              clear hS
              refine wpAnyH_take (i := 1) (v := ?_) rfl (by kernel_rfl) (by kernel_rfl) (by kernel_rfl) (fun _ _ _ h => (by cases h.1)) (Or.inl ⟨by rfl, ?h1⟩) hHeld ?_
              case h1 =>
                intro w' hSw
                (try dsimp only at hSw)
                go_simp
                (try with_reducible rfl)
              (try simp only [Act.put]); (try simp only [List.setIfInBounds_toArray]); (try simp only [List.set_cons_succ]); (try simp only [List.set_cons_zero])
              refine wpAnyH_take (i := 2) (v := ?_) rfl (by kernel_rfl) (by kernel_rfl) (by kernel_rfl) (fun _ _ _ h => (by cases h.1)) (Or.inl ⟨by rfl, ?h2⟩) hHeld ?_
              case h2 =>
                intro w' hSw
                (try dsimp only at hSw)
                go_simp
                (try with_reducible rfl)
              (try simp only [Act.put]); (try simp only [List.setIfInBounds_toArray]); (try simp only [List.set_cons_succ]); (try simp only [List.set_cons_zero])
              refine wpAnyH_take (i := 3) (v := ?_) rfl (by kernel_rfl) (by kernel_rfl) (by kernel_rfl) (fun _ _ _ h => (by cases h.1)) (Or.inl ⟨by rfl, ?h3⟩) hHeld ?_
              case h3 =>
                intro w' hSw
                (try dsimp only at hSw)
                go_simp
                (try with_reducible rfl)
              (try simp only [Act.put]); (try simp only [List.setIfInBounds_toArray]); (try simp only [List.set_cons_succ]); (try simp only [List.set_cons_zero])
              refine wpAnyH_take (i := 5) (v := ?_) rfl (by kernel_rfl) (by kernel_rfl) (by kernel_rfl) (fun _ _ _ h => (by cases h.1)) (Or.inl ⟨by rfl, ?h5⟩) hHeld ?_
              case h5 =>
                intro w' hSw
                (try dsimp only at hSw)
                go_simp
                (try with_reducible rfl)
              (try simp only [Act.put]); (try simp only [List.setIfInBounds_toArray]); (try simp only [List.set_cons_succ]); (try simp only [List.set_cons_zero])
              refine wpAnyH_take (i := 6) (v := ?_) rfl (by kernel_rfl) (by kernel_rfl) (by kernel_rfl) (fun _ _ _ h => (by cases h.1)) (Or.inl ⟨by rfl, ?h6⟩) hHeld ?_
              case h6 =>
                intro w' hSw
                (try dsimp only at hSw)
                go_simp
                (try with_reducible rfl)
              (try simp only [Act.put]); (try simp only [List.setIfInBounds_toArray]); (try simp only [List.set_cons_succ]); (try simp only [List.set_cons_zero])
              refine wpAnyH_take (i := 7) (v := ?_) rfl (by kernel_rfl) (by kernel_rfl) (by kernel_rfl) (fun _ _ _ h => (by cases h.1)) (Or.inl ⟨by rfl, ?h7⟩) hHeld ?_
              case h7 =>
                intro w' hSw
                (try dsimp only at hSw)
                go_simp
                (try with_reducible rfl)
              (try simp only [Act.put]); (try simp only [List.setIfInBounds_toArray]); (try simp only [List.set_cons_succ]); (try simp only [List.set_cons_zero])
              refine wpAnyH_ready (rs := [0]) (by kernel_rfl) (by simp) ?_
              refine AllReadyH.cons rfl (fun K hK => ?_) (AllReadyH.nil)
              go_simp
              have HE := Lib.hid (World.ownsRow_lit (base := W8.heap.size) (e := 23) (size := 4) W8.drew #[] 0 (Nat.le_refl _) (by unfold maxLen; omega) rfl)
              have HXo := Lib.hid ((HX8.out.drew).alloc (.cells #[] 23))
              refine hK.out _ _ (hHeld.alloc _) (fun hHeld => ?_)
              clear hK K
              (try simp only [Act.put]); (try simp only [List.setIfInBounds_toArray]); (try simp only [List.set_cons_succ]); (try simp only [List.set_cons_zero])
              refine wpAnyH_ready (rs := [4]) (by kernel_rfl) (by simp) ?_
              refine AllReadyH.cons rfl (fun K hK => ?_) (AllReadyH.nil)
              refine step_append_areas rfl _ _ rfl W8.heap.size 0 (n1 - k) (cx - k) (.slice (some ⟨W8.heap.size, 0, none⟩) 0 0) [] ((l ++ [(⟨L, M, S, F⟩ : A4)]).drop k) (some ⟨gx, k * 4, none⟩) rfl rfl rfl (by rw [List.length_drop, hxl]) HE.out (fun e => by cases e) (fun adr e => by cases e; have h := areas_drop (own_areas HXo.out hxl) k; rw [Nat.zero_add] at h; exact reads_areas h) (by omega) (by simp) ?_
              intro v1 w7 hown hgr
              have HV := Lib.hid (show w7.ownsRow W8.heap.size 23 4 v1 (n1 - k) (cellsA ((l ++ [(⟨L, M, S, F⟩ : A4)]).drop k)) from by simpa using hown)
              have hw7 : W8.heap.size ≤ w7.heap.size := Nat.le_trans (by simp) hgr.size
              have hS3 : KS w BS w7 := by
                rw [HBS.out]; have h := hHeld; rw [HBS.out] at h
                exact KS_grow2 h hgr (fun r e => Nat.le_trans hsz8 (HE.out.lt r e).1)
              have HXo := Lib.hid (HXo.out.kept hgr (by refine .inr (fun e => ?_); have h1 := (HE.out.lt gx e.symm).1; omega))
              clear hown hgr
              refine hK.out _ _ hS3 (fun hHeld => ?_)
              clear hK K hS3
              (try simp only [Act.put]); (try simp only [List.setIfInBounds_toArray]); (try simp only [List.set_cons_succ]); (try simp only [List.set_cons_zero])
              refine wpAnyH_ready (rs := [8]) (by kernel_rfl) (by simp) ?_
              refine AllReadyH.cons rfl (fun K hK => ?_) (AllReadyH.nil)
              refine step_append_areas rfl _ _ rfl W8.heap.size (n1 - k) k cx v1 ((l ++ [(⟨L, M, S, F⟩ : A4)]).drop k) ((l ++ [(⟨L, M, S, F⟩ : A4)]).take k) (some ⟨gx, 0, none⟩) rfl rfl (by rw [List.length_drop, hxl]) (by rw [List.length_take, hxl]; omega) HV.out (fun e => by cases e) (fun adr e => by cases e; exact reads_areas (areas_take (own_areas HXo.out hxl) k)) (by omega) hw7 ?_
              intro v2 w8 hown hgr
              have HY := Lib.hid hown
              have hS3 : KS w BS w8 := by
                rw [HBS.out]; have h := hHeld; rw [HBS.out] at h
                exact KS_grow2 h hgr (fun r e => Nat.le_trans hsz8 (HV.out.lt r e).1)
              have HXo := Lib.hid (HXo.out.kept hgr (by refine .inr (fun e => ?_); have h1 := (HV.out.lt gx e.symm).1; omega))
              clear hown hgr
              refine hK.out _ _ hS3 (fun hHeld => ?_)
              clear hK K hS3
              (try simp only [Act.put]); (try simp only [List.setIfInBounds_toArray]); (try simp only [List.set_cons_succ]); (try simp only [List.set_cons_zero])
              refine wpAnyH_ready (rs := [9]) (by kernel_rfl) (by simp) ?_
              refine AllReadyH.cons rfl (fun K hK => ?_) (AllReadyH.nil)
              go_simp
              refine hK.out _ _ hHeld (fun hHeld => ?_)
              clear hK K
              (try simp only [Act.put]); (try simp only [List.setIfInBounds_toArray]); (try simp only [List.set_cons_succ]); (try simp only [List.set_cons_zero])
              refine wpAnyH_done (by kernel_rfl) ?_ _
              have hy9 := HY.out
              rw [show n1 - k + k = n1 by omega] at hy9
              exact ⟨rfl, (_, _, _), rfl, hHeld, HXo.out, hy9⟩
            · rintro ⟨e10, v10, vy⟩ W10 ⟨hS10, hX10, hY10⟩
              simp only [Act.put, List.setIfInBounds_toArray, List.set_cons_zero, List.set_cons_succ]
              obtain ⟨gy, cy, rfl⟩ := Joins.ownsRow_form hY10 (by omega)
              have hyl : ((l ++ [(⟨L, M, S, F⟩ : A4)]).drop k ++ (l ++ [(⟨L, M, S, F⟩ : A4)]).take k).length = n1 := by rw [List.length_append, List.length_drop, List.length_take, hxl]; omega
              have hax := own_areas hX10 hxl
              have hay := own_areas hY10 hyl
              have hgX := (hX10.lt gx rfl).2
              have hgY := (hY10.lt gy rfl).2
              have hl0 : l ≠ [] → g < W10.heap.size := fun h => Nat.lt_of_lt_of_le (HB.out h) hS10.2.size
              have hal : AreasAt W10 g o l := by
                by_cases hne : l = []
                · subst hne; intro i a e; simp at e
                · exact HAT.out.below hS10.2 (HB.out hne)
              obtain ⟨V, hV10⟩ : ∃ V, V = W10 := ⟨_, rfl⟩
              subst hV10
              have AR11 := Lib.hid (Areas_ak ad g o cap i l V HL.out HAD.out hl0 (by omega) hal)
              have AR12 := Lib.hid (Areas_ak (some ⟨gx, 0, none⟩) gx 0 cx n1 (l ++ [(⟨L, M, S, F⟩ : A4)]) V hxl (fun _ => rfl) (fun _ => hgX) (by omega) hax)
              have AR13 := Lib.hid (Areas_ak (some ⟨gy, 0, none⟩) gy 0 cy n1 ((l ++ [(⟨L, M, S, F⟩ : A4)]).drop k ++ (l ++ [(⟨L, M, S, F⟩ : A4)]).take k) V hyl (fun _ => rfl) (fun _ => hgY) (by omega) hay)
              obtain ⟨x1, y1, z1, x2, y2, z2, x4, y4, z4, hC, to1, to2, to3, to4⟩ := areas_calls (L := L) (M := M) (S := S) (F := F) (n := n) (d := d) (k := k) HL.out (by omega) HN1.out HOK.out hA hV
              have HC := Lib.hid hC
              have TO11 := Lib.hid to1
              have TO12 := Lib.hid to2
              have TO13 := Lib.hid to3
              have TO14 := Lib.hid to4
              have hs11 : KS V BS V := ⟨hS10.1, Below.refl _ _⟩
              rw [HBS.out] at hs11
              have S11 := Lib.hid hs11
              have HBV := Lib.hid hS10.2
              clear hs11 hC to1 to2 to3 to4 hax hay hgX hgY hl0 hal hX10 hY10 hS10 HX8 HS8 HBS hxl hyl hcx hn6 hsz8 hgx i0 i1 i2 i3 i4 i5 i6 HXA hkn erem erem2 ek0 ek nz1 nz2 HAT HB HOK
              go_wp2_with fail
              obtain ⟨BS, hBS⟩ : ∃ BS : List (Nat × Array Value × TypeId), BS = [(w.heap.size + 1, #[.int .i64 n, .int .i64 d], 36), (w.heap.size, #[.int .i64 L, .int .i64 M, .int .i64 S, .int .i64 F], 23)] := ⟨_, rfl⟩
              have hS : KS V BS V := by rw [hBS]; exact S11.out
              have K0 : ∀ W, KS V BS W → W.cell? ⟨w.heap.size + 1, 0, none⟩ = some (.int .i64 n) := fun W h => by rw [hBS] at h; exact (h.blkAt 0 rfl).cell 0
              have K1 : ∀ W, KS V BS W → W.cell? ⟨w.heap.size + 1, 1, none⟩ = some (.int .i64 d) := fun W h => by rw [hBS] at h; exact (h.blkAt 0 rfl).cell 1
              have KZ0 : ∀ W b, KZ V BS b #[.int .i64 0, .int .i64 0] 48 W → W.cell? ⟨b, 0, none⟩ = some (.int .i64 0) := fun W b h => h.c0
              have KF0 : ∀ W b, KZ V BS b #[.int .i64 0, .int .i64 0] 48 W → W.frozen? ⟨b, 0, none⟩ = false := fun W b h => h.f 0
              have KZ1 : ∀ W b, KZ V BS b #[.int .i64 0, .int .i64 0] 48 W → W.cell? ⟨b, 1, none⟩ = some (.int .i64 0) := fun W b h => h.c1
              have KF1 : ∀ W b, KZ V BS b #[.int .i64 0, .int .i64 0] 48 W → W.frozen? ⟨b, 1, none⟩ = false := fun W b h => h.f 1
              have HBS2 := Lib.hid hBS
              clear hBS
              refine wp_joinA (ι := Nat × Value) (f := fun aa bb => ((((((((((aa.put (some 69) (.slice ad i cap)).put (some 70) (bb.2)).put (some 71) (.agg #[.int .i64 n, .int .i64 d])).put (some 72) (.agg #[.int .i64 n, .int .i64 d])).put (some 73) (.tuple #[.agg #[.int .i64 x1, .int .i64 y1], .int .i64 z1])).put (some 68) (.tuple #[.agg #[.int .i64 x1, .int .i64 y1], .int .i64 z1])).put (some 74) (.agg #[.int .i64 x1, .int .i64 y1])).put (some 75) (.int .i64 z1)).put (some 14) (.int .i64 z1)).put (some 13) (.pointer (some ⟨bb.1, 0, none⟩)))) (mid := fun bb W' => KS V ((bb.1, #[.int .i64 x1, .int .i64 y1], 48) :: BS) W') ?_ ?_
              · go_region_held3 (KS V BS)
                  (first | assumption | exact KS.drew (by assumption) | exact KS.alloc (by assumption) _ | exact KS.drew (KS.alloc (by assumption) _) | exact KS.alloc (KS.drew (by assumption)) _ | exact KZ.ks (by assumption) | exact (KZ.new (by assumption) _ _).ks | exact KZ.keep2 (by assumption) | exact (KZ.keep2 (by assumption)).drew | exact (KZ.drew (by assumption)).keep2 | go_keep)
                  (first | (go_at_call 32; (with_reducible refine (AR11.out _ (KS.bel (w := V) (bs := BS) (by first | assumption | exact KS.drew (by assumption) | exact KS.alloc (by assumption) _))).mono ?_); rintro e wn ⟨a, g', c, rfl, hA, hb⟩; have hSn := KS.below (w := V) (bs := BS) (by first | assumption | exact KS.drew (by assumption)) hb; (first | (have hZ := KZ.below (w := V) (bs := BS) (cs := #[.int .i64 0, .int .i64 0]) (t := 48) (by assumption) hb) | (have hZ := KZ.below (w := V) (bs := BS) (KZ.new (by assumption) #[.int .i64 0, .int .i64 0] 48) hb) | (have hZ := KZ.below (w := V) (bs := BS) (KZ.newD (by assumption) #[.int .i64 0, .int .i64 0] 48) hb) | skip); clear hb) | (go_at_call 25; (with_reducible refine (part_any _ _ _).mono ?_); rintro e wn ⟨rfl, hb⟩; have hSn := KS.below (w := V) (bs := BS) (by first | assumption | exact KS.drew (by assumption)) hb; (first | (have hZ := KZ.below (w := V) (bs := BS) (cs := #[.int .i64 0, .int .i64 0]) (t := 48) (by assumption) hb) | (have hZ := KZ.below (w := V) (bs := BS) (KZ.new (by assumption) #[.int .i64 0, .int .i64 0] 48) hb) | (have hZ := KZ.below (w := V) (bs := BS) (KZ.newD (by assumption) #[.int .i64 0, .int .i64 0] 48) hb) | skip); have hA := AK.below (xs := l) (by first | assumption | exact AK.drew (by assumption) | exact AK.alloc (by assumption) _ | exact AK.drew (AK.alloc (by assumption) _)) hb; clear hb) | (go_at_call 31; (with_reducible refine (TO11.out _ _ _ _ (by first | assumption | exact AK.drew (by assumption) | exact AK.alloc (by assumption) _ | exact AK.drew (AK.alloc (by assumption) _))).mono ?_); rintro e wn ⟨rfl, hb⟩; have hSn := KS.below (w := V) (bs := BS) (by first | assumption | exact KS.drew (by assumption)) hb; (first | (have hZ := KZ.below (w := V) (bs := BS) (cs := #[.int .i64 0, .int .i64 0]) (t := 48) (by assumption) hb) | (have hZ := KZ.below (w := V) (bs := BS) (KZ.new (by assumption) #[.int .i64 0, .int .i64 0] 48) hb) | (have hZ := KZ.below (w := V) (bs := BS) (KZ.newD (by assumption) #[.int .i64 0, .int .i64 0] 48) hb) | skip); clear hb))
                all_goals first | exact ⟨rfl, (_, _), rfl, KS.new (by assumption) _ _⟩ | exact ⟨rfl, (_, _), rfl, KZ.set2 (by assumption)⟩ | exact ⟨rfl, (_, _), rfl, KZ.set2D (by assumption)⟩ | exact ⟨rfl, (_, _), rfl, (KZ.set2 (by assumption)).drew⟩
              rintro ⟨m1, nv11⟩ V12 hM
              simp only [Act.put, List.setIfInBounds_toArray, List.set_cons_zero, List.set_cons_succ] at hM ⊢
              have s12 : KS V ((m1, #[.int .i64 x1, .int .i64 y1], 48) :: [(w.heap.size + 1, #[.int .i64 n, .int .i64 d], 36), (w.heap.size, #[.int .i64 L, .int .i64 M, .int .i64 S, .int .i64 F], 23)]) V12 := by have h := hM; rw [HBS2.out] at h; exact h
              clear hS hM HBS2 KZ0 KZ1 KF0 KF1 K0 K1
              have S12 := Lib.hid s12
              clear s12
              clear AR11 TO11 S11
              go_wp2_with fail
              obtain ⟨BS, hBS⟩ : ∃ BS : List (Nat × Array Value × TypeId), BS = ((m1, #[.int .i64 x1, .int .i64 y1], 48) :: [(w.heap.size + 1, #[.int .i64 n, .int .i64 d], 36), (w.heap.size, #[.int .i64 L, .int .i64 M, .int .i64 S, .int .i64 F], 23)]) := ⟨_, rfl⟩
              have hS : KS V BS V12 := by rw [hBS]; exact S12.out
              have K0 : ∀ W, KS V BS W → W.cell? ⟨w.heap.size + 1, 0, none⟩ = some (.int .i64 n) := fun W h => by rw [hBS] at h; exact (h.blkAt 1 rfl).cell 0
              have K1 : ∀ W, KS V BS W → W.cell? ⟨w.heap.size + 1, 1, none⟩ = some (.int .i64 d) := fun W h => by rw [hBS] at h; exact (h.blkAt 1 rfl).cell 1
              have KZ0 : ∀ W b, KZ V BS b #[.int .i64 0, .int .i64 0] 48 W → W.cell? ⟨b, 0, none⟩ = some (.int .i64 0) := fun W b h => h.c0
              have KF0 : ∀ W b, KZ V BS b #[.int .i64 0, .int .i64 0] 48 W → W.frozen? ⟨b, 0, none⟩ = false := fun W b h => h.f 0
              have KZ1 : ∀ W b, KZ V BS b #[.int .i64 0, .int .i64 0] 48 W → W.cell? ⟨b, 1, none⟩ = some (.int .i64 0) := fun W b h => h.c1
              have KF1 : ∀ W b, KZ V BS b #[.int .i64 0, .int .i64 0] 48 W → W.frozen? ⟨b, 1, none⟩ = false := fun W b h => h.f 1
              have HBS2 := Lib.hid hBS
              clear hBS
              refine wp_joinA (ι := Nat × Value) (f := fun aa bb => ((((((((((aa.put (some 77) (.slice (some ⟨gx, 0, none⟩) n1 cx)).put (some 78) (bb.2)).put (some 79) (.agg #[.int .i64 n, .int .i64 d])).put (some 80) (.agg #[.int .i64 n, .int .i64 d])).put (some 81) (.tuple #[.agg #[.int .i64 x2, .int .i64 y2], .int .i64 z2])).put (some 76) (.tuple #[.agg #[.int .i64 x2, .int .i64 y2], .int .i64 z2])).put (some 82) (.agg #[.int .i64 x2, .int .i64 y2])).put (some 83) (.int .i64 z2)).put (some 16) (.int .i64 z2)).put (some 15) (.pointer (some ⟨bb.1, 0, none⟩)))) (mid := fun bb W' => KS V ((bb.1, #[.int .i64 x2, .int .i64 y2], 48) :: BS) W') ?_ ?_
              · go_region_held3 (KS V BS)
                  (first | assumption | exact KS.drew (by assumption) | exact KS.alloc (by assumption) _ | exact KS.drew (KS.alloc (by assumption) _) | exact KS.alloc (KS.drew (by assumption)) _ | exact KZ.ks (by assumption) | exact (KZ.new (by assumption) _ _).ks | exact KZ.keep2 (by assumption) | exact (KZ.keep2 (by assumption)).drew | exact (KZ.drew (by assumption)).keep2 | go_keep)
                  (first | (go_at_call 32; (with_reducible refine (AR12.out _ (KS.bel (w := V) (bs := BS) (by first | assumption | exact KS.drew (by assumption) | exact KS.alloc (by assumption) _))).mono ?_); rintro e wn ⟨a, g', c, rfl, hA, hb⟩; have hSn := KS.below (w := V) (bs := BS) (by first | assumption | exact KS.drew (by assumption)) hb; (first | (have hZ := KZ.below (w := V) (bs := BS) (cs := #[.int .i64 0, .int .i64 0]) (t := 48) (by assumption) hb) | (have hZ := KZ.below (w := V) (bs := BS) (KZ.new (by assumption) #[.int .i64 0, .int .i64 0] 48) hb) | (have hZ := KZ.below (w := V) (bs := BS) (KZ.newD (by assumption) #[.int .i64 0, .int .i64 0] 48) hb) | skip); clear hb) | (go_at_call 25; (with_reducible refine (part_any _ _ _).mono ?_); rintro e wn ⟨rfl, hb⟩; have hSn := KS.below (w := V) (bs := BS) (by first | assumption | exact KS.drew (by assumption)) hb; (first | (have hZ := KZ.below (w := V) (bs := BS) (cs := #[.int .i64 0, .int .i64 0]) (t := 48) (by assumption) hb) | (have hZ := KZ.below (w := V) (bs := BS) (KZ.new (by assumption) #[.int .i64 0, .int .i64 0] 48) hb) | (have hZ := KZ.below (w := V) (bs := BS) (KZ.newD (by assumption) #[.int .i64 0, .int .i64 0] 48) hb) | skip); have hA := AK.below (xs := (l ++ [(⟨L, M, S, F⟩ : A4)])) (by first | assumption | exact AK.drew (by assumption) | exact AK.alloc (by assumption) _ | exact AK.drew (AK.alloc (by assumption) _)) hb; clear hb) | (go_at_call 31; (with_reducible refine (TO12.out _ _ _ _ (by first | assumption | exact AK.drew (by assumption) | exact AK.alloc (by assumption) _ | exact AK.drew (AK.alloc (by assumption) _))).mono ?_); rintro e wn ⟨rfl, hb⟩; have hSn := KS.below (w := V) (bs := BS) (by first | assumption | exact KS.drew (by assumption)) hb; (first | (have hZ := KZ.below (w := V) (bs := BS) (cs := #[.int .i64 0, .int .i64 0]) (t := 48) (by assumption) hb) | (have hZ := KZ.below (w := V) (bs := BS) (KZ.new (by assumption) #[.int .i64 0, .int .i64 0] 48) hb) | (have hZ := KZ.below (w := V) (bs := BS) (KZ.newD (by assumption) #[.int .i64 0, .int .i64 0] 48) hb) | skip); clear hb))
                all_goals first | exact ⟨rfl, (_, _), rfl, KS.new (by assumption) _ _⟩ | exact ⟨rfl, (_, _), rfl, KZ.set2 (by assumption)⟩ | exact ⟨rfl, (_, _), rfl, KZ.set2D (by assumption)⟩ | exact ⟨rfl, (_, _), rfl, (KZ.set2 (by assumption)).drew⟩
              rintro ⟨m2, nv12⟩ V13 hM
              simp only [Act.put, List.setIfInBounds_toArray, List.set_cons_zero, List.set_cons_succ] at hM ⊢
              have s13 : KS V ((m2, #[.int .i64 x2, .int .i64 y2], 48) :: ((m1, #[.int .i64 x1, .int .i64 y1], 48) :: [(w.heap.size + 1, #[.int .i64 n, .int .i64 d], 36), (w.heap.size, #[.int .i64 L, .int .i64 M, .int .i64 S, .int .i64 F], 23)])) V13 := by have h := hM; rw [HBS2.out] at h; exact h
              clear hS hM HBS2 KZ0 KZ1 KF0 KF1 K0 K1
              have S13 := Lib.hid s13
              clear s13
              clear AR12 TO12 S12
              go_wp2_with fail
              obtain ⟨BS, hBS⟩ : ∃ BS : List (Nat × Array Value × TypeId), BS = ((m2, #[.int .i64 x2, .int .i64 y2], 48) :: (m1, #[.int .i64 x1, .int .i64 y1], 48) :: [(w.heap.size + 1, #[.int .i64 n, .int .i64 d], 36), (w.heap.size, #[.int .i64 L, .int .i64 M, .int .i64 S, .int .i64 F], 23)]) := ⟨_, rfl⟩
              have hS : KS V BS V13 := by rw [hBS]; exact S13.out
              have K0 : ∀ W, KS V BS W → W.cell? ⟨w.heap.size + 1, 0, none⟩ = some (.int .i64 n) := fun W h => by rw [hBS] at h; exact (h.blkAt 2 rfl).cell 0
              have K1 : ∀ W, KS V BS W → W.cell? ⟨w.heap.size + 1, 1, none⟩ = some (.int .i64 d) := fun W h => by rw [hBS] at h; exact (h.blkAt 2 rfl).cell 1
              have KZ0 : ∀ W b, KZ V BS b #[.int .i64 0, .int .i64 0] 48 W → W.cell? ⟨b, 0, none⟩ = some (.int .i64 0) := fun W b h => h.c0
              have KF0 : ∀ W b, KZ V BS b #[.int .i64 0, .int .i64 0] 48 W → W.frozen? ⟨b, 0, none⟩ = false := fun W b h => h.f 0
              have KZ1 : ∀ W b, KZ V BS b #[.int .i64 0, .int .i64 0] 48 W → W.cell? ⟨b, 1, none⟩ = some (.int .i64 0) := fun W b h => h.c1
              have KF1 : ∀ W b, KZ V BS b #[.int .i64 0, .int .i64 0] 48 W → W.frozen? ⟨b, 1, none⟩ = false := fun W b h => h.f 1
              have HBS2 := Lib.hid hBS
              clear hBS
              refine wp_joinA (ι := Nat × Value) (f := fun aa bb => ((((((((((aa.put (some 85) (.slice (some ⟨gy, 0, none⟩) n1 cy)).put (some 86) (bb.2)).put (some 87) (.agg #[.int .i64 n, .int .i64 d])).put (some 88) (.agg #[.int .i64 n, .int .i64 d])).put (some 89) (.tuple #[.agg #[.int .i64 x2, .int .i64 y2], .int .i64 z2])).put (some 84) (.tuple #[.agg #[.int .i64 x2, .int .i64 y2], .int .i64 z2])).put (some 90) (.agg #[.int .i64 x2, .int .i64 y2])).put (some 91) (.int .i64 z2)).put (some 18) (.int .i64 z2)).put (some 17) (.pointer (some ⟨bb.1, 0, none⟩)))) (mid := fun bb W' => KS V ((bb.1, #[.int .i64 x2, .int .i64 y2], 48) :: BS) W') ?_ ?_
              · go_region_held3 (KS V BS)
                  (first | assumption | exact KS.drew (by assumption) | exact KS.alloc (by assumption) _ | exact KS.drew (KS.alloc (by assumption) _) | exact KS.alloc (KS.drew (by assumption)) _ | exact KZ.ks (by assumption) | exact (KZ.new (by assumption) _ _).ks | exact KZ.keep2 (by assumption) | exact (KZ.keep2 (by assumption)).drew | exact (KZ.drew (by assumption)).keep2 | go_keep)
                  (first | (go_at_call 32; (with_reducible refine (AR13.out _ (KS.bel (w := V) (bs := BS) (by first | assumption | exact KS.drew (by assumption) | exact KS.alloc (by assumption) _))).mono ?_); rintro e wn ⟨a, g', c, rfl, hA, hb⟩; have hSn := KS.below (w := V) (bs := BS) (by first | assumption | exact KS.drew (by assumption)) hb; (first | (have hZ := KZ.below (w := V) (bs := BS) (cs := #[.int .i64 0, .int .i64 0]) (t := 48) (by assumption) hb) | (have hZ := KZ.below (w := V) (bs := BS) (KZ.new (by assumption) #[.int .i64 0, .int .i64 0] 48) hb) | (have hZ := KZ.below (w := V) (bs := BS) (KZ.newD (by assumption) #[.int .i64 0, .int .i64 0] 48) hb) | skip); clear hb) | (go_at_call 25; (with_reducible refine (part_any _ _ _).mono ?_); rintro e wn ⟨rfl, hb⟩; have hSn := KS.below (w := V) (bs := BS) (by first | assumption | exact KS.drew (by assumption)) hb; (first | (have hZ := KZ.below (w := V) (bs := BS) (cs := #[.int .i64 0, .int .i64 0]) (t := 48) (by assumption) hb) | (have hZ := KZ.below (w := V) (bs := BS) (KZ.new (by assumption) #[.int .i64 0, .int .i64 0] 48) hb) | (have hZ := KZ.below (w := V) (bs := BS) (KZ.newD (by assumption) #[.int .i64 0, .int .i64 0] 48) hb) | skip); have hA := AK.below (xs := ((l ++ [(⟨L, M, S, F⟩ : A4)]).drop k ++ (l ++ [(⟨L, M, S, F⟩ : A4)]).take k)) (by first | assumption | exact AK.drew (by assumption) | exact AK.alloc (by assumption) _ | exact AK.drew (AK.alloc (by assumption) _)) hb; clear hb) | (go_at_call 31; (with_reducible refine (TO13.out _ _ _ _ (by first | assumption | exact AK.drew (by assumption) | exact AK.alloc (by assumption) _ | exact AK.drew (AK.alloc (by assumption) _))).mono ?_); rintro e wn ⟨rfl, hb⟩; have hSn := KS.below (w := V) (bs := BS) (by first | assumption | exact KS.drew (by assumption)) hb; (first | (have hZ := KZ.below (w := V) (bs := BS) (cs := #[.int .i64 0, .int .i64 0]) (t := 48) (by assumption) hb) | (have hZ := KZ.below (w := V) (bs := BS) (KZ.new (by assumption) #[.int .i64 0, .int .i64 0] 48) hb) | (have hZ := KZ.below (w := V) (bs := BS) (KZ.newD (by assumption) #[.int .i64 0, .int .i64 0] 48) hb) | skip); clear hb))
                all_goals first | exact ⟨rfl, (_, _), rfl, KS.new (by assumption) _ _⟩ | exact ⟨rfl, (_, _), rfl, KZ.set2 (by assumption)⟩ | exact ⟨rfl, (_, _), rfl, KZ.set2D (by assumption)⟩ | exact ⟨rfl, (_, _), rfl, (KZ.set2 (by assumption)).drew⟩
              rintro ⟨m3, nv13⟩ V14 hM
              simp only [Act.put, List.setIfInBounds_toArray, List.set_cons_zero, List.set_cons_succ] at hM ⊢
              have s14 : KS V ((m3, #[.int .i64 x2, .int .i64 y2], 48) :: ((m2, #[.int .i64 x2, .int .i64 y2], 48) :: (m1, #[.int .i64 x1, .int .i64 y1], 48) :: [(w.heap.size + 1, #[.int .i64 n, .int .i64 d], 36), (w.heap.size, #[.int .i64 L, .int .i64 M, .int .i64 S, .int .i64 F], 23)])) V14 := by have h := hM; rw [HBS2.out] at h; exact h
              clear hS hM HBS2 KZ0 KZ1 KF0 KF1 K0 K1
              have S14 := Lib.hid s14
              clear s14
              clear AR13 TO13 S13
              go_wp2_with fail
              obtain ⟨BS, hBS⟩ : ∃ BS : List (Nat × Array Value × TypeId), BS = ((m3, #[.int .i64 x2, .int .i64 y2], 48) :: (m2, #[.int .i64 x2, .int .i64 y2], 48) :: (m1, #[.int .i64 x1, .int .i64 y1], 48) :: [(w.heap.size + 1, #[.int .i64 n, .int .i64 d], 36), (w.heap.size, #[.int .i64 L, .int .i64 M, .int .i64 S, .int .i64 F], 23)]) := ⟨_, rfl⟩
              have hS : KS V BS V14 := by rw [hBS]; exact S14.out
              have K0 : ∀ W, KS V BS W → W.cell? ⟨w.heap.size + 1, 0, none⟩ = some (.int .i64 n) := fun W h => by rw [hBS] at h; exact (h.blkAt 3 rfl).cell 0
              have K1 : ∀ W, KS V BS W → W.cell? ⟨w.heap.size + 1, 1, none⟩ = some (.int .i64 d) := fun W h => by rw [hBS] at h; exact (h.blkAt 3 rfl).cell 1
              have K2 : ∀ W, KS V BS W → W.cell? ⟨w.heap.size, 0, none⟩ = some (.int .i64 L) := fun W h => by rw [hBS] at h; exact (h.blkAt 4 rfl).cell 0
              have K3 : ∀ W, KS V BS W → W.cell? ⟨w.heap.size, 1, none⟩ = some (.int .i64 M) := fun W h => by rw [hBS] at h; exact (h.blkAt 4 rfl).cell 1
              have K4 : ∀ W, KS V BS W → W.cell? ⟨w.heap.size, 2, none⟩ = some (.int .i64 S) := fun W h => by rw [hBS] at h; exact (h.blkAt 4 rfl).cell 2
              have K5 : ∀ W, KS V BS W → W.cell? ⟨w.heap.size, 3, none⟩ = some (.int .i64 F) := fun W h => by rw [hBS] at h; exact (h.blkAt 4 rfl).cell 3
              have KZ0 : ∀ W b, KZ V BS b #[.int .i64 0, .int .i64 0] 48 W → W.cell? ⟨b, 0, none⟩ = some (.int .i64 0) := fun W b h => h.c0
              have KF0 : ∀ W b, KZ V BS b #[.int .i64 0, .int .i64 0] 48 W → W.frozen? ⟨b, 0, none⟩ = false := fun W b h => h.f 0
              have KZ1 : ∀ W b, KZ V BS b #[.int .i64 0, .int .i64 0] 48 W → W.cell? ⟨b, 1, none⟩ = some (.int .i64 0) := fun W b h => h.c1
              have KF1 : ∀ W b, KZ V BS b #[.int .i64 0, .int .i64 0] 48 W → W.frozen? ⟨b, 1, none⟩ = false := fun W b h => h.f 1
              have HBS2 := Lib.hid hBS
              clear hBS
              refine wp_joinA (ι := Nat × Value) (f := fun aa bb => ((((((((((aa.put (some 93) (.agg #[.int .i64 L, .int .i64 M, .int .i64 S, .int .i64 F])).put (some 94) (.agg #[.int .i64 L, .int .i64 M, .int .i64 S, .int .i64 F])).put (some 95) (.agg #[.int .i64 n, .int .i64 d])).put (some 96) (.agg #[.int .i64 n, .int .i64 d])).put (some 97) (.tuple #[.agg #[.int .i64 x4, .int .i64 y4], .int .i64 z4])).put (some 92) (.tuple #[.agg #[.int .i64 x4, .int .i64 y4], .int .i64 z4])).put (some 98) (.agg #[.int .i64 x4, .int .i64 y4])).put (some 99) (.int .i64 z4)).put (some 20) (.int .i64 z4)).put (some 19) (.pointer (some ⟨bb.1, 0, none⟩)))) (mid := fun bb W' => KS V ((bb.1, #[.int .i64 x4, .int .i64 y4], 48) :: BS) W') ?_ ?_
              · go_region_held3 (KS V BS)
                  (first | assumption | exact KS.drew (by assumption) | exact KS.alloc (by assumption) _ | exact KS.drew (KS.alloc (by assumption) _) | exact KS.alloc (KS.drew (by assumption)) _ | exact KZ.ks (by assumption) | exact (KZ.new (by assumption) _ _).ks | exact KZ.keep2 (by assumption) | exact (KZ.keep2 (by assumption)).drew | exact (KZ.drew (by assumption)).keep2 | go_keep)
                  (first | (go_at_call 20; (with_reducible refine (Area_any _ _ _ _ _).mono ?_); rintro e wn ⟨rfl, hb⟩; have hSn := KS.below (w := V) (bs := BS) (by first | assumption | exact KS.drew (by assumption)) hb; (first | (have hZ := KZ.below (w := V) (bs := BS) (cs := #[.int .i64 0, .int .i64 0]) (t := 48) (by assumption) hb) | (have hZ := KZ.below (w := V) (bs := BS) (KZ.new (by assumption) #[.int .i64 0, .int .i64 0] 48) hb) | (have hZ := KZ.below (w := V) (bs := BS) (KZ.newD (by assumption) #[.int .i64 0, .int .i64 0] 48) hb) | skip); clear hb) | (go_at_call 25; (with_reducible refine (part_any _ _ _).mono ?_); rintro e wn ⟨rfl, hb⟩; have hSn := KS.below (w := V) (bs := BS) (by first | assumption | exact KS.drew (by assumption)) hb; (first | (have hZ := KZ.below (w := V) (bs := BS) (cs := #[.int .i64 0, .int .i64 0]) (t := 48) (by assumption) hb) | (have hZ := KZ.below (w := V) (bs := BS) (KZ.new (by assumption) #[.int .i64 0, .int .i64 0] 48) hb) | (have hZ := KZ.below (w := V) (bs := BS) (KZ.newD (by assumption) #[.int .i64 0, .int .i64 0] 48) hb) | skip); clear hb) | (go_at_call 36; (with_reducible refine (TO14.out _).mono ?_); rintro e wn ⟨rfl, hb⟩; have hSn := KS.below (w := V) (bs := BS) (by first | assumption | exact KS.drew (by assumption)) hb; (first | (have hZ := KZ.below (w := V) (bs := BS) (cs := #[.int .i64 0, .int .i64 0]) (t := 48) (by assumption) hb) | (have hZ := KZ.below (w := V) (bs := BS) (KZ.new (by assumption) #[.int .i64 0, .int .i64 0] 48) hb) | (have hZ := KZ.below (w := V) (bs := BS) (KZ.newD (by assumption) #[.int .i64 0, .int .i64 0] 48) hb) | skip); clear hb))
                all_goals first | exact ⟨rfl, (_, undef), rfl, KS.new (by assumption) _ _⟩ | exact ⟨rfl, (_, undef), rfl, KZ.set2 (by assumption)⟩ | exact ⟨rfl, (_, undef), rfl, KZ.set2D (by assumption)⟩ | exact ⟨rfl, (_, undef), rfl, (KZ.set2 (by assumption)).drew⟩
              rintro ⟨m4, nv14⟩ V15 hM
              simp only [Act.put, List.setIfInBounds_toArray, List.set_cons_zero, List.set_cons_succ] at hM ⊢
              have s15 : KS V ((m4, #[.int .i64 x4, .int .i64 y4], 48) :: ((m3, #[.int .i64 x2, .int .i64 y2], 48) :: (m2, #[.int .i64 x2, .int .i64 y2], 48) :: (m1, #[.int .i64 x1, .int .i64 y1], 48) :: [(w.heap.size + 1, #[.int .i64 n, .int .i64 d], 36), (w.heap.size, #[.int .i64 L, .int .i64 M, .int .i64 S, .int .i64 F], 23)])) V15 := by have h := hM; rw [HBS2.out] at h; exact h
              clear hS hM HBS2 KZ0 KZ1 KF0 KF1 K0 K1 K2 K3 K4 K5
              have S15 := Lib.hid s15
              clear s15
              clear TO14 S14
              have g1 := S15.out.blkAt 3 rfl
              have g2 := S15.out.blkAt 2 rfl
              have g3 := S15.out.blkAt 1 rfl
              have g4 := S15.out.blkAt 0 rfl
              obtain ⟨q10, q11, _⟩ := g1.c2
              obtain ⟨q20, q21, _⟩ := g2.c2
              obtain ⟨q30, q31, _⟩ := g3.c2
              obtain ⟨q40, q41, _⟩ := g4.c2
              have l1 := g1.lt
              have l2 := g2.lt
              have l3 := g3.lt
              have l4 := g4.lt
              clear g1 g2 g3 g4
              rcases HC.out with ⟨rfl, rfl, rfl, rfl, rfl, b1, b2, b3, b4, b5, b6, b7, b8⟩ | ⟨rfl, rfl, rfl⟩ | ⟨rfl, rfl, rfl⟩ | ⟨rfl, rfl, rfl⟩
              · clear HC
                go_wp2_with fail
                obtain ⟨BS, hBS⟩ : ∃ BS : List (Nat × Array Value × TypeId), BS = ((m4, #[.int .i64 x4, .int .i64 y4], 48) :: (m3, #[.int .i64 (x1 + x4), .int .i64 (y1 + y4)], 48) :: (m2, #[.int .i64 (x1 + x4), .int .i64 (y1 + y4)], 48) :: (m1, #[.int .i64 x1, .int .i64 y1], 48) :: [(w.heap.size + 1, #[.int .i64 n, .int .i64 d], 36), (w.heap.size, #[.int .i64 L, .int .i64 M, .int .i64 S, .int .i64 F], 23)]) := ⟨_, rfl⟩
                have hS : KS V BS V15.drew := by rw [hBS]; exact S15.out.drew
                have K0 : ∀ W, KS V BS W → W.cell? ⟨m4, 0, none⟩ = some (.int .i64 x4) := fun W h => by rw [hBS] at h; exact (h.blkAt 0 rfl).cell 0
                have K1 : ∀ W, KS V BS W → W.cell? ⟨m4, 1, none⟩ = some (.int .i64 y4) := fun W h => by rw [hBS] at h; exact (h.blkAt 0 rfl).cell 1
                have K2 : ∀ W, KS V BS W → W.cell? ⟨m2, 0, none⟩ = some (.int .i64 (x1 + x4)) := fun W h => by rw [hBS] at h; exact (h.blkAt 2 rfl).cell 0
                have K3 : ∀ W, KS V BS W → W.cell? ⟨m2, 1, none⟩ = some (.int .i64 (y1 + y4)) := fun W h => by rw [hBS] at h; exact (h.blkAt 2 rfl).cell 1
                have K4 : ∀ W, KS V BS W → W.cell? ⟨m1, 0, none⟩ = some (.int .i64 x1) := fun W h => by rw [hBS] at h; exact (h.blkAt 3 rfl).cell 0
                have K5 : ∀ W, KS V BS W → W.cell? ⟨m1, 1, none⟩ = some (.int .i64 y1) := fun W h => by rw [hBS] at h; exact (h.blkAt 3 rfl).cell 1
                have ws1 : IntKind.i64.wrap (x1 + x4) = x1 + x4 := IntWalk.i64_in _ (by omega)
                have ws2 : IntKind.i64.wrap (y1 + y4) = y1 + y4 := IntWalk.i64_in _ (by omega)
                clear hBS
                refine wp_joinA (ι := Unit) (f := fun aa _ => (((((((((((((((((((((aa.put (some 143) (.int .i64 0)).put (some 144) (.bool true)).put (some 145) (.bool true)).put (some 146) (.agg #[.int .i64 (x1 + x4), .int .i64 (y1 + y4)])).put (some 147) (.pointer (some ⟨m1, 0, none⟩))).put (some 148) (.int .i64 x1)).put (some 149) (.pointer (some ⟨m4, 0, none⟩))).put (some 150) (.int .i64 x4)).put (some 151) (.int .i64 (x1 + x4))).put (some 152) (.pointer (some ⟨m1, 1, none⟩))).put (some 153) (.int .i64 y1)).put (some 154) (.pointer (some ⟨m4, 1, none⟩))).put (some 155) (.int .i64 y4)).put (some 156) (.int .i64 (y1 + y4))).put (some 157) (.agg #[.int .i64 (x1 + x4), .int .i64 (y1 + y4)])).put (some 158) (.bool true)).put (some 159) (.bool true)).put (some 160) (.bool true)).put (some 161) (.bool true)).put (some 162) (.bool true)).put (some 8) (.bool true))) (mid := fun _ W' => KS V BS W') ?_ ?_
                · refine wp_region_held_drew (S := KS V BS) (by kernel_rfl) hS (fun hHeld => ?_)
                  clear hS
                  refine wpAnyH_take (i := 0) (v := ?_) rfl (by kernel_rfl) (by kernel_rfl) (by kernel_rfl) (fun _ _ _ h => (by cases h.1)) (Or.inl ⟨by rfl, ?h0⟩) hHeld ?_
                  case h0 =>
                    intro w' hSw
                    (try dsimp only at hSw)
                    go_simp
                    (try with_reducible rfl)
                  (try simp only [Act.put]); (try simp only [List.setIfInBounds_toArray]); (try simp only [List.set_cons_succ]); (try simp only [List.set_cons_zero])
                  refine wpAnyH_take (i := 1) (v := ?_) rfl (by kernel_rfl) (by kernel_rfl) (by kernel_rfl) (fun _ _ _ h => (by cases h.1)) (Or.inl ⟨by rfl, ?h1⟩) hHeld ?_
                  case h1 =>
                    intro w' hSw
                    (try dsimp only at hSw)
                    go_simp
                    (try with_reducible rfl)
                  (try simp only [Act.put]); (try simp only [List.setIfInBounds_toArray]); (try simp only [List.set_cons_succ]); (try simp only [List.set_cons_zero])
                  refine wpAnyH_take (i := 2) (v := ?_) rfl (by kernel_rfl) (by kernel_rfl) (by kernel_rfl) (fun _ _ _ h => (by cases h.1)) (Or.inl ⟨by rfl, ?h2⟩) hHeld ?_
                  case h2 =>
                    intro w' hSw
                    (try dsimp only at hSw)
                    go_simp
                    (try with_reducible rfl)
                  (try simp only [Act.put]); (try simp only [List.setIfInBounds_toArray]); (try simp only [List.set_cons_succ]); (try simp only [List.set_cons_zero])
                  refine wpAnyH_take (i := 3) (v := ?_) rfl (by kernel_rfl) (by kernel_rfl) (by kernel_rfl) (fun _ _ _ h => (by cases h.1)) (Or.inl ⟨by kernel_rfl, ?h3⟩) hHeld ?_
                  case h3 =>
                    intro w' hSw
                    (try dsimp only at hSw)
                    go_simp
                    (try with_reducible rfl)
                  (try simp only [Act.put]); (try simp only [List.setIfInBounds_toArray]); (try simp only [List.set_cons_succ]); (try simp only [List.set_cons_zero])
                  refine wpAnyH_take (i := 4) (v := ?_) rfl (by kernel_rfl) (by kernel_rfl) (by kernel_rfl) (fun _ _ _ h => (by cases h.1)) (Or.inl ⟨by kernel_rfl, ?h4⟩) hHeld ?_
                  case h4 =>
                    intro w' hSw
                    (try dsimp only at hSw)
                    go_simp
                    (try with_reducible rfl)
                  (try simp only [Act.put]); (try simp only [List.setIfInBounds_toArray]); (try simp only [List.set_cons_succ]); (try simp only [List.set_cons_zero])
                  refine wpAnyH_take (i := 5) (v := ?_) rfl (by kernel_rfl) (by kernel_rfl) (by kernel_rfl) (fun _ _ _ h => (by cases h.1)) (Or.inl ⟨by kernel_rfl, ?h5⟩) hHeld ?_
                  case h5 =>
                    intro w' hSw
                    (try dsimp only at hSw)
                    go_simp
                    (try with_reducible rfl)
                  (try simp only [Act.put]); (try simp only [List.setIfInBounds_toArray]); (try simp only [List.set_cons_succ]); (try simp only [List.set_cons_zero])
                  refine wpAnyH_take (i := 6) (v := ?_) rfl (by kernel_rfl) (by kernel_rfl) (by kernel_rfl) (fun _ _ _ h => (by cases h.1)) (Or.inl ⟨by kernel_rfl, ?h6⟩) hHeld ?_
                  case h6 =>
                    intro w' hSw
                    (try dsimp only at hSw)
                    go_simp
                    (try with_reducible rfl)
                  (try simp only [Act.put]); (try simp only [List.setIfInBounds_toArray]); (try simp only [List.set_cons_succ]); (try simp only [List.set_cons_zero])
                  refine wpAnyH_take (i := 7) (v := ?_) rfl (by kernel_rfl) (by kernel_rfl) (by kernel_rfl) (fun _ _ _ h => (by cases h.1)) (Or.inl ⟨by kernel_rfl, ?h7⟩) hHeld ?_
                  case h7 =>
                    intro w' hSw
                    (try dsimp only at hSw)
                    go_simp
                    (try with_reducible rfl)
                  (try simp only [Act.put]); (try simp only [List.setIfInBounds_toArray]); (try simp only [List.set_cons_succ]); (try simp only [List.set_cons_zero])
                  refine wpAnyH_take (i := 8) (v := ?_) rfl (by kernel_rfl) (by kernel_rfl) (by kernel_rfl) (fun _ _ _ h => (by cases h.1)) (Or.inl ⟨by kernel_rfl, ?h8⟩) hHeld ?_
                  case h8 =>
                    intro w' hSw
                    (try dsimp only at hSw)
                    go_simp
                    (try with_reducible rfl)
                  (try simp only [Act.put]); (try simp only [List.setIfInBounds_toArray]); (try simp only [List.set_cons_succ]); (try simp only [List.set_cons_zero])
                  refine wpAnyH_take (i := 9) (v := ?_) rfl (by kernel_rfl) (by kernel_rfl) (by kernel_rfl) (fun _ _ _ h => (by cases h.1)) (Or.inl ⟨by kernel_rfl, ?h9⟩) hHeld ?_
                  case h9 =>
                    intro w' hSw
                    (try dsimp only at hSw)
                    go_simp
                    (try with_reducible rfl)
                  (try simp only [Act.put]); (try simp only [List.setIfInBounds_toArray]); (try simp only [List.set_cons_succ]); (try simp only [List.set_cons_zero])
                  refine wpAnyH_take (i := 10) (v := ?_) rfl (by kernel_rfl) (by kernel_rfl) (by kernel_rfl) (fun _ _ _ h => (by cases h.1)) (Or.inl ⟨by kernel_rfl, ?h10⟩) hHeld ?_
                  case h10 =>
                    intro w' hSw
                    (try dsimp only at hSw)
                    go_simp
                    (try with_reducible rfl)
                  (try simp only [Act.put]); (try simp only [List.setIfInBounds_toArray]); (try simp only [List.set_cons_succ]); (try simp only [List.set_cons_zero])
                  refine wpAnyH_take (i := 11) (v := ?_) rfl (by kernel_rfl) (by kernel_rfl) (by kernel_rfl) (fun _ _ _ h => (by cases h.1)) (Or.inl ⟨by kernel_rfl, ?h11⟩) hHeld ?_
                  case h11 =>
                    intro w' hSw
                    (try dsimp only at hSw)
                    go_simp
                    (try with_reducible rfl)
                  (try simp only [Act.put]); (try simp only [List.setIfInBounds_toArray]); (try simp only [List.set_cons_succ]); (try simp only [List.set_cons_zero])
                  refine wpAnyH_take (i := 12) (v := ?_) rfl (by kernel_rfl) (by kernel_rfl) (by kernel_rfl) (fun _ _ _ h => (by cases h.1)) (Or.inl ⟨by kernel_rfl, ?h12⟩) hHeld ?_
                  case h12 =>
                    intro w' hSw
                    (try dsimp only at hSw)
                    go_simp
                    (try with_reducible rfl)
                  (try simp only [Act.put]); (try simp only [List.setIfInBounds_toArray]); (try simp only [List.set_cons_succ]); (try simp only [List.set_cons_zero])
                  refine wpAnyH_take (i := 13) (v := ?_) rfl (by kernel_rfl) (by kernel_rfl) (by kernel_rfl) (fun _ _ _ h => (by cases h.1)) (Or.inl ⟨by kernel_rfl, ?h13⟩) hHeld ?_
                  case h13 =>
                    intro w' hSw
                    (try dsimp only at hSw)
                    go_simp
                    (try with_reducible rfl)
                  (try simp only [Act.put]); (try simp only [List.setIfInBounds_toArray]); (try simp only [List.set_cons_succ]); (try simp only [List.set_cons_zero])
                  refine wpAnyH_ready (rs := [14]) (by kernel_rfl) (by simp) ?_
                  refine AllReadyH.cons rfl (fun K hK => ?_) (AllReadyH.nil)
                  go_simp
                  refine (between_any _ _ _).mono ?_
                  rintro e w19 ⟨rfl, hb⟩
                  refine hK.out _ _ (hHeld.below hb) (fun hHeld => ?_)
                  clear hK K hb
                  (try simp only [Act.put]); (try simp only [List.setIfInBounds_toArray]); (try simp only [List.set_cons_succ]); (try simp only [List.set_cons_zero])
                  refine wpAnyH_take (i := 15) (v := ?_) rfl (by kernel_rfl) (by kernel_rfl) (by kernel_rfl) (fun _ _ _ h => (by cases h.1)) (Or.inl ⟨by kernel_rfl, ?h15⟩) hHeld ?_
                  case h15 =>
                    intro w' hSw
                    (try dsimp only at hSw)
                    go_simp
                    (try with_reducible rfl)
                  (try simp only [Act.put]); (try simp only [List.setIfInBounds_toArray]); (try simp only [List.set_cons_succ]); (try simp only [List.set_cons_zero])
                  refine wpAnyH_take (i := 16) (v := ?_) rfl (by kernel_rfl) (by kernel_rfl) (by kernel_rfl) (fun _ _ _ h => (by cases h.1)) (Or.inl ⟨by rfl, ?h16⟩) hHeld ?_
                  case h16 =>
                    intro w' hSw
                    (try dsimp only at hSw)
                    go_simp
                    (try with_reducible rfl)
                  (try simp only [Act.put]); (try simp only [List.setIfInBounds_toArray]); (try simp only [List.set_cons_succ]); (try simp only [List.set_cons_zero])
                  refine wpAnyH_take (i := 17) (v := ?_) rfl (by kernel_rfl) (by kernel_rfl) (by kernel_rfl) (fun _ _ _ h => (by cases h.1)) (Or.inl ⟨by rfl, ?h17⟩) hHeld ?_
                  case h17 =>
                    intro w' hSw
                    (try dsimp only at hSw)
                    go_simp
                    (try with_reducible rfl)
                  (try simp only [Act.put]); (try simp only [List.setIfInBounds_toArray]); (try simp only [List.set_cons_succ]); (try simp only [List.set_cons_zero])
                  refine wpAnyH_ready (rs := [18]) (by kernel_rfl) (by simp) ?_
                  refine AllReadyH.cons rfl (fun K hK => ?_) (AllReadyH.nil)
                  go_simp
                  refine (awake_any _).mono ?_
                  rintro e w20 ⟨rfl, hb⟩
                  refine hK.out _ _ (hHeld.below hb) (fun hHeld => ?_)
                  clear hK K hb
                  (try simp only [Act.put]); (try simp only [List.setIfInBounds_toArray]); (try simp only [List.set_cons_succ]); (try simp only [List.set_cons_zero])
                  refine wpAnyH_take (i := 19) (v := ?_) rfl (by kernel_rfl) (by kernel_rfl) (by kernel_rfl) (fun _ _ _ h => (by cases h.1)) (Or.inl ⟨by rfl, ?h19⟩) hHeld ?_
                  case h19 =>
                    intro w' hSw
                    (try dsimp only at hSw)
                    go_simp
                    (try with_reducible rfl)
                  (try simp only [Act.put]); (try simp only [List.setIfInBounds_toArray]); (try simp only [List.set_cons_succ]); (try simp only [List.set_cons_zero])
                  refine wpAnyH_ready (rs := [20]) (by kernel_rfl) (by simp) ?_
                  refine AllReadyH.cons rfl (fun K hK => ?_) (AllReadyH.nil)
                  go_simp
                  refine hK.out _ _ hHeld (fun hHeld => ?_)
                  clear hK K
                  (try simp only [Act.put]); (try simp only [List.setIfInBounds_toArray]); (try simp only [List.set_cons_succ]); (try simp only [List.set_cons_zero])
                  refine wpAnyH_done (by kernel_rfl) ?_ _
                  exact ⟨rfl, (), rfl, hHeld⟩
                rintro _ W19 hS19
                have HS19 := Lib.hid hS19
                clear hS19 K0 K1 K2 K3 K4 K5 ws1 ws2
                simp only [Act.put, List.setIfInBounds_toArray, List.set_cons_zero, List.set_cons_succ]
                go_wp2_with fail
                go_ret
                exact ⟨rfl, HBV.out.trans (HS19.out.2.mono HBV.out.size)⟩
              all_goals
                clear HC
                go_wp2_with (go_at_call 24; (refine (awake_any _).mono ?_); rintro e wA ⟨rfl, hbA⟩; have SA := Lib.hid (S15.out.below hbA).2; clear hbA)
                go_ret
                exact ⟨rfl, HBV.out.trans (SA.out.mono HBV.out.size)⟩

end Go.Proofs.Ytkfobnhnehbkeaa
