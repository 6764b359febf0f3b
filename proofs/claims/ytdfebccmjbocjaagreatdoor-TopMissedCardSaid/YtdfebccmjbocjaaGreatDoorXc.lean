/- tithingtop: TopMissed. -/
import Derived.Test.YtdfebccmjbocjaaGreatDoorXb
set_option linter.unusedVariables false
set_option linter.unusedSimpArgs false
namespace Go.Proofs.YtdfebccmjbocjaaGreatDoor
open Go.RowKit Go.Shelf
set_option maxRecDepth 100000 in
set_option maxHeartbeats 8000000 in
theorem TopMissed_walk (a a2 : Option Addr) (g o c m g2 o2 c2 m2 : Nat) (ws lots : List Nat) (ot : Nat) (n d : Int) (w : World) (hW : U16K w a g o m ws) (hL : U16K w a2 g2 o2 m2 lots) (hot : ot < 256) (hm : m ≤ 9223372036854775807) (hm2 : m2 ≤ 9223372036854775807) (hG : Gd w) :
    Calls Tryz.prog 4 #[.slice a m c, .int .u8 (ot : Int), .slice a2 m2 c2, .agg #[.int .i64 n, .int .i64 d]] w fun e w' => e = .returned (.bool true) ∧ Below w.heap.size w w' := by
  have hb1 : Below w.heap.size w (w.alloc (.cells #[.int .i64 n, .int .i64 d] 64)) := (Below.refl _ _).alloc (Nat.le_refl _) _
  have bl1 := Blk.new w #[.int .i64 n, .int .i64 d] 64
  have k0 := bl1.cell 0
  have k1 := bl1.cell 1
  have kl := bl1.lt
  have HB1 := Lib.hid hb1
  have C20 := Lib.hid (fun W (hb : Below w.heap.size w W) => missed_any W (hG.below hb))
  have C19 := Lib.hid (fun W => Mi.rIsLevel_any n d W)
  have HW := Lib.hid hW
  have HL := Lib.hid hL
  have HG := Lib.hid hG
  have HBL := Lib.hid bl1
  clear hb1 bl1 hW hL hG
  by_cases hm50 : 50 < m2
  · have b1 : (50 : Int) < (m2 : Int) := by omega
    go_enter Tryz.func4, Tryz.ntmps4
    go_wp2_with (go_at_call 20; (with_reducible refine (C20.out _ HB1.out).mono ?_); rintro e w' ⟨rfl, hb⟩; have HB2 := Lib.hid (HB1.out.trans (hb.mono HB1.out.size)))
    go_ret
    exact ⟨rfl, HB2.out⟩
  have b1 : ¬ (50 : Int) < (m2 : Int) := by omega
  cases hlv : Mi.levB n d with
  | false =>
    rw [hlv] at C19
    go_enter Tryz.func4, Tryz.ntmps4
    go_wp2_with (first
      | (go_at_call 19; (with_reducible refine (C19.out _).mono ?_); rintro e w' ⟨rfl, hb⟩; have HB2 := Lib.hid (HB1.out.trans (hb.mono HB1.out.size)); clear hb)
      | (go_at_call 20; (with_reducible refine (C20.out _ HB2.out).mono ?_); rintro e w' ⟨rfl, hb⟩; have HB3 := Lib.hid (HB2.out.trans (hb.mono HB2.out.size)); clear hb))
    go_ret
    exact ⟨rfl, HB3.out⟩
  | true =>
    rw [hlv] at C19
    have HLV := Lib.hid hlv
    have CT := Lib.hid (fun W (hb : Below w.heap.size w W) => Truly_any a g o c m ws W (HW.out.below hb) hm)
    clear hlv
    go_enter Tryz.func4, Tryz.ntmps4
    go_wp2_with (first
      | (go_at_call 19; (with_reducible refine (C19.out _).mono ?_); rintro e w1 ⟨rfl, hb⟩; have HBL2 := Lib.hid (HBL.out.b hb); have HB2 := Lib.hid (HB1.out.trans (hb.mono HB1.out.size)); clear hb k0 k1 kl)
      | (go_at_call 11; (with_reducible refine (CT.out _ HB2.out).mono ?_); rintro e w2 ⟨ve, vs, va, vo, es, sm, ap, of, om, nu, rfl, htf, ⟨hoe, hos, hoa, hoo⟩, hb⟩; obtain ⟨e1, hv1, hse, -, -⟩ := own_sle hoe; obtain ⟨s1, hv2, hss, -, -⟩ := own_slp2 hos; obtain ⟨a1, hv3, hsa, -, -⟩ := own_slp2 hoa; obtain ⟨o1, hv4, hso, -⟩ := SlN.of_own hoo; subst hv1; subst hv2; subst hv3; subst hv4; have HBL3 := Lib.hid (HBL2.out.b hb); have HB3 := Lib.hid (HB2.out.trans (hb.mono HB2.out.size)); have HTF := Lib.hid htf; have HS := Lib.hid (And.intro hse (And.intro hss (And.intro hsa hso))); clear hb htf hoe hos hoa hoo hse hss hsa hso))
    have s0 := (KS.start w2).new (cenA (.slice e1.a es.length e1.c) (.slice s1.a sm.length s1.c) (.slice a1.a ap.length a1.c) (om.1 : Int) (om.2 : Int) (nu.1 : Int) (nu.2 : Int)) 40
    refine (grouped_any o1 of.length of _ rfl (HS.out.2.2.2.below s0.bel) (by have := HTF.out.n9; omega)).mono ?_
    rintro e w3 ⟨v, rfl, htab, hb⟩
    obtain ⟨va, vc, hv⟩ := tab_form htab
    subst hv
    rw [groupsL_len]
    have HK3 := Lib.hid (s0.below hb)
    clear s0 hb htab
    obtain ⟨P, hP⟩ : ∃ P, P = manyL of := ⟨_, rfl⟩
    obtain ⟨u, hu⟩ : ∃ u, u = ot % 30 := ⟨_, rfl⟩
    have hP5 : P ≤ 5 := by rw [hP]; exact many_lt5 _ _ HTF.out.tp.lt5
    have hu30 : u ≤ 29 := by omega
    obtain ⟨⟨f1, f2⟩, -, -⟩ := nat_forms ot 30
    rw [← hu] at f1 f2
    change (ot : Int).tmod 30 = (u : Int) at f1
    change (ot : Int) % 30 = (u : Int) at f2
    have ex : IntKind.i64.wrap (ot : Int) = (ot : Int) := IntWalk.i64_in _ (by omega)
    rw [← hP]
    have HPP := Lib.hid hP
    clear hP hu
    go_wp2_with fail
    obtain ⟨i0, hi0, hz0, hz1, hz2⟩ := info_parts Tryz.info3'
    have HI := Lib.hid (And.intro hi0 (And.intro hz0 (And.intro hz1 hz2)))
    clear hi0 hz0 hz1 hz2
    obtain ⟨CB, hCB⟩ : ∃ CB, CB = cenA (.slice e1.a es.length e1.c) (.slice s1.a sm.length s1.c) (.slice a1.a ap.length a1.c) (om.1 : Int) (om.2 : Int) (nu.1 : Int) (nu.2 : Int) := ⟨_, rfl⟩
    rw [← hCB] at HK3
    have HCB := Lib.hid hCB
    have H3S := Lib.hid (HK3.out.blkAt 0 rfl).lt
    clear hCB
    go_loopw [14, 13] (fun x v wr => ∃ i : Nat, (i ≤ m2 ∧ i ≤ P) ∧ x = .int .i64 (i : Int) ∧ Hid (OwnN wr w3.heap.size v (lots.take i) ∧ KS w2 [(w2.heap.size, CB, 40)] wr ∧ Below w3.heap.size w3 wr)) (fun x _ _ => P - (intOf x).toNat)
    case atStart => exact ⟨0, ⟨Nat.zero_le _, Nat.zero_le _⟩, rfl, Lib.hid ⟨World.ownsRow_nil _ _ _ _, HK3.out, Below.refl _ _⟩⟩
    case round =>
      obtain ⟨i, ⟨him, hiP⟩, rfl, H⟩ := hrel
      by_cases hlt : i < m2 ∧ i < P
      · obtain ⟨hlm, hlP⟩ := hlt
        have hBw := HB3.out.trans (H.out.2.1.bel.mono HB3.out.size)
        have hwl := HL.out.below hBw
        obtain ⟨x, hx⟩ : ∃ x, lots[i]? = some x := ⟨_, List.getElem?_eq_getElem (by rw [HL.out.1]; exact hlm)⟩
        have hne : lots ≠ [] := by rintro rfl; simp at hx
        have ea := HL.out.2.1 hne
        subst ea
        have cx := hwl.2.2.1 i x hx
        have lx := hwl.2.2.2.1 hne
        have hx16 := HL.out.2.2.2.2 x (List.mem_of_getElem? hx)
        have ex2 : IntKind.i64.wrap (x : Int) = (x : Int) := IntWalk.i64_in _ (by omega)
        have q0 : (0 : Int) ≤ (i : Int) := by omega
        have q1 : (i : Int) < (m2 : Int) := by omega
        have q2 : (i : Int) < (P : Int) := by omega
        have hol : (lots.take i).length = i := by rw [List.length_take, HL.out.1]; omega
        have htk : lots.take (i + 1) = lots.take i ++ [x] := by rw [List.take_add_one, hx]; rfl
        have HT := Lib.hid htk
        have HSZ := Lib.hid H.out.2.2.size
        clear hBw hwl hne htk hx
        go_wp2_with (at_builtin; refine wpList_append_own _ rfl _ _ 41 rfl w3.heap.size 3 i0 (.int .i64 0) 1 8 Tryz.underlying41 HI.out.1 HI.out.2.1 HI.out.2.2.1 HI.out.2.2.2 rfl (by decide) _ _ _ rfl (row_below H.out.1 ((Below.refl _ _).alloc (Nat.le_refl _) _)) ⟨wr.heap.size, 0, none⟩ 1 1 [.int .i64 (x : Int)] rfl rfl (news_one' ((Blk.new wr #[.int .i64 (x : Int)] 3).cell 0)) (by simp [Value.oneCell']) (by unfold maxLen; omega) (by omega) (by have := H.out.2.2.size; simp; omega) ?_; intro v' w1 hown' hgrow _; have HO1 := Lib.hid hown'; have HG1 := Lib.hid hgrow; clear hown' hgrow)
        go_roundw
        case rel =>
          have hba : Below wr.heap.size wr (wr.alloc (.cells #[.int .i64 (x : Int)] 3)) := (Below.refl _ _).alloc (Nat.le_refl _) _
          have hk := H.out.2.1.below hba
          have hrow := fun r e => (H.out.1.lt r e).1
          have h3 := H3S.out
          have h3s := HSZ.out
          refine ⟨i + 1, ⟨by omega, by omega⟩, by go_num, Lib.hid ⟨?_, ⟨fun z hz => ?_, hk.bel.grown HG1.out hk.bel.size (fun r e => by have := hrow r e; omega)⟩, (H.out.2.2.trans (hba.mono h3s)).grown HG1.out (by have := hba.size; omega) (fun r e => hrow r e)⟩⟩
          · rw [HT.out]
            have h2 := HO1.out
            unfold OwnN
            rw [List.length_append]
            simpa [natV] using h2
          · exact (hk.1 z hz).kept HG1.out (fun e => by have := hrow _ e.symm; simp at hz; subst hz; simp only at this; omega)
        case measure => simp [intOf]; omega
      · rcases (show i = m2 ∨ (i < m2 ∧ i = P) by omega) with hK | ⟨hK1, hK2⟩
        · have q1 : ¬ (i : Int) < (m2 : Int) := by omega
          clear hK
          have hol : (lots.take i).length = i := by rw [List.length_take, HL.out.1]; omega
          obtain ⟨l, hl⟩ : ∃ l, l = lots.take i := ⟨_, rfl⟩
          rw [← hl] at H hol
          obtain ⟨d1, hv1, hsd, -⟩ := SlN.of_own H.out.1
          rw [hol] at hv1
          subst hv1
          obtain ⟨Z, hZ⟩ : ∃ q, q = P + u := ⟨_, rfl⟩
          have sZ : (P : Int) + (u : Int) = (Z : Int) := by omega
          obtain ⟨R9, hR9⟩ : ∃ q, q = m2 % 9 := ⟨_, rfl⟩
          have hR99 : R9 < 9 := by omega
          obtain ⟨⟨g1, g2⟩, -, -⟩ := nat_forms m2 9
          rw [← hR9] at g1 g2
          change (m2 : Int).tmod 9 = (R9 : Int) at g1
          change (m2 : Int) % 9 = (R9 : Int) at g2
          obtain ⟨M, hM⟩ : ∃ q, q = u + R9 := ⟨_, rfl⟩
          have sM : (u : Int) + (R9 : Int) = (M : Int) := by omega
          have DT := Lib.hid (fun W hW => draw_top P u Z hZ d1 l i hol W (hsd.below (W' := W) hW) (by omega) (by omega))
          have HZM := Lib.hid (And.intro hZ (And.intro hM hR99))
          have HK4 := Lib.hid H.out.2.1
          have HLN := Lib.hid hol
          clear hZ hM hR9 hR99 hl hol hsd HK3 H
          go_wp2_with fail
          with_reducible refine (DT.out _ (Below.refl _ _)).mono ?_
          rintro e w4 ⟨d2, rfl, hsn, hdl, hb⟩
          have hk4 := HK4.out.below hb
          have hB4 := HB3.out.trans (hk4.bel.mono HB3.out.size)
          obtain ⟨D, hD⟩ : ∃ D, D = Mis.drawn (P + u) l := ⟨_, rfl⟩
          rw [← hD] at hsn hdl
          have HD := Lib.hid (And.intro hD (And.intro hsn hdl))
          have HKC := Lib.hid hk4
          have HB4 := Lib.hid hB4
          have HBL4 := Lib.hid (HBL3.out.b hk4.bel)
          clear hk4 hB4 hD hsn hdl hb DT HK4 HBL3
          go_wp2_with fail
          go_loopw [18] (fun x wr2 => ∃ (j : Nat), j ≤ i ∧ x = .int .i64 (j : Int) ∧ Hid (KS w4 [(w4.heap.size, #[.int .i64 (P : Int), .int .i64 (M : Int), .int .i64 (i : Int), .int .i64 ((Mis.fnd P (D.take j) : Nat) : Int)], 69)] wr2)) (fun x _ => i - (intOf x).toNat)
          case atStart => exact ⟨0, Nat.zero_le _, rfl, Lib.hid ((KS.start w4).new _ 69)⟩
          case round =>
            obtain ⟨j, hj, rfl, G⟩ := hrel
            by_cases hji : j < i
            · obtain ⟨y, hy⟩ : ∃ y, D[j]? = some y := ⟨_, List.getElem?_eq_getElem (by rw [HD.out.2.2]; exact hji)⟩
              have hne : D ≠ [] := by rintro rfl; simp at hy
              obtain ⟨d2a, d2b, d2o, d2c⟩ := d2
              have ea := HD.out.2.1.at_ hne
              dsimp only at *
              subst ea
              have hsn := HD.out.2.1.below G.out.bel
              have cy := hsn.cells j y hy
              have ly := hsn.lt hne
              dsimp only at cy ly
              have q0 : (0 : Int) ≤ (j : Int) := by omega
              have q1' : (j : Int) < (i : Int) := by omega
              have hfs := Mis.fnd_take_succ P D j (by rw [HD.out.2.2]; exact hji)
              rw [List.getD_eq_getElem?_getD, hy] at hfs
              simp only [Option.getD_some] at hfs
              have c3 := (G.out.blkAt 0 rfl).cell 3
              have f3 := (G.out.blkAt 0 rfl).frozen 3
              have l3 := (G.out.blkAt 0 rfl).lt
              have hfl : Mis.fnd P (D.take j) ≤ j := by
                have h1 := List.length_filter_le (fun x => decide (x < P)) (D.take j)
                have h2 := List.length_take_le j D
                unfold Mis.fnd; omega
              have HFS := Lib.hid hfs
              clear hsn hfs hy hne
              obtain ⟨Fj, hFj⟩ : ∃ F, F = Mis.fnd P (D.take j) := ⟨_, rfl⟩
              rw [← hFj] at c3 hfl G HFS
              clear hFj
              by_cases hyP : y < P
              · have q3 : (y : Int) < (P : Int) := by omega
                rw [if_pos hyP] at HFS
                go_wp2_with fail
                go_roundw
                case rel => exact ⟨j + 1, by omega, by go_num, Lib.hid (by rw [HFS.out]; exact G.out.set3 (Nat.le_refl _))⟩
                case measure => simp [intOf]; omega
              · have q3 : ¬ (y : Int) < (P : Int) := by omega
                rw [if_neg hyP] at HFS
                go_wp2_with fail
                go_roundw
                case rel => exact ⟨j + 1, by omega, by go_num, Lib.hid (by rw [HFS.out]; exact G.out)⟩
                case measure => simp [intOf]; omega
            · have hjx : D.take j = D := by rw [show j = i by omega]; exact List.take_of_length_le (by rw [HD.out.2.2]; omega)
              rw [hjx] at G
              obtain ⟨F, hF⟩ : ∃ F, F = Mis.fnd P D := ⟨_, rfl⟩
              rw [← hF] at G
              have hFF : F ≤ P ∧ F ≤ i ∧ i ≤ F + u := by
                have h := Mis.fnd_drawn P u l (by rw [HLN.out]; omega)
                rw [← HD.out.1, ← hF, HLN.out] at h; exact h
              have q5 : ¬ (j : Int) < (i : Int) := by omega
              obtain ⟨h1, h2, h3⟩ := hFF
              have hM37 : M ≤ 37 := by have := HZM.out; omega
              have huM : u ≤ M := by have := HZM.out; omega
              have hok : Mi.okA P M i F := ⟨by omega, by omega, by omega⟩
              have CC := Lib.hid (fun W => chance_top hok huM h3 W)
              have CW2 := Lib.hid (fun W => whole_top hok W)
              have CM := Lib.hid (fun W => missed_top hok HLV.out W)
              have c0 := (G.out.blkAt 0 rfl).cell 0
              have c1 := (G.out.blkAt 0 rfl).cell 1
              have c2 := (G.out.blkAt 0 rfl).cell 2
              have c3 := (G.out.blkAt 0 rfl).cell 3
              clear hjx hF h1 h2 h3 hok HD HLN HLV
              go_wp2_with fail
              with_reducible refine (CC.out _).mono ?_
              rintro e w5 ⟨x, y, hx, rfl, hb⟩
              have hk5 := G.out.below hb
              have c0 := (hk5.blkAt 0 rfl).cell 0
              have c1 := (hk5.blkAt 0 rfl).cell 1
              have c2 := (hk5.blkAt 0 rfl).cell 2
              have c3 := (hk5.blkAt 0 rfl).cell 3
              have l3 := (hk5.blkAt 0 rfl).lt
              have HK5 := Lib.hid (hk5.new #[.int .i64 (x : Int), .int .i64 (y : Int)] 70)
              have hx0 : ¬ (x : Int) ≤ 0 := by omega
              clear hk5 hb CC G hx
              go_wp2_with fail
              with_reducible refine (CW2.out _).mono ?_
              rintro e w6 ⟨rfl, hb⟩
              have hk6 := HK5.out.below hb
              have c0 := (hk6.blkAt 1 rfl).cell 0
              have c1 := (hk6.blkAt 1 rfl).cell 1
              have c2 := (hk6.blkAt 1 rfl).cell 2
              have c3 := (hk6.blkAt 1 rfl).cell 3
              have l3 := (hk6.blkAt 1 rfl).lt
              have x0 := (hk6.blkAt 0 rfl).cell 0
              have xl := (hk6.blkAt 0 rfl).lt
              have hbl := HBL4.out.b hk6.bel
              have n0 := hbl.cell 0
              have n1 := hbl.cell 1
              have nl := hbl.lt
              have HK6 := Lib.hid (hk6.new #[.int .i64 0, .int .i64 (M : Int)] 73)
              clear hk6 hb CW2 HK5 hbl
              go_wp2_with fail
              with_reducible refine (CM.out _).mono ?_
              rintro e w7 ⟨hres, hb⟩
              have hk7 := HK6.out.below hb
              have z0 := (hk7.blkAt 0 rfl).cell 0
              have z1 := (hk7.blkAt 0 rfl).cell 1
              have zl := (hk7.blkAt 0 rfl).lt
              have hcn := (HKC.out.below hk7.bel).blkAt 0 rfl
              rw [HCB.out] at hcn
              obtain ⟨y0, y1, y2, y3, y4, y5, y6⟩ := hcn.c7
              have yf3 := hcn.frozen 3
              have yf4 := hcn.frozen 4
              have yf5 := hcn.frozen 5
              have yf6 := hcn.frozen 6
              have yl := hcn.lt
              have HCN := Lib.hid hcn
              have HK7 := Lib.hid hk7
              clear hcn hk7 hb
              have zz : ((0 : Nat) : Int) = 0 := rfl
              rcases hres with ⟨lo, hi, ⟨hlh, hhM⟩, rfl⟩ | rfl
              · by_cases hlu : u < lo
                · have t1 : (u : Int) < (lo : Int) := by omega
                  go_wp2_with fail
                  have hB7 := (HKC.out.below HK7.out.bel).bel
                  have hB8a := bel_set4s (y3 := .int .i64 0) (y4 := .int .i64 (M : Int)) (y5 := .int .i64 (Z : Int)) (y6 := .int .i64 (Z : Int)) hB7 (Nat.le_refl _)
                  have hB8 := hB8a.alloc hB8a.size (.cells #[.int .i64 0, .int .i64 (M : Int)] 73)
                  have bk := set4_new w7 w2.heap.size (.int .i64 0) (.int .i64 (M : Int)) (.int .i64 (Z : Int)) (.int .i64 (Z : Int)) #[.int .i64 0, .int .i64 (M : Int)] 73
                  have C14 := census_top e1 s1 a1 es sm ap 0 M Z _ (HS.out.1.below hB8) (HS.out.2.1.below hB8) (HS.out.2.2.1.below hB8) (by have h1 := HTF.out.tp.len; have h2 := HTF.out.n9; omega) (by have := HTF.out.s5; omega) (by have := HTF.out.a5; omega)
                  rw [zz] at C14
                  have HB8 := Lib.hid (HB3.out.trans (hB8.mono HB3.out.size))
                  with_reducible refine C14.mono ?_
                  rintro e w8 ⟨e2, s2, b2, rfl, ⟨hse, hss, hsa⟩, hb8⟩
                  have HB9 := Lib.hid (HB8.out.trans (hb8.mono HB8.out.size))
                  have hG8 := HG.out.below HB9.out
                  have bk := bk.b hb8
                  have C13 := pers_top e2 s2 b2 es sm ap of om nu 0 M u Z (by rw [← HPP.out]; exact HZM.out.1) HTF.out w8 ⟨hse, hss, hsa, hG8.gt, hG8.one⟩ (Nat.zero_le _) huM (by omega) hu30
                  rw [← HPP.out] at C13
                  rw [zz] at C13
                  clear C14 hB7 hB8 hse hss hsa hb8 hG8
                  go_wp2_with fail
                  with_reducible refine C13.mono ?_
                  rintro e w9 ⟨pl, ph, pol, poh, rfl, ⟨i1, i2, i3, i4, i5, i6⟩, hb9⟩
                  have bk := bk.b hb9
                  have r0 := bk.cell 0
                  have r1 := bk.cell 1
                  have rl := bk.lt
                  have HB10 := Lib.hid (HB9.out.trans (hb9.mono HB9.out.size))
                  clear C13 hb9 bk
                  go_wp2_with (go_at_call 20; (with_reducible refine (C20.out _ ((HB10.out.alloc HB10.out.size _).alloc (by have := HB10.out.size; simp; omega) _)).mono ?_); rintro e w10 ⟨rfl, hb⟩; have HB11 := Lib.hid (((HB10.out.alloc HB10.out.size (.cells #[.int .i64 pl, .int .i64 ph] 48)).alloc (by have := HB10.out.size; simp; omega) (.cells #[.int .i64 pol, .int .i64 poh] 48)).trans (hb.mono (by have := HB10.out.size; simp; omega))); clear hb)
                  go_ret
                  exact ⟨rfl, HB11.out⟩
                · have t1 : ¬ (u : Int) < (lo : Int) := by omega
                  by_cases hhu : hi < u
                  · have t2 : (hi : Int) < (u : Int) := by omega
                    go_wp2_with fail
                    have hB7 := (HKC.out.below HK7.out.bel).bel
                    have hB8a := bel_set4s (y3 := .int .i64 0) (y4 := .int .i64 (M : Int)) (y5 := .int .i64 (Z : Int)) (y6 := .int .i64 (Z : Int)) hB7 (Nat.le_refl _)
                    have hB8 := hB8a.alloc hB8a.size (.cells #[.int .i64 0, .int .i64 (M : Int)] 73)
                    have bk := set4_new w7 w2.heap.size (.int .i64 0) (.int .i64 (M : Int)) (.int .i64 (Z : Int)) (.int .i64 (Z : Int)) #[.int .i64 0, .int .i64 (M : Int)] 73
                    have C14 := census_top e1 s1 a1 es sm ap 0 M Z _ (HS.out.1.below hB8) (HS.out.2.1.below hB8) (HS.out.2.2.1.below hB8) (by have h1 := HTF.out.tp.len; have h2 := HTF.out.n9; omega) (by have := HTF.out.s5; omega) (by have := HTF.out.a5; omega)
                    rw [zz] at C14
                    have HB8 := Lib.hid (HB3.out.trans (hB8.mono HB3.out.size))
                    with_reducible refine C14.mono ?_
                    rintro e w8 ⟨e2, s2, b2, rfl, ⟨hse, hss, hsa⟩, hb8⟩
                    have HB9 := Lib.hid (HB8.out.trans (hb8.mono HB8.out.size))
                    have hG8 := HG.out.below HB9.out
                    have bk := bk.b hb8
                    have C13 := pers_top e2 s2 b2 es sm ap of om nu 0 M u Z (by rw [← HPP.out]; exact HZM.out.1) HTF.out w8 ⟨hse, hss, hsa, hG8.gt, hG8.one⟩ (Nat.zero_le _) huM (by omega) hu30
                    rw [← HPP.out] at C13
                    rw [zz] at C13
                    clear C14 hB7 hB8 hse hss hsa hb8 hG8
                    go_wp2_with fail
                    with_reducible refine C13.mono ?_
                    rintro e w9 ⟨pl, ph, pol, poh, rfl, ⟨i1, i2, i3, i4, i5, i6⟩, hb9⟩
                    have bk := bk.b hb9
                    have r0 := bk.cell 0
                    have r1 := bk.cell 1
                    have rl := bk.lt
                    have HB10 := Lib.hid (HB9.out.trans (hb9.mono HB9.out.size))
                    clear C13 hb9 bk
                    go_wp2_with (go_at_call 20; (with_reducible refine (C20.out _ ((HB10.out.alloc HB10.out.size _).alloc (by have := HB10.out.size; simp; omega) _)).mono ?_); rintro e w10 ⟨rfl, hb⟩; have HB11 := Lib.hid (((HB10.out.alloc HB10.out.size (.cells #[.int .i64 pl, .int .i64 ph] 48)).alloc (by have := HB10.out.size; simp; omega) (.cells #[.int .i64 pol, .int .i64 poh] 48)).trans (hb.mono (by have := HB10.out.size; simp; omega))); clear hb)
                    go_ret
                    exact ⟨rfl, HB11.out⟩
                  · have t2 : ¬ (hi : Int) < (u : Int) := by omega
                    go_wp2_with fail
                    have hB7 := (HKC.out.below HK7.out.bel).bel
                    have hB8a := bel_set4s (y3 := .int .i64 (lo : Int)) (y4 := .int .i64 (hi : Int)) (y5 := .int .i64 (Z : Int)) (y6 := .int .i64 (Z : Int)) hB7 (Nat.le_refl _)
                    have hB8 := hB8a.alloc hB8a.size (.cells #[.int .i64 (lo : Int), .int .i64 (hi : Int)] 73)
                    have bk := set4_new w7 w2.heap.size (.int .i64 (lo : Int)) (.int .i64 (hi : Int)) (.int .i64 (Z : Int)) (.int .i64 (Z : Int)) #[.int .i64 (lo : Int), .int .i64 (hi : Int)] 73
                    have C14 := census_top e1 s1 a1 es sm ap lo hi Z _ (HS.out.1.below hB8) (HS.out.2.1.below hB8) (HS.out.2.2.1.below hB8) (by have h1 := HTF.out.tp.len; have h2 := HTF.out.n9; omega) (by have := HTF.out.s5; omega) (by have := HTF.out.a5; omega)
                    have HB8 := Lib.hid (HB3.out.trans (hB8.mono HB3.out.size))
                    with_reducible refine C14.mono ?_
                    rintro e w8 ⟨e2, s2, b2, rfl, ⟨hse, hss, hsa⟩, hb8⟩
                    have HB9 := Lib.hid (HB8.out.trans (hb8.mono HB8.out.size))
                    have hG8 := HG.out.below HB9.out
                    have bk := bk.b hb8
                    have C13 := pers_top e2 s2 b2 es sm ap of om nu lo hi u Z (by rw [← HPP.out]; exact HZM.out.1) HTF.out w8 ⟨hse, hss, hsa, hG8.gt, hG8.one⟩ (by omega) (by omega) (by omega) hu30
                    rw [← HPP.out] at C13
                    clear C14 hB7 hB8 hse hss hsa hb8 hG8
                    go_wp2_with fail
                    with_reducible refine C13.mono ?_
                    rintro e w9 ⟨pl, ph, pol, poh, rfl, ⟨i1, i2, i3, i4, i5, i6⟩, hb9⟩
                    have bk := bk.b hb9
                    have r0 := bk.cell 0
                    have r1 := bk.cell 1
                    have rl := bk.lt
                    have HB10 := Lib.hid (HB9.out.trans (hb9.mono HB9.out.size))
                    clear C13 hb9 bk
                    go_wp2_with (go_at_call 20; (with_reducible refine (C20.out _ ((HB10.out.alloc HB10.out.size _).alloc (by have := HB10.out.size; simp; omega) _)).mono ?_); rintro e w10 ⟨rfl, hb⟩; have HB11 := Lib.hid (((HB10.out.alloc HB10.out.size (.cells #[.int .i64 pl, .int .i64 ph] 48)).alloc (by have := HB10.out.size; simp; omega) (.cells #[.int .i64 pol, .int .i64 poh] 48)).trans (hb.mono (by have := HB10.out.size; simp; omega))); clear hb)
                    go_ret
                    exact ⟨rfl, HB11.out⟩
              · go_wp2_with fail
                have hB7 := (HKC.out.below HK7.out.bel).bel
                have hB8a := bel_set4s (y3 := .int .i64 0) (y4 := .int .i64 (M : Int)) (y5 := .int .i64 (Z : Int)) (y6 := .int .i64 (Z : Int)) hB7 (Nat.le_refl _)
                have hB8 := hB8a.alloc hB8a.size (.cells #[.int .i64 0, .int .i64 (M : Int)] 73)
                have bk := set4_new w7 w2.heap.size (.int .i64 0) (.int .i64 (M : Int)) (.int .i64 (Z : Int)) (.int .i64 (Z : Int)) #[.int .i64 0, .int .i64 (M : Int)] 73
                have C14 := census_top e1 s1 a1 es sm ap 0 M Z _ (HS.out.1.below hB8) (HS.out.2.1.below hB8) (HS.out.2.2.1.below hB8) (by have h1 := HTF.out.tp.len; have h2 := HTF.out.n9; omega) (by have := HTF.out.s5; omega) (by have := HTF.out.a5; omega)
                rw [zz] at C14
                have HB8 := Lib.hid (HB3.out.trans (hB8.mono HB3.out.size))
                with_reducible refine C14.mono ?_
                rintro e w8 ⟨e2, s2, b2, rfl, ⟨hse, hss, hsa⟩, hb8⟩
                have HB9 := Lib.hid (HB8.out.trans (hb8.mono HB8.out.size))
                have hG8 := HG.out.below HB9.out
                have bk := bk.b hb8
                have C13 := pers_top e2 s2 b2 es sm ap of om nu 0 M u Z (by rw [← HPP.out]; exact HZM.out.1) HTF.out w8 ⟨hse, hss, hsa, hG8.gt, hG8.one⟩ (Nat.zero_le _) huM (by omega) hu30
                rw [← HPP.out] at C13
                rw [zz] at C13
                clear C14 hB7 hB8 hse hss hsa hb8 hG8
                go_wp2_with fail
                with_reducible refine C13.mono ?_
                rintro e w9 ⟨pl, ph, pol, poh, rfl, ⟨i1, i2, i3, i4, i5, i6⟩, hb9⟩
                have bk := bk.b hb9
                have r0 := bk.cell 0
                have r1 := bk.cell 1
                have rl := bk.lt
                have HB10 := Lib.hid (HB9.out.trans (hb9.mono HB9.out.size))
                clear C13 hb9 bk
                go_wp2_with (go_at_call 20; (with_reducible refine (C20.out _ ((HB10.out.alloc HB10.out.size _).alloc (by have := HB10.out.size; simp; omega) _)).mono ?_); rintro e w10 ⟨rfl, hb⟩; have HB11 := Lib.hid (((HB10.out.alloc HB10.out.size (.cells #[.int .i64 pl, .int .i64 ph] 48)).alloc (by have := HB10.out.size; simp; omega) (.cells #[.int .i64 pol, .int .i64 poh] 48)).trans (hb.mono (by have := HB10.out.size; simp; omega))); clear hb)
                go_ret
                exact ⟨rfl, HB11.out⟩
        · have q1 : (i : Int) < (m2 : Int) := by omega
          have q2 : ¬ (i : Int) < (P : Int) := by omega
          clear hK1 hK2
          have hol : (lots.take i).length = i := by rw [List.length_take, HL.out.1]; omega
          obtain ⟨l, hl⟩ : ∃ l, l = lots.take i := ⟨_, rfl⟩
          rw [← hl] at H hol
          obtain ⟨d1, hv1, hsd, -⟩ := SlN.of_own H.out.1
          rw [hol] at hv1
          subst hv1
          obtain ⟨Z, hZ⟩ : ∃ q, q = P + u := ⟨_, rfl⟩
          have sZ : (P : Int) + (u : Int) = (Z : Int) := by omega
          obtain ⟨R9, hR9⟩ : ∃ q, q = m2 % 9 := ⟨_, rfl⟩
          have hR99 : R9 < 9 := by omega
          obtain ⟨⟨g1, g2⟩, -, -⟩ := nat_forms m2 9
          rw [← hR9] at g1 g2
          change (m2 : Int).tmod 9 = (R9 : Int) at g1
          change (m2 : Int) % 9 = (R9 : Int) at g2
          obtain ⟨M, hM⟩ : ∃ q, q = u + R9 := ⟨_, rfl⟩
          have sM : (u : Int) + (R9 : Int) = (M : Int) := by omega
          have DT := Lib.hid (fun W hW => draw_top P u Z hZ d1 l i hol W (hsd.below (W' := W) hW) (by omega) (by omega))
          have HZM := Lib.hid (And.intro hZ (And.intro hM hR99))
          have HK4 := Lib.hid H.out.2.1
          have HLN := Lib.hid hol
          clear hZ hM hR9 hR99 hl hol hsd HK3 H
          go_wp2_with fail
          with_reducible refine (DT.out _ (Below.refl _ _)).mono ?_
          rintro e w4 ⟨d2, rfl, hsn, hdl, hb⟩
          have hk4 := HK4.out.below hb
          have hB4 := HB3.out.trans (hk4.bel.mono HB3.out.size)
          obtain ⟨D, hD⟩ : ∃ D, D = Mis.drawn (P + u) l := ⟨_, rfl⟩
          rw [← hD] at hsn hdl
          have HD := Lib.hid (And.intro hD (And.intro hsn hdl))
          have HKC := Lib.hid hk4
          have HB4 := Lib.hid hB4
          have HBL4 := Lib.hid (HBL3.out.b hk4.bel)
          clear hk4 hB4 hD hsn hdl hb DT HK4 HBL3
          go_wp2_with fail
          go_loopw [18] (fun x wr2 => ∃ (j : Nat), j ≤ i ∧ x = .int .i64 (j : Int) ∧ Hid (KS w4 [(w4.heap.size, #[.int .i64 (P : Int), .int .i64 (M : Int), .int .i64 (i : Int), .int .i64 ((Mis.fnd P (D.take j) : Nat) : Int)], 69)] wr2)) (fun x _ => i - (intOf x).toNat)
          case atStart => exact ⟨0, Nat.zero_le _, rfl, Lib.hid ((KS.start w4).new _ 69)⟩
          case round =>
            obtain ⟨j, hj, rfl, G⟩ := hrel
            by_cases hji : j < i
            · obtain ⟨y, hy⟩ : ∃ y, D[j]? = some y := ⟨_, List.getElem?_eq_getElem (by rw [HD.out.2.2]; exact hji)⟩
              have hne : D ≠ [] := by rintro rfl; simp at hy
              obtain ⟨d2a, d2b, d2o, d2c⟩ := d2
              have ea := HD.out.2.1.at_ hne
              dsimp only at *
              subst ea
              have hsn := HD.out.2.1.below G.out.bel
              have cy := hsn.cells j y hy
              have ly := hsn.lt hne
              dsimp only at cy ly
              have q0 : (0 : Int) ≤ (j : Int) := by omega
              have q1' : (j : Int) < (i : Int) := by omega
              have hfs := Mis.fnd_take_succ P D j (by rw [HD.out.2.2]; exact hji)
              rw [List.getD_eq_getElem?_getD, hy] at hfs
              simp only [Option.getD_some] at hfs
              have c3 := (G.out.blkAt 0 rfl).cell 3
              have f3 := (G.out.blkAt 0 rfl).frozen 3
              have l3 := (G.out.blkAt 0 rfl).lt
              have hfl : Mis.fnd P (D.take j) ≤ j := by
                have h1 := List.length_filter_le (fun x => decide (x < P)) (D.take j)
                have h2 := List.length_take_le j D
                unfold Mis.fnd; omega
              have HFS := Lib.hid hfs
              clear hsn hfs hy hne
              obtain ⟨Fj, hFj⟩ : ∃ F, F = Mis.fnd P (D.take j) := ⟨_, rfl⟩
              rw [← hFj] at c3 hfl G HFS
              clear hFj
              by_cases hyP : y < P
              · have q3 : (y : Int) < (P : Int) := by omega
                rw [if_pos hyP] at HFS
                go_wp2_with fail
                go_roundw
                case rel => exact ⟨j + 1, by omega, by go_num, Lib.hid (by rw [HFS.out]; exact G.out.set3 (Nat.le_refl _))⟩
                case measure => simp [intOf]; omega
              · have q3 : ¬ (y : Int) < (P : Int) := by omega
                rw [if_neg hyP] at HFS
                go_wp2_with fail
                go_roundw
                case rel => exact ⟨j + 1, by omega, by go_num, Lib.hid (by rw [HFS.out]; exact G.out)⟩
                case measure => simp [intOf]; omega
            · have hjx : D.take j = D := by rw [show j = i by omega]; exact List.take_of_length_le (by rw [HD.out.2.2]; omega)
              rw [hjx] at G
              obtain ⟨F, hF⟩ : ∃ F, F = Mis.fnd P D := ⟨_, rfl⟩
              rw [← hF] at G
              have hFF : F ≤ P ∧ F ≤ i ∧ i ≤ F + u := by
                have h := Mis.fnd_drawn P u l (by rw [HLN.out]; omega)
                rw [← HD.out.1, ← hF, HLN.out] at h; exact h
              have q5 : ¬ (j : Int) < (i : Int) := by omega
              obtain ⟨h1, h2, h3⟩ := hFF
              have hM37 : M ≤ 37 := by have := HZM.out; omega
              have huM : u ≤ M := by have := HZM.out; omega
              have hok : Mi.okA P M i F := ⟨by omega, by omega, by omega⟩
              have CC := Lib.hid (fun W => chance_top hok huM h3 W)
              have CW2 := Lib.hid (fun W => whole_top hok W)
              have CM := Lib.hid (fun W => missed_top hok HLV.out W)
              have c0 := (G.out.blkAt 0 rfl).cell 0
              have c1 := (G.out.blkAt 0 rfl).cell 1
              have c2 := (G.out.blkAt 0 rfl).cell 2
              have c3 := (G.out.blkAt 0 rfl).cell 3
              clear hjx hF h1 h2 h3 hok HD HLN HLV
              go_wp2_with fail
              with_reducible refine (CC.out _).mono ?_
              rintro e w5 ⟨x, y, hx, rfl, hb⟩
              have hk5 := G.out.below hb
              have c0 := (hk5.blkAt 0 rfl).cell 0
              have c1 := (hk5.blkAt 0 rfl).cell 1
              have c2 := (hk5.blkAt 0 rfl).cell 2
              have c3 := (hk5.blkAt 0 rfl).cell 3
              have l3 := (hk5.blkAt 0 rfl).lt
              have HK5 := Lib.hid (hk5.new #[.int .i64 (x : Int), .int .i64 (y : Int)] 70)
              have hx0 : ¬ (x : Int) ≤ 0 := by omega
              clear hk5 hb CC G hx
              go_wp2_with fail
              with_reducible refine (CW2.out _).mono ?_
              rintro e w6 ⟨rfl, hb⟩
              have hk6 := HK5.out.below hb
              have c0 := (hk6.blkAt 1 rfl).cell 0
              have c1 := (hk6.blkAt 1 rfl).cell 1
              have c2 := (hk6.blkAt 1 rfl).cell 2
              have c3 := (hk6.blkAt 1 rfl).cell 3
              have l3 := (hk6.blkAt 1 rfl).lt
              have x0 := (hk6.blkAt 0 rfl).cell 0
              have xl := (hk6.blkAt 0 rfl).lt
              have hbl := HBL4.out.b hk6.bel
              have n0 := hbl.cell 0
              have n1 := hbl.cell 1
              have nl := hbl.lt
              have HK6 := Lib.hid (hk6.new #[.int .i64 0, .int .i64 (M : Int)] 73)
              clear hk6 hb CW2 HK5 hbl
              go_wp2_with fail
              with_reducible refine (CM.out _).mono ?_
              rintro e w7 ⟨hres, hb⟩
              have hk7 := HK6.out.below hb
              have z0 := (hk7.blkAt 0 rfl).cell 0
              have z1 := (hk7.blkAt 0 rfl).cell 1
              have zl := (hk7.blkAt 0 rfl).lt
              have hcn := (HKC.out.below hk7.bel).blkAt 0 rfl
              rw [HCB.out] at hcn
              obtain ⟨y0, y1, y2, y3, y4, y5, y6⟩ := hcn.c7
              have yf3 := hcn.frozen 3
              have yf4 := hcn.frozen 4
              have yf5 := hcn.frozen 5
              have yf6 := hcn.frozen 6
              have yl := hcn.lt
              have HCN := Lib.hid hcn
              have HK7 := Lib.hid hk7
              clear hcn hk7 hb
              have zz : ((0 : Nat) : Int) = 0 := rfl
              rcases hres with ⟨lo, hi, ⟨hlh, hhM⟩, rfl⟩ | rfl
              · by_cases hlu : u < lo
                · have t1 : (u : Int) < (lo : Int) := by omega
                  go_wp2_with fail
                  have hB7 := (HKC.out.below HK7.out.bel).bel
                  have hB8a := bel_set4s (y3 := .int .i64 0) (y4 := .int .i64 (M : Int)) (y5 := .int .i64 (Z : Int)) (y6 := .int .i64 (Z : Int)) hB7 (Nat.le_refl _)
                  have hB8 := hB8a.alloc hB8a.size (.cells #[.int .i64 0, .int .i64 (M : Int)] 73)
                  have bk := set4_new w7 w2.heap.size (.int .i64 0) (.int .i64 (M : Int)) (.int .i64 (Z : Int)) (.int .i64 (Z : Int)) #[.int .i64 0, .int .i64 (M : Int)] 73
                  have C14 := census_top e1 s1 a1 es sm ap 0 M Z _ (HS.out.1.below hB8) (HS.out.2.1.below hB8) (HS.out.2.2.1.below hB8) (by have h1 := HTF.out.tp.len; have h2 := HTF.out.n9; omega) (by have := HTF.out.s5; omega) (by have := HTF.out.a5; omega)
                  rw [zz] at C14
                  have HB8 := Lib.hid (HB3.out.trans (hB8.mono HB3.out.size))
                  with_reducible refine C14.mono ?_
                  rintro e w8 ⟨e2, s2, b2, rfl, ⟨hse, hss, hsa⟩, hb8⟩
                  have HB9 := Lib.hid (HB8.out.trans (hb8.mono HB8.out.size))
                  have hG8 := HG.out.below HB9.out
                  have bk := bk.b hb8
                  have C13 := pers_top e2 s2 b2 es sm ap of om nu 0 M u Z (by rw [← HPP.out]; exact HZM.out.1) HTF.out w8 ⟨hse, hss, hsa, hG8.gt, hG8.one⟩ (Nat.zero_le _) huM (by omega) hu30
                  rw [← HPP.out] at C13
                  rw [zz] at C13
                  clear C14 hB7 hB8 hse hss hsa hb8 hG8
                  go_wp2_with fail
                  with_reducible refine C13.mono ?_
                  rintro e w9 ⟨pl, ph, pol, poh, rfl, ⟨i1, i2, i3, i4, i5, i6⟩, hb9⟩
                  have bk := bk.b hb9
                  have r0 := bk.cell 0
                  have r1 := bk.cell 1
                  have rl := bk.lt
                  have HB10 := Lib.hid (HB9.out.trans (hb9.mono HB9.out.size))
                  clear C13 hb9 bk
                  go_wp2_with (go_at_call 20; (with_reducible refine (C20.out _ ((HB10.out.alloc HB10.out.size _).alloc (by have := HB10.out.size; simp; omega) _)).mono ?_); rintro e w10 ⟨rfl, hb⟩; have HB11 := Lib.hid (((HB10.out.alloc HB10.out.size (.cells #[.int .i64 pl, .int .i64 ph] 48)).alloc (by have := HB10.out.size; simp; omega) (.cells #[.int .i64 pol, .int .i64 poh] 48)).trans (hb.mono (by have := HB10.out.size; simp; omega))); clear hb)
                  go_ret
                  exact ⟨rfl, HB11.out⟩
                · have t1 : ¬ (u : Int) < (lo : Int) := by omega
                  by_cases hhu : hi < u
                  · have t2 : (hi : Int) < (u : Int) := by omega
                    go_wp2_with fail
                    have hB7 := (HKC.out.below HK7.out.bel).bel
                    have hB8a := bel_set4s (y3 := .int .i64 0) (y4 := .int .i64 (M : Int)) (y5 := .int .i64 (Z : Int)) (y6 := .int .i64 (Z : Int)) hB7 (Nat.le_refl _)
                    have hB8 := hB8a.alloc hB8a.size (.cells #[.int .i64 0, .int .i64 (M : Int)] 73)
                    have bk := set4_new w7 w2.heap.size (.int .i64 0) (.int .i64 (M : Int)) (.int .i64 (Z : Int)) (.int .i64 (Z : Int)) #[.int .i64 0, .int .i64 (M : Int)] 73
                    have C14 := census_top e1 s1 a1 es sm ap 0 M Z _ (HS.out.1.below hB8) (HS.out.2.1.below hB8) (HS.out.2.2.1.below hB8) (by have h1 := HTF.out.tp.len; have h2 := HTF.out.n9; omega) (by have := HTF.out.s5; omega) (by have := HTF.out.a5; omega)
                    rw [zz] at C14
                    have HB8 := Lib.hid (HB3.out.trans (hB8.mono HB3.out.size))
                    with_reducible refine C14.mono ?_
                    rintro e w8 ⟨e2, s2, b2, rfl, ⟨hse, hss, hsa⟩, hb8⟩
                    have HB9 := Lib.hid (HB8.out.trans (hb8.mono HB8.out.size))
                    have hG8 := HG.out.below HB9.out
                    have bk := bk.b hb8
                    have C13 := pers_top e2 s2 b2 es sm ap of om nu 0 M u Z (by rw [← HPP.out]; exact HZM.out.1) HTF.out w8 ⟨hse, hss, hsa, hG8.gt, hG8.one⟩ (Nat.zero_le _) huM (by omega) hu30
                    rw [← HPP.out] at C13
                    rw [zz] at C13
                    clear C14 hB7 hB8 hse hss hsa hb8 hG8
                    go_wp2_with fail
                    with_reducible refine C13.mono ?_
                    rintro e w9 ⟨pl, ph, pol, poh, rfl, ⟨i1, i2, i3, i4, i5, i6⟩, hb9⟩
                    have bk := bk.b hb9
                    have r0 := bk.cell 0
                    have r1 := bk.cell 1
                    have rl := bk.lt
                    have HB10 := Lib.hid (HB9.out.trans (hb9.mono HB9.out.size))
                    clear C13 hb9 bk
                    go_wp2_with (go_at_call 20; (with_reducible refine (C20.out _ ((HB10.out.alloc HB10.out.size _).alloc (by have := HB10.out.size; simp; omega) _)).mono ?_); rintro e w10 ⟨rfl, hb⟩; have HB11 := Lib.hid (((HB10.out.alloc HB10.out.size (.cells #[.int .i64 pl, .int .i64 ph] 48)).alloc (by have := HB10.out.size; simp; omega) (.cells #[.int .i64 pol, .int .i64 poh] 48)).trans (hb.mono (by have := HB10.out.size; simp; omega))); clear hb)
                    go_ret
                    exact ⟨rfl, HB11.out⟩
                  · have t2 : ¬ (hi : Int) < (u : Int) := by omega
                    go_wp2_with fail
                    have hB7 := (HKC.out.below HK7.out.bel).bel
                    have hB8a := bel_set4s (y3 := .int .i64 (lo : Int)) (y4 := .int .i64 (hi : Int)) (y5 := .int .i64 (Z : Int)) (y6 := .int .i64 (Z : Int)) hB7 (Nat.le_refl _)
                    have hB8 := hB8a.alloc hB8a.size (.cells #[.int .i64 (lo : Int), .int .i64 (hi : Int)] 73)
                    have bk := set4_new w7 w2.heap.size (.int .i64 (lo : Int)) (.int .i64 (hi : Int)) (.int .i64 (Z : Int)) (.int .i64 (Z : Int)) #[.int .i64 (lo : Int), .int .i64 (hi : Int)] 73
                    have C14 := census_top e1 s1 a1 es sm ap lo hi Z _ (HS.out.1.below hB8) (HS.out.2.1.below hB8) (HS.out.2.2.1.below hB8) (by have h1 := HTF.out.tp.len; have h2 := HTF.out.n9; omega) (by have := HTF.out.s5; omega) (by have := HTF.out.a5; omega)
                    have HB8 := Lib.hid (HB3.out.trans (hB8.mono HB3.out.size))
                    with_reducible refine C14.mono ?_
                    rintro e w8 ⟨e2, s2, b2, rfl, ⟨hse, hss, hsa⟩, hb8⟩
                    have HB9 := Lib.hid (HB8.out.trans (hb8.mono HB8.out.size))
                    have hG8 := HG.out.below HB9.out
                    have bk := bk.b hb8
                    have C13 := pers_top e2 s2 b2 es sm ap of om nu lo hi u Z (by rw [← HPP.out]; exact HZM.out.1) HTF.out w8 ⟨hse, hss, hsa, hG8.gt, hG8.one⟩ (by omega) (by omega) (by omega) hu30
                    rw [← HPP.out] at C13
                    clear C14 hB7 hB8 hse hss hsa hb8 hG8
                    go_wp2_with fail
                    with_reducible refine C13.mono ?_
                    rintro e w9 ⟨pl, ph, pol, poh, rfl, ⟨i1, i2, i3, i4, i5, i6⟩, hb9⟩
                    have bk := bk.b hb9
                    have r0 := bk.cell 0
                    have r1 := bk.cell 1
                    have rl := bk.lt
                    have HB10 := Lib.hid (HB9.out.trans (hb9.mono HB9.out.size))
                    clear C13 hb9 bk
                    go_wp2_with (go_at_call 20; (with_reducible refine (C20.out _ ((HB10.out.alloc HB10.out.size _).alloc (by have := HB10.out.size; simp; omega) _)).mono ?_); rintro e w10 ⟨rfl, hb⟩; have HB11 := Lib.hid (((HB10.out.alloc HB10.out.size (.cells #[.int .i64 pl, .int .i64 ph] 48)).alloc (by have := HB10.out.size; simp; omega) (.cells #[.int .i64 pol, .int .i64 poh] 48)).trans (hb.mono (by have := HB10.out.size; simp; omega))); clear hb)
                    go_ret
                    exact ⟨rfl, HB11.out⟩
              · go_wp2_with fail
                have hB7 := (HKC.out.below HK7.out.bel).bel
                have hB8a := bel_set4s (y3 := .int .i64 0) (y4 := .int .i64 (M : Int)) (y5 := .int .i64 (Z : Int)) (y6 := .int .i64 (Z : Int)) hB7 (Nat.le_refl _)
                have hB8 := hB8a.alloc hB8a.size (.cells #[.int .i64 0, .int .i64 (M : Int)] 73)
                have bk := set4_new w7 w2.heap.size (.int .i64 0) (.int .i64 (M : Int)) (.int .i64 (Z : Int)) (.int .i64 (Z : Int)) #[.int .i64 0, .int .i64 (M : Int)] 73
                have C14 := census_top e1 s1 a1 es sm ap 0 M Z _ (HS.out.1.below hB8) (HS.out.2.1.below hB8) (HS.out.2.2.1.below hB8) (by have h1 := HTF.out.tp.len; have h2 := HTF.out.n9; omega) (by have := HTF.out.s5; omega) (by have := HTF.out.a5; omega)
                rw [zz] at C14
                have HB8 := Lib.hid (HB3.out.trans (hB8.mono HB3.out.size))
                with_reducible refine C14.mono ?_
                rintro e w8 ⟨e2, s2, b2, rfl, ⟨hse, hss, hsa⟩, hb8⟩
                have HB9 := Lib.hid (HB8.out.trans (hb8.mono HB8.out.size))
                have hG8 := HG.out.below HB9.out
                have bk := bk.b hb8
                have C13 := pers_top e2 s2 b2 es sm ap of om nu 0 M u Z (by rw [← HPP.out]; exact HZM.out.1) HTF.out w8 ⟨hse, hss, hsa, hG8.gt, hG8.one⟩ (Nat.zero_le _) huM (by omega) hu30
                rw [← HPP.out] at C13
                rw [zz] at C13
                clear C14 hB7 hB8 hse hss hsa hb8 hG8
                go_wp2_with fail
                with_reducible refine C13.mono ?_
                rintro e w9 ⟨pl, ph, pol, poh, rfl, ⟨i1, i2, i3, i4, i5, i6⟩, hb9⟩
                have bk := bk.b hb9
                have r0 := bk.cell 0
                have r1 := bk.cell 1
                have rl := bk.lt
                have HB10 := Lib.hid (HB9.out.trans (hb9.mono HB9.out.size))
                clear C13 hb9 bk
                go_wp2_with (go_at_call 20; (with_reducible refine (C20.out _ ((HB10.out.alloc HB10.out.size _).alloc (by have := HB10.out.size; simp; omega) _)).mono ?_); rintro e w10 ⟨rfl, hb⟩; have HB11 := Lib.hid (((HB10.out.alloc HB10.out.size (.cells #[.int .i64 pl, .int .i64 ph] 48)).alloc (by have := HB10.out.size; simp; omega) (.cells #[.int .i64 pol, .int .i64 poh] 48)).trans (hb.mono (by have := HB10.out.size; simp; omega))); clear hb)
                go_ret
                exact ⟨rfl, HB11.out⟩
end Go.Proofs.YtdfebccmjbocjaaGreatDoor
