/- tithingref02: Allowed, IsAssignment. -/
import Derived.Test.YtdfebccmjbocjaaGreatDoorWe
set_option linter.unusedVariables false
set_option linter.unusedSimpArgs false
namespace Go.Proofs.YtdfebccmjbocjaaGreatDoor
open Go.RowKit Go.Shelf
theorem OwnI.form {W : World} {B n : Nat} {v : Value} {f : Nat → Int} (h : OwnI W B v f n) : ∃ (a : Option Addr) (c : Nat), v = .slice a n c := by
  rcases Joins.ownsRow_forms h with ⟨hv, h0⟩ | ⟨g, c, hv⟩
  · rw [h0]; exact ⟨_, _, hv⟩
  · exact ⟨_, _, hv⟩
theorem ent_get {es : List Ent} {i : Nat} (h : i < es.length) : es[i]? = some (es.getD i ⟨0, 0, 0, 0, 0⟩) := by
  rw [List.getD_eq_getElem?_getD, List.getElem?_eq_getElem h]; rfl
set_option maxRecDepth 100000 in
set_option maxHeartbeats 6400000 in
theorem Allowed_ok (e s a : Loc) (es : List Ent) (sm ap : List (Nat × Nat)) (om nu : Nat × Nat) (of : List Nat) (tab : List (List Nat)) (n : Nat) (la : Option Addr) (lc B : Nat) (w : World) (hn : es.length = n) (hE : SlE w e es) (hS : SlP w s sm) (hA : SlP w a ap) (hT : Tru es sm ap of) (hC : ∀ x, x ∈ es → x.lo ≤ x.hi ∧ x.hi ≤ 120) (hG : GrpOk of tab) (hL : OwnI w B (.slice la n lc) (fun m => (idxG tab m : Int)) n) (h6 : sm.length ≤ 6) (ha6 : ap.length ≤ 6) :
    Calls Tryz.prog 50 #[cenV (.slice e.a n e.c) (.slice s.a sm.length s.c) (.slice a.a ap.length a.c) (om.1 : Int) (om.2 : Int) (nu.1 : Int) (nu.2 : Int), .slice la n lc] w fun x w' => x = .returned (.bool true) ∧ Below w.heap.size w w' := by
  obtain ⟨ea, eb, eo, ec⟩ := e
  obtain ⟨sa, sb, so, sc⟩ := s
  obtain ⟨aa, ab, ao, ac⟩ := a
  dsimp only
  have s0 := (KS.start w).new (cenA (.slice ea n ec) (.slice sa sm.length sc) (.slice aa ap.length ac) (om.1 : Int) (om.2 : Int) (nu.1 : Int) (nu.2 : Int)) 40
  have hofn : of.length = n := by rw [← hT.len]; exact hn
  have hn9 : n ≤ 9 := by rw [← hofn]; exact hT.n9
  have HE := Lib.hid hE
  have HS := Lib.hid hS
  have HA := Lib.hid hA
  have HT := Lib.hid hT
  have HC := Lib.hid hC
  have HG := Lib.hid hG
  have HL := Lib.hid hL
  have S0 := Lib.hid s0
  have HN := Lib.hid (And.intro hn hofn)
  have KC := Lib.hid (fun W (h : KS w [(w.heap.size, cenA (.slice ea n ec) (.slice sa sm.length sc) (.slice aa ap.length ac) (om.1 : Int) (om.2 : Int) (nu.1 : Int) (nu.2 : Int), 40)] W) => h.blkAt 0 rfl)
  have LC := Lib.hid (fun (i : Nat) (hi : i < n) (g : Nat) (hg : la = some ⟨g, 0, none⟩) W (hW : Below w.heap.size w W) => show W.cell? ⟨g, i, none⟩ = some (.int .i64 ((idxG tab i : Nat) : Int)) ∧ g < W.heap.size from ⟨(hW.cell (p := ⟨g, i, none⟩) (hL.lt g (by rw [hg]; rfl)).2).trans (hL.cell (by rw [hg]) hi), Nat.lt_of_lt_of_le (hL.lt g (by rw [hg]; rfl)).2 hW.size⟩)
  clear s0 hE hS hA hT hC hG hL hn hofn
  obtain ⟨c0, -, -, -, -, -, -⟩ := (KC.out _ S0.out).c7
  have cl := (KC.out _ S0.out).lt
  go_enter Tryz.func50, Tryz.ntmps50
  go_wp2_with fail
  go_loopw [5] (fun x wr => ∃ i : Nat, i ≤ n ∧ x = .int .i64 (i : Int) ∧ Hid (KS w [(w.heap.size, cenA (.slice ea n ec) (.slice sa sm.length sc) (.slice aa ap.length ac) (om.1 : Int) (om.2 : Int) (nu.1 : Int) (nu.2 : Int), 40)] wr)) (fun x _ => n - (intOf x).toNat)
  case atStart => exact ⟨0, Nat.zero_le _, rfl, S0⟩
  case round =>
    obtain ⟨i, hi, rfl, H⟩ := hrel
    by_cases hin : i < n
    · have b1 : (i : Int) < (n : Int) := by omega
      go_wp2_with fail
      go_loopw [6] (fun x wr => ∃ k : Nat, k ≤ i ∧ x = .int .i64 (k : Int) ∧ Hid (KS w [(w.heap.size, cenA (.slice ea n ec) (.slice sa sm.length sc) (.slice aa ap.length ac) (om.1 : Int) (om.2 : Int) (nu.1 : Int) (nu.2 : Int), 40)] wr)) (fun x _ => i - (intOf x).toNat)
      case atStart => exact ⟨0, Nat.zero_le _, rfl, H⟩
      case round =>
        clear H
        obtain ⟨k, hk, rfl, F⟩ := hrel
        by_cases hki : k < i
        · obtain ⟨g6, cc, hv6⟩ := Joins.ownsRow_form HL.out (by omega)
          simp only [Value.slice.injEq, true_and] at hv6
          obtain ⟨hv7, hv8⟩ := hv6
          subst hv7
          subst hv8
          obtain ⟨ci, lg⟩ := LC.out i hin g6 rfl _ F.out.bel
          obtain ⟨ck, -⟩ := LC.out k (by omega) g6 rfl _ F.out.bel
          obtain ⟨ci0, -⟩ := LC.out i hin g6 rfl _ (Below.refl _ _)
          obtain ⟨ck0, lg0⟩ := LC.out k (by omega) g6 rfl _ (Below.refl _ _)
          have q0 : (0 : Int) ≤ (i : Int) := by omega
          have q1 : (0 : Int) ≤ (k : Int) := by omega
          have q2 : (k : Int) < (n : Int) := by omega
          have q3 : (k : Int) < (i : Int) := by omega
          have hsame := idx_same HG.out (a := i) (b := k) (by rw [HN.out.2]; exact hin) (by rw [HN.out.2]; omega)
          have hfit := HT.out.fit i k (by rw [HN.out.2]; exact hin) (by rw [HN.out.2]; omega) (by omega)
          have hei := ent_get (es := es) (i := i) (by rw [HN.out.1]; exact hin)
          have hek := ent_get (es := es) (i := k) (by rw [HN.out.1]; omega)
          have hvi := HC.out _ (List.mem_of_getElem? hei)
          have hvk := HC.out _ (List.mem_of_getElem? hek)
          obtain ⟨zi, hzi⟩ : ∃ z, z = idxG tab i := ⟨_, rfl⟩
          obtain ⟨zk, hzk⟩ : ∃ z, z = idxG tab k := ⟨_, rfl⟩
          obtain ⟨ei, hqi⟩ : ∃ z, z = es.getD i ⟨0, 0, 0, 0, 0⟩ := ⟨_, rfl⟩
          obtain ⟨ek, hqk⟩ : ∃ z, z = es.getD k ⟨0, 0, 0, 0, 0⟩ := ⟨_, rfl⟩
          have hfe : fitA es i k = fitE ei ek := by unfold fitA; rw [hqi, hqk]
          rw [hfe] at hfit
          rw [← hqi] at hei hvi
          rw [← hqk] at hek hvk
          rw [← hzi] at ci ci0 hsame
          rw [← hzk] at ck ck0 hsame
          clear hzi hzk hqi hqk hfe
          have hne : es ≠ [] := by rintro rfl; simp at hei
          have ea1 := HE.out.at_ hne
          dsimp only at ea1
          subst ea1
          have HCI := Lib.hid ci0
          have HCK := Lib.hid ck0
          have HLT := Lib.hid lg0
          clear ci0 ck0 lg0
          by_cases hz : zi = zk
          · have t1 : ((zi : Int) == (zk : Int)) = true := by rw [hz]; simp
            have CF := Lib.hid (fun W => Fits_ok ei ek (hfit (hsame.1 hz)) hvi hvk.2 W)
            obtain ⟨BS, hBS⟩ : ∃ BS : List (Nat × Array Value × TypeId), BS = [(w.heap.size, cenA (.slice (some ⟨eb, eo, none⟩) n ec) (.slice sa sm.length sc) (.slice aa ap.length ac) (om.1 : Int) (om.2 : Int) (nu.1 : Int) (nu.2 : Int), 40)] := ⟨_, rfl⟩
            have hS : KS w BS wr.drew := by rw [hBS]; exact F.out.drew
            have KG : ∀ W, KS w BS W → W.cell? ⟨w.heap.size, 0, none⟩ = some (.slice (some ⟨eb, eo, none⟩) n ec) := fun W hW => by rw [hBS] at hW; exact (hW.blkAt 0 rfl).cell 0
            have KI : ∀ W, KS w BS W → W.cell? ⟨g6, i, none⟩ = some (.int .i64 (zi : Int)) := fun W hW => by rw [hBS] at hW; exact ((hW.bel.cell (p := ⟨g6, i, none⟩) HLT.out).trans HCI.out)
            have KJ : ∀ W, KS w BS W → W.cell? ⟨g6, k, none⟩ = some (.int .i64 (zk : Int)) := fun W hW => by rw [hBS] at hW; exact ((hW.bel.cell (p := ⟨g6, k, none⟩) HLT.out).trans HCK.out)
            have KX0 : ∀ W, KS w BS W → W.cell? ⟨eb, eo + i * 5, none⟩ = some (.int .i64 (ei.s : Int)) := fun W hW => by rw [hBS] at hW; exact ((HE.out.below hW.bel).cells i ei hei).1
            have KX1 : ∀ W, KS w BS W → W.cell? ⟨eb, eo + i * 5 + 1, none⟩ = some (.int .i64 (ei.x : Int)) := fun W hW => by rw [hBS] at hW; exact ((HE.out.below hW.bel).cells i ei hei).2.1
            have KX2 : ∀ W, KS w BS W → W.cell? ⟨eb, eo + i * 5 + 2, none⟩ = some (.int .i64 (ei.k : Int)) := fun W hW => by rw [hBS] at hW; exact ((HE.out.below hW.bel).cells i ei hei).2.2.1
            have KX3 : ∀ W, KS w BS W → W.cell? ⟨eb, eo + i * 5 + 3, none⟩ = some (.int .i64 (ei.lo : Int)) := fun W hW => by rw [hBS] at hW; exact ((HE.out.below hW.bel).cells i ei hei).2.2.2.1
            have KX4 : ∀ W, KS w BS W → W.cell? ⟨eb, eo + i * 5 + 4, none⟩ = some (.int .i64 (ei.hi : Int)) := fun W hW => by rw [hBS] at hW; exact ((HE.out.below hW.bel).cells i ei hei).2.2.2.2
            have KY0 : ∀ W, KS w BS W → W.cell? ⟨eb, eo + k * 5, none⟩ = some (.int .i64 (ek.s : Int)) := fun W hW => by rw [hBS] at hW; exact ((HE.out.below hW.bel).cells k ek hek).1
            have KY1 : ∀ W, KS w BS W → W.cell? ⟨eb, eo + k * 5 + 1, none⟩ = some (.int .i64 (ek.x : Int)) := fun W hW => by rw [hBS] at hW; exact ((HE.out.below hW.bel).cells k ek hek).2.1
            have KY2 : ∀ W, KS w BS W → W.cell? ⟨eb, eo + k * 5 + 2, none⟩ = some (.int .i64 (ek.k : Int)) := fun W hW => by rw [hBS] at hW; exact ((HE.out.below hW.bel).cells k ek hek).2.2.1
            have KY3 : ∀ W, KS w BS W → W.cell? ⟨eb, eo + k * 5 + 3, none⟩ = some (.int .i64 (ek.lo : Int)) := fun W hW => by rw [hBS] at hW; exact ((HE.out.below hW.bel).cells k ek hek).2.2.2.1
            have KY4 : ∀ W, KS w BS W → W.cell? ⟨eb, eo + k * 5 + 4, none⟩ = some (.int .i64 (ek.hi : Int)) := fun W hW => by rw [hBS] at hW; exact ((HE.out.below hW.bel).cells k ek hek).2.2.2.2
            have HBS := Lib.hid hBS
            clear hBS hz hfit hsame hvi hvk hei hek ci ck c0 cl
            go_wp2_with fail
            refine wp_region_held_drew (S := KS w BS) (by kernel_rfl) hS (fun hHeld => ?_)
            clear hS
            refine wpAnyH_take (i := 0) (v := ?_) rfl (by kernel_rfl) (by kernel_rfl) (by kernel_rfl) (fun _ _ _ h => h) (Or.inl ⟨by rfl, ?h0⟩) hHeld ?_
            case h0 =>
              intro w' hSw
              (try dsimp only at hSw)
              go_simp
              (try with_reducible rfl)
            (try simp only [Act.put]); (try simp only [List.setIfInBounds_toArray]); (try simp only [List.set_cons_succ]); (try simp only [List.set_cons_zero])
            refine wpAnyH_take (i := 1) (v := ?_) rfl (by kernel_rfl) (by kernel_rfl) (by kernel_rfl) (fun _ _ _ h => h) (Or.inl ⟨by rfl, ?h1⟩) hHeld ?_
            case h1 =>
              intro w' hSw
              (try dsimp only at hSw)
              go_simp
              (try with_reducible rfl)
            (try simp only [Act.put]); (try simp only [List.setIfInBounds_toArray]); (try simp only [List.set_cons_succ]); (try simp only [List.set_cons_zero])
            refine wpAnyH_take (i := 2) (v := ?_) rfl (by kernel_rfl) (by kernel_rfl) (by kernel_rfl) (fun _ _ _ h => h) (Or.inl ⟨by rfl, ?h2⟩) hHeld ?_
            case h2 =>
              intro w' hSw
              (try dsimp only at hSw)
              go_simp
              (try with_reducible rfl)
            (try simp only [Act.put]); (try simp only [List.setIfInBounds_toArray]); (try simp only [List.set_cons_succ]); (try simp only [List.set_cons_zero])
            refine wpAnyH_take (i := 3) (v := ?_) rfl (by kernel_rfl) (by kernel_rfl) (by kernel_rfl) (fun _ _ _ h => h) (Or.inl ⟨by rfl, ?h3⟩) hHeld ?_
            case h3 =>
              intro w' hSw
              (try dsimp only at hSw)
              go_simp
              (try with_reducible rfl)
            (try simp only [Act.put]); (try simp only [List.setIfInBounds_toArray]); (try simp only [List.set_cons_succ]); (try simp only [List.set_cons_zero])
            refine wpAnyH_take (i := 4) (v := ?_) rfl (by kernel_rfl) (by kernel_rfl) (by kernel_rfl) (fun _ _ _ h => h) (Or.inl ⟨by rfl, ?h4⟩) hHeld ?_
            case h4 =>
              intro w' hSw
              (try dsimp only at hSw)
              go_simp
              (try with_reducible rfl)
            (try simp only [Act.put]); (try simp only [List.setIfInBounds_toArray]); (try simp only [List.set_cons_succ]); (try simp only [List.set_cons_zero])
            refine wpAnyH_take (i := 5) (v := ?_) rfl (by kernel_rfl) (by kernel_rfl) (by kernel_rfl) (fun _ _ _ h => h) (Or.inl ⟨by rfl, ?h5⟩) hHeld ?_
            case h5 =>
              intro w' hSw
              (try dsimp only at hSw)
              go_simp
              (try with_reducible rfl)
            (try simp only [Act.put]); (try simp only [List.setIfInBounds_toArray]); (try simp only [List.set_cons_succ]); (try simp only [List.set_cons_zero])
            refine wpAnyH_take (i := 6) (v := ?_) rfl (by kernel_rfl) (by kernel_rfl) (by kernel_rfl) (fun _ _ _ h => h) (Or.inl ⟨by rfl, ?h6⟩) hHeld ?_
            case h6 =>
              intro w' hSw
              (try dsimp only at hSw)
              go_simp
              (try with_reducible rfl)
            (try simp only [Act.put]); (try simp only [List.setIfInBounds_toArray]); (try simp only [List.set_cons_succ]); (try simp only [List.set_cons_zero])
            refine wpAnyH_take (i := 7) (v := ?_) rfl (by kernel_rfl) (by kernel_rfl) (by kernel_rfl) (fun _ _ _ h => h) (Or.inl ⟨by rfl, ?h7⟩) hHeld ?_
            case h7 =>
              intro w' hSw
              (try dsimp only at hSw)
              go_simp
              (try with_reducible rfl)
            (try simp only [Act.put]); (try simp only [List.setIfInBounds_toArray]); (try simp only [List.set_cons_succ]); (try simp only [List.set_cons_zero])
            refine wpAnyH_take (i := 8) (v := ?_) rfl (by kernel_rfl) (by kernel_rfl) (by kernel_rfl) (fun _ _ _ h => h) (Or.inl ⟨by rfl, ?h8⟩) hHeld ?_
            case h8 =>
              intro w' hSw
              (try dsimp only at hSw)
              go_simp
              (try with_reducible rfl)
            (try simp only [Act.put]); (try simp only [List.setIfInBounds_toArray]); (try simp only [List.set_cons_succ]); (try simp only [List.set_cons_zero])
            refine wpAnyH_take (i := 9) (v := ?_) rfl (by kernel_rfl) (by kernel_rfl) (by kernel_rfl) (fun _ _ _ h => h) (Or.inl ⟨by rfl, ?h9⟩) hHeld ?_
            case h9 =>
              intro w' hSw
              (try dsimp only at hSw)
              go_simp
              (try with_reducible rfl)
            (try simp only [Act.put]); (try simp only [List.setIfInBounds_toArray]); (try simp only [List.set_cons_succ]); (try simp only [List.set_cons_zero])
            refine wpAnyH_take (i := 10) (v := ?_) rfl (by kernel_rfl) (by kernel_rfl) (by kernel_rfl) (fun _ _ _ h => h) (Or.inl ⟨by kernel_rfl, ?h10⟩) hHeld ?_
            case h10 =>
              intro w' hSw
              (try dsimp only at hSw)
              go_simp
              (try with_reducible rfl)
            (try simp only [Act.put]); (try simp only [List.setIfInBounds_toArray]); (try simp only [List.set_cons_succ]); (try simp only [List.set_cons_zero])
            refine wpAnyH_take (i := 11) (v := ?_) rfl (by kernel_rfl) (by kernel_rfl) (by kernel_rfl) (fun _ _ _ h => h) (Or.inl ⟨by kernel_rfl, ?h11⟩) hHeld ?_
            case h11 =>
              intro w' hSw
              (try dsimp only at hSw)
              go_simp
              (try with_reducible rfl)
            (try simp only [Act.put]); (try simp only [List.setIfInBounds_toArray]); (try simp only [List.set_cons_succ]); (try simp only [List.set_cons_zero])
            refine wpAnyH_take (i := 12) (v := ?_) rfl (by kernel_rfl) (by kernel_rfl) (by kernel_rfl) (fun _ _ _ h => h) (Or.inl ⟨by kernel_rfl, ?h12⟩) hHeld ?_
            case h12 =>
              intro w' hSw
              (try dsimp only at hSw)
              go_simp
              (try with_reducible rfl)
            (try simp only [Act.put]); (try simp only [List.setIfInBounds_toArray]); (try simp only [List.set_cons_succ]); (try simp only [List.set_cons_zero])
            refine wpAnyH_take (i := 13) (v := ?_) rfl (by kernel_rfl) (by kernel_rfl) (by kernel_rfl) (fun _ _ _ h => h) (Or.inl ⟨by kernel_rfl, ?h13⟩) hHeld ?_
            case h13 =>
              intro w' hSw
              (try dsimp only at hSw)
              go_simp
              (try with_reducible rfl)
            (try simp only [Act.put]); (try simp only [List.setIfInBounds_toArray]); (try simp only [List.set_cons_succ]); (try simp only [List.set_cons_zero])
            refine wpAnyH_take (i := 14) (v := ?_) rfl (by kernel_rfl) (by kernel_rfl) (by kernel_rfl) (fun _ _ _ h => h) (Or.inl ⟨by kernel_rfl, ?h14⟩) hHeld ?_
            case h14 =>
              intro w' hSw
              (try dsimp only at hSw)
              go_simp
              (try with_reducible rfl)
            (try simp only [Act.put]); (try simp only [List.setIfInBounds_toArray]); (try simp only [List.set_cons_succ]); (try simp only [List.set_cons_zero])
            refine wpAnyH_take (i := 15) (v := ?_) rfl (by kernel_rfl) (by kernel_rfl) (by kernel_rfl) (fun _ _ _ h => h) (Or.inl ⟨by kernel_rfl, ?h15⟩) hHeld ?_
            case h15 =>
              intro w' hSw
              (try dsimp only at hSw)
              go_simp
              (try with_reducible rfl)
            (try simp only [Act.put]); (try simp only [List.setIfInBounds_toArray]); (try simp only [List.set_cons_succ]); (try simp only [List.set_cons_zero])
            refine wpAnyH_take (i := 16) (v := ?_) rfl (by kernel_rfl) (by kernel_rfl) (by kernel_rfl) (fun _ _ _ h => h) (Or.inl ⟨by kernel_rfl, ?h16⟩) hHeld ?_
            case h16 =>
              intro w' hSw
              (try dsimp only at hSw)
              go_simp
              (try with_reducible rfl)
            (try simp only [Act.put]); (try simp only [List.setIfInBounds_toArray]); (try simp only [List.set_cons_succ]); (try simp only [List.set_cons_zero])
            refine wpAnyH_take (i := 17) (v := ?_) rfl (by kernel_rfl) (by kernel_rfl) (by kernel_rfl) (fun _ _ _ h => h) (Or.inl ⟨by kernel_rfl, ?h17⟩) hHeld ?_
            case h17 =>
              intro w' hSw
              (try dsimp only at hSw)
              go_simp
              (try with_reducible rfl)
            (try simp only [Act.put]); (try simp only [List.setIfInBounds_toArray]); (try simp only [List.set_cons_succ]); (try simp only [List.set_cons_zero])
            refine wpAnyH_take (i := 18) (v := ?_) rfl (by kernel_rfl) (by kernel_rfl) (by kernel_rfl) (fun _ _ _ h => h) (Or.inl ⟨by kernel_rfl, ?h18⟩) hHeld ?_
            case h18 =>
              intro w' hSw
              (try dsimp only at hSw)
              go_simp
              (try with_reducible rfl)
            (try simp only [Act.put]); (try simp only [List.setIfInBounds_toArray]); (try simp only [List.set_cons_succ]); (try simp only [List.set_cons_zero])
            refine wpAnyH_take (i := 19) (v := ?_) rfl (by kernel_rfl) (by kernel_rfl) (by kernel_rfl) (fun _ _ _ h => h) (Or.inl ⟨by kernel_rfl, ?h19⟩) hHeld ?_
            case h19 =>
              intro w' hSw
              (try dsimp only at hSw)
              go_simp
              (try with_reducible rfl)
            (try simp only [Act.put]); (try simp only [List.setIfInBounds_toArray]); (try simp only [List.set_cons_succ]); (try simp only [List.set_cons_zero])
            refine wpAnyH_ready (rs := [20]) (by kernel_rfl) (by simp) ?_
            refine AllReadyH.cons rfl (fun K hK => ?_) (AllReadyH.nil)
            go_simp
            (refine (CF.out _).mono ?_)
            rintro e9 w5 ⟨rfl, hb⟩
            have hS2 := hHeld.below hb
            clear hb
            refine hK.out _ _ hS2 (fun hHeld => ?_)
            clear hK K hS2
            (try simp only [Act.put]); (try simp only [List.setIfInBounds_toArray]); (try simp only [List.set_cons_succ]); (try simp only [List.set_cons_zero])
            refine wpAnyH_take (i := 21) (v := ?_) rfl (by kernel_rfl) (by kernel_rfl) (by kernel_rfl) (fun _ _ _ h => h) (Or.inl ⟨by kernel_rfl, ?h21⟩) hHeld ?_
            case h21 =>
              intro w' hSw
              (try dsimp only at hSw)
              go_simp
              (try with_reducible rfl)
            (try simp only [Act.put]); (try simp only [List.setIfInBounds_toArray]); (try simp only [List.set_cons_succ]); (try simp only [List.set_cons_zero])
            refine wpAnyH_take (i := 22) (v := ?_) rfl (by kernel_rfl) (by kernel_rfl) (by kernel_rfl) (fun _ _ _ h => h) (Or.inl ⟨by rfl, ?h22⟩) hHeld ?_
            case h22 =>
              intro w' hSw
              (try dsimp only at hSw)
              go_simp
              (try with_reducible rfl)
            (try simp only [Act.put]); (try simp only [List.setIfInBounds_toArray]); (try simp only [List.set_cons_succ]); (try simp only [List.set_cons_zero])
            refine wpAnyH_done (by kernel_rfl) ?_ _
            rw [HBS.out] at hHeld
            have HF := Lib.hid hHeld
            clear hHeld KG KI KJ KX0 KX1 KX2 KX3 KX4 KY0 KY1 KY2 KY3 KY4
            go_wp2_with fail
            go_roundw
            case rel => exact ⟨k + 1, by omega, by go_num, HF⟩
            case measure => simp [intOf]; omega
          · have t1 : ((zi : Int) == (zk : Int)) = false := by simp; omega
            obtain ⟨c0, -, -, -, -, -, -⟩ := (KC.out _ F.out).c7
            have cl := (KC.out _ F.out).lt
            clear hfit hsame hvi hvk hei hek
            go_wp2_with fail
            go_quiet (fail)
            go_wp2_with fail
            go_roundw
            case rel => exact ⟨k + 1, by omega, by go_num, Lib.hid (F.out.below ((Below.refl _ _).drewN' _))⟩
            case measure => simp [intOf]; omega
        · have q3 : ¬ (k : Int) < (i : Int) := by omega
          go_wp2_with fail
          go_roundw
          case rel => exact ⟨i + 1, by omega, by go_num, F⟩
          case measure => simp [intOf]; omega
    · have b1 : ¬ (i : Int) < (n : Int) := by omega
      obtain ⟨c0, c1, c2, -, -, -, -⟩ := (KC.out _ H.out).c7
      have cl := (KC.out _ H.out).lt
      go_wp2_with fail
      go_loopw [7] (fun x wr => ∃ j : Nat, j ≤ sm.length ∧ x = .int .i64 (j : Int) ∧ Hid (KS w [(w.heap.size, cenA (.slice ea n ec) (.slice sa sm.length sc) (.slice aa ap.length ac) (om.1 : Int) (om.2 : Int) (nu.1 : Int) (nu.2 : Int), 40)] wr)) (fun x _ => sm.length - (intOf x).toNat)
      case atStart => exact ⟨0, Nat.zero_le _, rfl, H⟩
      case round =>
        clear H
        obtain ⟨j, hj, rfl, F⟩ := hrel
        obtain ⟨-, c1, c2, -, -, -, -⟩ := (KC.out _ F.out).c7
        have cl := (KC.out _ F.out).lt
        by_cases hjs : j < sm.length
        · obtain ⟨⟨p1, p2⟩, hp⟩ : ∃ p, sm[j]? = some p := ⟨_, List.getElem?_eq_getElem hjs⟩
          obtain ⟨⟨h1, h2⟩, he⟩ := HT.out.sm _ (List.mem_of_getElem? hp)
          dsimp only at h1 h2 he
          have hsame := idx_same HG.out h1 h2
          rw [HN.out.2] at h1 h2
          have hne : sm ≠ [] := by rintro rfl; simp at hp
          have ea1 := HS.out.at_ hne
          dsimp only at ea1
          subst ea1
          have hsl := HS.out.below F.out.bel
          obtain ⟨d0, d1⟩ := hsl.cells j _ hp
          have dl := hsl.lt hne
          dsimp only at d0 d1 dl
          obtain ⟨g6, cc, hv6⟩ := Joins.ownsRow_form HL.out (by omega)
          simp only [Value.slice.injEq, true_and] at hv6
          obtain ⟨hv7, hv8⟩ := hv6
          subst hv7
          subst hv8
          obtain ⟨ci, lg⟩ := LC.out p1 h1 g6 rfl _ F.out.bel
          obtain ⟨ck, -⟩ := LC.out p2 h2 g6 rfl _ F.out.bel
          obtain ⟨zi, hzi⟩ : ∃ z, z = idxG tab p1 := ⟨_, rfl⟩
          obtain ⟨zk, hzk⟩ : ∃ z, z = idxG tab p2 := ⟨_, rfl⟩
          rw [← hzi] at ci hsame
          rw [← hzk] at ck hsame
          clear hzi hzk
          have t1 : ((zi : Int) != (zk : Int)) = false := by rw [hsame.2 he]; simp
          have q0 : (0 : Int) ≤ (j : Int) := by omega
          have q1 : (j : Int) < (sm.length : Int) := by omega
          have q2 : (0 : Int) ≤ (p1 : Int) := by omega
          have q3 : (p1 : Int) < (n : Int) := by omega
          have q4 : (0 : Int) ≤ (p2 : Int) := by omega
          have q5 : (p2 : Int) < (n : Int) := by omega
          clear hp hsame he hne hsl
          go_wp2_with fail
          go_quiet (fail)
          go_wp2_with fail
          go_roundw
          case rel => exact ⟨j + 1, by omega, by go_num, Lib.hid (F.out.below ((Below.refl _ _).drewN' _))⟩
          case measure => simp [intOf]; omega
        · have q1 : ¬ (j : Int) < (sm.length : Int) := by omega
          go_wp2_with fail
          go_loopw [8] (fun x wr => ∃ j : Nat, j ≤ ap.length ∧ x = .int .i64 (j : Int) ∧ Hid (KS w [(w.heap.size, cenA (.slice ea n ec) (.slice sa sm.length sc) (.slice aa ap.length ac) (om.1 : Int) (om.2 : Int) (nu.1 : Int) (nu.2 : Int), 40)] wr)) (fun x _ => ap.length - (intOf x).toNat)
          case atStart => exact ⟨0, Nat.zero_le _, rfl, F⟩
          case round =>
            clear F
            obtain ⟨j, hj, rfl, F⟩ := hrel
            obtain ⟨-, c1, c2, -, -, -, -⟩ := (KC.out _ F.out).c7
            have cl := (KC.out _ F.out).lt
            by_cases hjs : j < ap.length
            · obtain ⟨⟨p1, p2⟩, hp⟩ : ∃ p, ap[j]? = some p := ⟨_, List.getElem?_eq_getElem hjs⟩
              obtain ⟨⟨h1, h2⟩, he⟩ := HT.out.ap _ (List.mem_of_getElem? hp)
              dsimp only at h1 h2 he
              have hsame := idx_same HG.out h1 h2
              rw [HN.out.2] at h1 h2
              have hne : ap ≠ [] := by rintro rfl; simp at hp
              have ea1 := HA.out.at_ hne
              dsimp only at ea1
              subst ea1
              have hsl := HA.out.below F.out.bel
              obtain ⟨d0, d1⟩ := hsl.cells j _ hp
              have dl := hsl.lt hne
              dsimp only at d0 d1 dl
              obtain ⟨g6, cc, hv6⟩ := Joins.ownsRow_form HL.out (by omega)
              simp only [Value.slice.injEq, true_and] at hv6
              obtain ⟨hv7, hv8⟩ := hv6
              subst hv7
              subst hv8
              obtain ⟨ci, lg⟩ := LC.out p1 h1 g6 rfl _ F.out.bel
              obtain ⟨ck, -⟩ := LC.out p2 h2 g6 rfl _ F.out.bel
              obtain ⟨zi, hzi⟩ : ∃ z, z = idxG tab p1 := ⟨_, rfl⟩
              obtain ⟨zk, hzk⟩ : ∃ z, z = idxG tab p2 := ⟨_, rfl⟩
              rw [← hzi] at ci hsame
              rw [← hzk] at ck hsame
              clear hzi hzk
              have t1 : ((zi : Int) == (zk : Int)) = false := by rw [beq_eq_false_iff_ne]; intro e; exact he (hsame.1 (by omega))
              have q0 : (0 : Int) ≤ (j : Int) := by omega
              have q1 : (j : Int) < (ap.length : Int) := by omega
              have q2 : (0 : Int) ≤ (p1 : Int) := by omega
              have q3 : (p1 : Int) < (n : Int) := by omega
              have q4 : (0 : Int) ≤ (p2 : Int) := by omega
              have q5 : (p2 : Int) < (n : Int) := by omega
              clear hp hsame he hne hsl
              go_wp2_with fail
              go_quiet (fail)
              go_wp2_with fail
              go_roundw
              case rel => exact ⟨j + 1, by omega, by go_num, Lib.hid (F.out.below ((Below.refl _ _).drewN' _))⟩
              case measure => simp [intOf]; omega
            · have q1 : ¬ (j : Int) < (ap.length : Int) := by omega
              go_wp2_with fail
              go_ret
              exact ⟨rfl, F.out.bel⟩
end Go.Proofs.YtdfebccmjbocjaaGreatDoor
