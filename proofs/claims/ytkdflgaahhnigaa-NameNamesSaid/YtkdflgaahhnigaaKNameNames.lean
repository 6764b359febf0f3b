/- Texts of package name, for this seat. -/
import Derived.Test.YtkdflgaahhnigaaC32
import Derived.ProofKit
import Derived.OpenShut
import Derived.ShutString
import Derived.ChangeOld
import Derived.Below
import Derived.Lib.SmallJoins
import Derived.Deep.Slices
set_option linter.unusedVariables false
set_option linter.unusedSimpArgs false
namespace Go.Proofs.Ytkdflgaahhnigaa
open Go.RowKit Go.Shelf

section
variable (g : Nat) (W : World)
theorem chk1 (hb : Blk W g #[.string (bs [66, 80]), .string (bs [68, 66])] 9) : Calls Try.prog 14 #[rulesV (some ⟨g, 0, none⟩) 2 2 clkR.soft clkR.al clkR.ot clkR.sk clkR.ss clkR.db] W fun e w' => e = .returned (.int .i64 1) ∧ Below W.heap.size W w' := by
  have h := CheckRules_any (some ⟨g, 0, none⟩) g 0 2 2 R1 W rfl (sk2 hb) (Nat.le_refl _) nt1
  rw [nr1] at h
  exact h
theorem chk2 (hb : Blk W g #[.string (bs [65, 66])] 9) : Calls Try.prog 14 #[rulesV (some ⟨g, 0, none⟩) 1 1 clkR.soft clkR.al clkR.ot clkR.sk clkR.ss clkR.db] W fun e w' => e = .returned (.int .i64 1) ∧ Below W.heap.size W w' := by
  have h := CheckRules_any (some ⟨g, 0, none⟩) g 0 1 1 R2 W rfl (sk1 hb) (Nat.le_refl _) nt2
  rw [nr2] at h
  exact h
theorem chk3 (hk : SK W (some ⟨g, 0, none⟩) g 0 clkR.cls) : Calls Try.prog 14 #[rulesV (some ⟨g, 0, none⟩) 3 3 clkR.soft clkR.al clkR.ot clkR.sk clkR.ss 101] W fun e w' => e = .returned (.int .i64 1) ∧ Below W.heap.size W w' := by
  have h := CheckRules_any (some ⟨g, 0, none⟩) g 0 3 3 R3 W rfl hk (Nat.le_refl _) nt3
  rw [nr3] at h
  exact h
theorem chk4 (hb : Blk W g (Array.replicate 9 (.string (bs []))) 9) : Calls Try.prog 14 #[rulesV (some ⟨g, 0, none⟩) 9 9 clkR.soft clkR.al clkR.ot clkR.sk clkR.ss clkR.db] W fun e w' => e = .returned (.int .i64 3) ∧ Below W.heap.size W w' := by
  have h := CheckRules_any (some ⟨g, 0, none⟩) g 0 9 9 R4 W rfl (emp_sk (by decide) hb).2.1 (Nat.le_refl _) nt4
  rw [nr4] at h
  exact h
theorem chk5 : Calls Try.prog 14 #[rulesV none 0 0 (bs []) 0 0 0 0 0] W fun e w' => e = .returned (.int .i64 0) ∧ Below W.heap.size W w' := by
  have h := CheckRules_any none 0 0 0 0 R5 W rfl (skn_nil W).2.1 (Nat.le_refl _) nt5
  rw [nr5] at h
  exact h
end
def NN (w : World) (e : Ending) (w' : World) : Prop := e = .returned (.bool true) ∧ Below w.heap.size w w'
set_option maxRecDepth 100000 in
set_option maxHeartbeats 20000000 in
theorem NameNames_walk (w : World) : Calls Try.prog 3 #[] w fun e w' => e = .returned (.bool true) ∧ Below w.heap.size w w' := by
  have S := Lib.hid (Below.refl w.heap.size w)
  go_enter Try.func3, Try.ntmps3
  go_wp2_with fail
  refine (clerks_any _).mono ?_
  rintro e wA ⟨b, rfl, hk, hb⟩
  have HK := Lib.hid hk
  clear hk
  have S := Lib.hid (S.out.trans (hb.mono S.out.size))
  clear hb
  go_wp2_with fail
  refine (nn1 b _ HK.out).mono ?_
  rintro e wC ⟨rfl, hb⟩
  have S := Lib.hid (S.out.trans (hb.mono S.out.size))
  clear hb
  go_wp2_with fail
  refine (clerks_any _).mono ?_
  rintro e wA ⟨b, rfl, hk, hb⟩
  have HK := Lib.hid hk
  clear hk
  have S := Lib.hid (S.out.trans (hb.mono S.out.size))
  clear hb
  go_wp2_with fail
  refine (nn2 b _ HK.out).mono ?_
  rintro e wC ⟨rfl, hb⟩
  have S := Lib.hid (S.out.trans (hb.mono S.out.size))
  clear hb
  go_wp2_with fail
  refine (clerks_any _).mono ?_
  rintro e wA ⟨b, rfl, hk, hb⟩
  have HK := Lib.hid hk
  clear hk
  have S := Lib.hid (S.out.trans (hb.mono S.out.size))
  clear hb
  go_wp2_with fail
  refine (nn3 b _ HK.out).mono ?_
  rintro e wC ⟨rfl, hb⟩
  have S := Lib.hid (S.out.trans (hb.mono S.out.size))
  clear hb
  go_wp2_with fail
  refine (clerks_any _).mono ?_
  rintro e wA ⟨b, rfl, hk, hb⟩
  have HK := Lib.hid hk
  clear hk
  have S := Lib.hid (S.out.trans (hb.mono S.out.size))
  clear hb
  go_wp2_with fail
  refine (nn4 b _ HK.out).mono ?_
  rintro e wC ⟨rfl, hb⟩
  have S := Lib.hid (S.out.trans (hb.mono S.out.size))
  clear hb
  go_wp2_with fail
  refine (clerks_any _).mono ?_
  rintro e wA ⟨b, rfl, hk, hb⟩
  have HK := Lib.hid hk
  clear hk
  have S := Lib.hid (S.out.trans (hb.mono S.out.size))
  clear hb
  go_wp2_with fail
  refine (four_any _).mono ?_
  rintro e wB ⟨d, rfl, hf, hb⟩
  have HF := Lib.hid hf
  have HK := Lib.hid (HK.out.below hb)
  clear hf
  have S := Lib.hid (S.out.trans (hb.mono S.out.size))
  clear hb
  go_wp2_with fail
  refine (nn5 b _ HK.out d HF.out).mono ?_
  rintro e wC ⟨⟨gv, rfl, hT⟩, hb⟩
  have T := Lib.hid hT
  clear hT
  have S := Lib.hid (S.out.trans (hb.mono S.out.size))
  clear hb
  go_wp2_with fail
  refine (clerks_any _).mono ?_
  rintro e wA ⟨b, rfl, hk, hb⟩
  have HK := Lib.hid hk
  clear hk
  have S := Lib.hid (S.out.trans (hb.mono S.out.size))
  have T := Lib.hid (T.out.below hb)
  clear hb
  go_wp2_with fail
  refine (nn6 b _ HK.out).mono ?_
  rintro e wC ⟨vg, vc, rfl, hu, hvc, hb⟩
  have U := Lib.hid hu
  clear hu
  have S := Lib.hid (S.out.trans (hb.mono S.out.size))
  have T := Lib.hid (T.out.below hb)
  clear hb
  go_wp2_with fail
  obtain ⟨Bg, hT9⟩ : ∃ B, TabK wC B gv tabG := ⟨_, T.out⟩
  have hN0 : NS w Bg gv vg wC := ⟨S.out, hT9, U.out⟩
  have HN0 := Lib.hid hN0
  have hv3 : (3 : Int) ≤ (vc : Int) := by omega
  have hv3n : 3 ≤ vc := by omega
  clear hT9 hN0 S T U HK HF
  refine Go.wp_mono (Q := fun e a2 W2 => e = .normal ∧ a2.tmps.size = 216 ∧ (a2.tmps[122]? : Option Value) = some (.bool false) ∧ a2.defers = [] ∧ NS w Bg gv vg W2) ?_ ?_
  · have hS : NS w Bg gv vg wC.drew := HN0.out.drew
    have L0 : ∀ W, NS w Bg gv vg W → W.cell? ⟨vg, 6, none⟩ = some (.int .i64 3) := fun W h => (h.2.2.2.2.1 3 (3, 3) rfl).1
    have L1 : ∀ W, NS w Bg gv vg W → W.cell? ⟨vg, 7, none⟩ = some (.int .i64 3) := fun W h => (h.2.2.2.2.1 3 (3, 3) rfl).2
    refine wp_region_held_drew (S := NS w Bg gv vg) (by kernel_rfl) hS (fun hHeld => ?_)
    clear hS
    refine wpAnyH_take (i := 0) (v := ?_) rfl (by kernel_rfl) (by kernel_rfl) (by kernel_rfl) (fun _ _ _ h => (by cases h.1)) (Or.inl ⟨by rfl, ?h0⟩) hHeld ?_
    case h0 =>
      intro w' hSw
      (try dsimp only at hSw)
      go_simp
      (try with_reducible rfl)
    (try simp only [Act.put]); (try simp only [List.setIfInBounds_toArray]); (try simp only [List.set_cons_succ]); (try simp only [List.set_cons_zero])
    refine wpAnyH_take (i := 1) (v := ?_) rfl (by kernel_rfl) (by kernel_rfl) (by kernel_rfl) (fun _ _ _ h => (by cases h.1)) (Or.inl ⟨by rfl, ?h1⟩) hHeld ?_
    case h1 =>
      intro w' hSw
      (try dsimp only at hSw)
      go_simp
      (try with_reducible rfl)
    (try simp only [Act.put]); (try simp only [List.setIfInBounds_toArray]); (try simp only [List.set_cons_succ]); (try simp only [List.set_cons_zero])
    refine wpAnyH_take (i := 2) (v := ?_) rfl (by kernel_rfl) (by kernel_rfl) (by kernel_rfl) (fun _ _ _ h => (by cases h.1)) (Or.inl ⟨by rfl, ?h2⟩) hHeld ?_
    case h2 =>
      intro w' hSw
      (try dsimp only at hSw)
      go_simp
      (try with_reducible rfl)
    (try simp only [Act.put]); (try simp only [List.setIfInBounds_toArray]); (try simp only [List.set_cons_succ]); (try simp only [List.set_cons_zero])
    refine wpAnyH_take (i := 3) (v := ?_) rfl (by kernel_rfl) (by kernel_rfl) (by kernel_rfl) (fun _ _ _ h => (by cases h.1)) (Or.inl ⟨by kernel_rfl, ?h3⟩) hHeld ?_
    case h3 =>
      intro w' hSw
      (try dsimp only at hSw)
      go_simp
      (try with_reducible rfl)
    (try simp only [Act.put]); (try simp only [List.setIfInBounds_toArray]); (try simp only [List.set_cons_succ]); (try simp only [List.set_cons_zero])
    refine wpAnyH_take (i := 4) (v := ?_) rfl (by kernel_rfl) (by kernel_rfl) (by kernel_rfl) (fun _ _ _ h => (by cases h.1)) (Or.inl ⟨by kernel_rfl, ?h4⟩) hHeld ?_
    case h4 =>
      intro w' hSw
      (try dsimp only at hSw)
      go_simp
      (try with_reducible rfl)
    (try simp only [Act.put]); (try simp only [List.setIfInBounds_toArray]); (try simp only [List.set_cons_succ]); (try simp only [List.set_cons_zero])
    refine wpAnyH_take (i := 5) (v := ?_) rfl (by kernel_rfl) (by kernel_rfl) (by kernel_rfl) (fun _ _ _ h => (by cases h.1)) (Or.inl ⟨by rfl, ?h5⟩) hHeld ?_
    case h5 =>
      intro w' hSw
      (try dsimp only at hSw)
      go_simp
      (try with_reducible rfl)
    (try simp only [Act.put]); (try simp only [List.setIfInBounds_toArray]); (try simp only [List.set_cons_succ]); (try simp only [List.set_cons_zero])
    refine wpAnyH_take (i := 6) (v := ?_) rfl (by kernel_rfl) (by kernel_rfl) (by kernel_rfl) (fun _ _ _ h => (by cases h.1)) (Or.inl ⟨by rfl, ?h6⟩) hHeld ?_
    case h6 =>
      intro w' hSw
      (try dsimp only at hSw)
      go_simp
      (try with_reducible rfl)
    (try simp only [Act.put]); (try simp only [List.setIfInBounds_toArray]); (try simp only [List.set_cons_succ]); (try simp only [List.set_cons_zero])
    refine wpAnyH_take (i := 7) (v := ?_) rfl (by kernel_rfl) (by kernel_rfl) (by kernel_rfl) (fun _ _ _ h => (by cases h.1)) (Or.inl ⟨by kernel_rfl, ?h7⟩) hHeld ?_
    case h7 =>
      intro w' hSw
      (try dsimp only at hSw)
      go_simp
      (try with_reducible rfl)
    (try simp only [Act.put]); (try simp only [List.setIfInBounds_toArray]); (try simp only [List.set_cons_succ]); (try simp only [List.set_cons_zero])
    refine wpAnyH_take (i := 8) (v := ?_) rfl (by kernel_rfl) (by kernel_rfl) (by kernel_rfl) (fun _ _ _ h => (by cases h.1)) (Or.inl ⟨by kernel_rfl, ?h8⟩) hHeld ?_
    case h8 =>
      intro w' hSw
      (try dsimp only at hSw)
      go_simp
      (try with_reducible rfl)
    (try simp only [Act.put]); (try simp only [List.setIfInBounds_toArray]); (try simp only [List.set_cons_succ]); (try simp only [List.set_cons_zero])
    refine wpAnyH_take (i := 9) (v := ?_) rfl (by kernel_rfl) (by kernel_rfl) (by kernel_rfl) (fun _ _ _ h => (by cases h.1)) (Or.inl ⟨by rfl, ?h9⟩) hHeld ?_
    case h9 =>
      intro w' hSw
      (try dsimp only at hSw)
      go_simp
      (try with_reducible rfl)
    (try simp only [Act.put]); (try simp only [List.setIfInBounds_toArray]); (try simp only [List.set_cons_succ]); (try simp only [List.set_cons_zero])
    refine wpAnyH_take (i := 10) (v := ?_) rfl (by kernel_rfl) (by kernel_rfl) (by kernel_rfl) (fun _ _ _ h => (by cases h.1)) (Or.inl ⟨by rfl, ?h10⟩) hHeld ?_
    case h10 =>
      intro w' hSw
      (try dsimp only at hSw)
      go_simp
      (try with_reducible rfl)
    (try simp only [Act.put]); (try simp only [List.setIfInBounds_toArray]); (try simp only [List.set_cons_succ]); (try simp only [List.set_cons_zero])
    refine wpAnyH_take (i := 11) (v := ?_) rfl (by kernel_rfl) (by kernel_rfl) (by kernel_rfl) (fun _ _ _ h => (by cases h.1)) (Or.inl ⟨by kernel_rfl, ?h11⟩) hHeld ?_
    case h11 =>
      intro w' hSw
      (try dsimp only at hSw)
      go_simp
      (try with_reducible rfl)
    (try simp only [Act.put]); (try simp only [List.setIfInBounds_toArray]); (try simp only [List.set_cons_succ]); (try simp only [List.set_cons_zero])
    refine wpAnyH_take (i := 12) (v := ?_) rfl (by kernel_rfl) (by kernel_rfl) (by kernel_rfl) (fun _ _ _ h => (by cases h.1)) (Or.inl ⟨by kernel_rfl, ?h12⟩) hHeld ?_
    case h12 =>
      intro w' hSw
      (try dsimp only at hSw)
      go_simp
      (try with_reducible rfl)
    (try simp only [Act.put]); (try simp only [List.setIfInBounds_toArray]); (try simp only [List.set_cons_succ]); (try simp only [List.set_cons_zero])
    refine wpAnyH_take (i := 13) (v := ?_) rfl (by kernel_rfl) (by kernel_rfl) (by kernel_rfl) (fun _ _ _ h => (by cases h.1)) (Or.inl ⟨by rfl, ?h13⟩) hHeld ?_
    case h13 =>
      intro w' hSw
      (try dsimp only at hSw)
      go_simp
      (try with_reducible rfl)
    (try simp only [Act.put]); (try simp only [List.setIfInBounds_toArray]); (try simp only [List.set_cons_succ]); (try simp only [List.set_cons_zero])
    refine wpAnyH_take (i := 14) (v := ?_) rfl (by kernel_rfl) (by kernel_rfl) (by kernel_rfl) (fun _ _ _ h => (by cases h.1)) (Or.inl ⟨by rfl, ?h14⟩) hHeld ?_
    case h14 =>
      intro w' hSw
      (try dsimp only at hSw)
      go_simp
      (try with_reducible rfl)
    (try simp only [Act.put]); (try simp only [List.setIfInBounds_toArray]); (try simp only [List.set_cons_succ]); (try simp only [List.set_cons_zero])
    refine wpAnyH_take (i := 15) (v := ?_) rfl (by kernel_rfl) (by kernel_rfl) (by kernel_rfl) (fun _ _ _ h => (by cases h.1)) (Or.inl ⟨by kernel_rfl, ?h15⟩) hHeld ?_
    case h15 =>
      intro w' hSw
      (try dsimp only at hSw)
      go_simp
      (try with_reducible rfl)
    (try simp only [Act.put]); (try simp only [List.setIfInBounds_toArray]); (try simp only [List.set_cons_succ]); (try simp only [List.set_cons_zero])
    refine wpAnyH_take (i := 16) (v := ?_) rfl (by kernel_rfl) (by kernel_rfl) (by kernel_rfl) (fun _ _ _ h => (by cases h.1)) (Or.inl ⟨by kernel_rfl, ?h16⟩) hHeld ?_
    case h16 =>
      intro w' hSw
      (try dsimp only at hSw)
      go_simp
      (try with_reducible rfl)
    (try simp only [Act.put]); (try simp only [List.setIfInBounds_toArray]); (try simp only [List.set_cons_succ]); (try simp only [List.set_cons_zero])
    refine wpAnyH_take (i := 17) (v := ?_) rfl (by kernel_rfl) (by kernel_rfl) (by kernel_rfl) (fun _ _ _ h => (by cases h.1)) (Or.inl ⟨by rfl, ?h17⟩) hHeld ?_
    case h17 =>
      intro w' hSw
      (try dsimp only at hSw)
      go_simp
      (try with_reducible rfl)
    (try simp only [Act.put]); (try simp only [List.setIfInBounds_toArray]); (try simp only [List.set_cons_succ]); (try simp only [List.set_cons_zero])
    refine wpAnyH_take (i := 18) (v := ?_) rfl (by kernel_rfl) (by kernel_rfl) (by kernel_rfl) (fun _ _ _ h => (by cases h.1)) (Or.inl ⟨by rfl, ?h18⟩) hHeld ?_
    case h18 =>
      intro w' hSw
      (try dsimp only at hSw)
      go_simp
      (try with_reducible rfl)
    (try simp only [Act.put]); (try simp only [List.setIfInBounds_toArray]); (try simp only [List.set_cons_succ]); (try simp only [List.set_cons_zero])
    refine wpAnyH_take (i := 19) (v := ?_) rfl (by kernel_rfl) (by kernel_rfl) (by kernel_rfl) (fun _ _ _ h => (by cases h.1)) (Or.inl ⟨by kernel_rfl, ?h19⟩) hHeld ?_
    case h19 =>
      intro w' hSw
      (try dsimp only at hSw)
      go_simp
      (try with_reducible rfl)
    (try simp only [Act.put]); (try simp only [List.setIfInBounds_toArray]); (try simp only [List.set_cons_succ]); (try simp only [List.set_cons_zero])
    refine wpAnyH_take (i := 20) (v := ?_) rfl (by kernel_rfl) (by kernel_rfl) (by kernel_rfl) (fun _ _ _ h => (by cases h.1)) (Or.inl ⟨by kernel_rfl, ?h20⟩) hHeld ?_
    case h20 =>
      intro w' hSw
      (try dsimp only at hSw)
      go_simp
      (try with_reducible rfl)
    (try simp only [Act.put]); (try simp only [List.setIfInBounds_toArray]); (try simp only [List.set_cons_succ]); (try simp only [List.set_cons_zero])
    refine wpAnyH_take (i := 21) (v := ?_) rfl (by kernel_rfl) (by kernel_rfl) (by kernel_rfl) (fun _ _ _ h => (by cases h.1)) (Or.inl ⟨by rfl, ?h21⟩) hHeld ?_
    case h21 =>
      intro w' hSw
      (try dsimp only at hSw)
      go_simp
      (try with_reducible rfl)
    (try simp only [Act.put]); (try simp only [List.setIfInBounds_toArray]); (try simp only [List.set_cons_succ]); (try simp only [List.set_cons_zero])
    refine wpAnyH_take (i := 22) (v := ?_) rfl (by kernel_rfl) (by kernel_rfl) (by kernel_rfl) (fun _ _ _ h => (by cases h.1)) (Or.inl ⟨by rfl, ?h22⟩) hHeld ?_
    case h22 =>
      intro w' hSw
      (try dsimp only at hSw)
      go_simp
      (try with_reducible rfl)
    (try simp only [Act.put]); (try simp only [List.setIfInBounds_toArray]); (try simp only [List.set_cons_succ]); (try simp only [List.set_cons_zero])
    refine wpAnyH_take (i := 23) (v := ?_) rfl (by kernel_rfl) (by kernel_rfl) (by kernel_rfl) (fun _ _ _ h => (by cases h.1)) (Or.inl ⟨by kernel_rfl, ?h23⟩) hHeld ?_
    case h23 =>
      intro w' hSw
      (try dsimp only at hSw)
      go_simp
      (try with_reducible rfl)
    (try simp only [Act.put]); (try simp only [List.setIfInBounds_toArray]); (try simp only [List.set_cons_succ]); (try simp only [List.set_cons_zero])
    refine wpAnyH_take (i := 24) (v := ?_) rfl (by kernel_rfl) (by kernel_rfl) (by kernel_rfl) (fun _ _ _ h => (by cases h.1)) (Or.inl ⟨by kernel_rfl, ?h24⟩) hHeld ?_
    case h24 =>
      intro w' hSw
      (try dsimp only at hSw)
      go_simp
      (try with_reducible rfl)
    (try simp only [Act.put]); (try simp only [List.setIfInBounds_toArray]); (try simp only [List.set_cons_succ]); (try simp only [List.set_cons_zero])
    refine wpAnyH_take (i := 25) (v := ?_) rfl (by kernel_rfl) (by kernel_rfl) (by kernel_rfl) (fun _ _ _ h => (by cases h.1)) (Or.inl ⟨by rfl, ?h25⟩) hHeld ?_
    case h25 =>
      intro w' hSw
      (try dsimp only at hSw)
      go_simp
      (try with_reducible rfl)
    (try simp only [Act.put]); (try simp only [List.setIfInBounds_toArray]); (try simp only [List.set_cons_succ]); (try simp only [List.set_cons_zero])
    refine wpAnyH_take (i := 26) (v := ?_) rfl (by kernel_rfl) (by kernel_rfl) (by kernel_rfl) (fun _ _ _ h => (by cases h.1)) (Or.inl ⟨by rfl, ?h26⟩) hHeld ?_
    case h26 =>
      intro w' hSw
      (try dsimp only at hSw)
      go_simp
      (try with_reducible rfl)
    (try simp only [Act.put]); (try simp only [List.setIfInBounds_toArray]); (try simp only [List.set_cons_succ]); (try simp only [List.set_cons_zero])
    refine wpAnyH_take (i := 27) (v := ?_) rfl (by kernel_rfl) (by kernel_rfl) (by kernel_rfl) (fun _ _ _ h => (by cases h.1)) (Or.inl ⟨by kernel_rfl, ?h27⟩) hHeld ?_
    case h27 =>
      intro w' hSw
      (try dsimp only at hSw)
      go_simp
      (try with_reducible rfl)
    (try simp only [Act.put]); (try simp only [List.setIfInBounds_toArray]); (try simp only [List.set_cons_succ]); (try simp only [List.set_cons_zero])
    refine wpAnyH_take (i := 28) (v := ?_) rfl (by kernel_rfl) (by kernel_rfl) (by kernel_rfl) (fun _ _ _ h => (by cases h.1)) (Or.inl ⟨by kernel_rfl, ?h28⟩) hHeld ?_
    case h28 =>
      intro w' hSw
      (try dsimp only at hSw)
      go_simp
      (try with_reducible rfl)
    (try simp only [Act.put]); (try simp only [List.setIfInBounds_toArray]); (try simp only [List.set_cons_succ]); (try simp only [List.set_cons_zero])
    refine wpAnyH_take (i := 29) (v := ?_) rfl (by kernel_rfl) (by kernel_rfl) (by kernel_rfl) (fun _ _ _ h => (by cases h.1)) (Or.inl ⟨by rfl, ?h29⟩) hHeld ?_
    case h29 =>
      intro w' hSw
      (try dsimp only at hSw)
      go_simp
      (try with_reducible rfl)
    (try simp only [Act.put]); (try simp only [List.setIfInBounds_toArray]); (try simp only [List.set_cons_succ]); (try simp only [List.set_cons_zero])
    refine wpAnyH_take (i := 30) (v := ?_) rfl (by kernel_rfl) (by kernel_rfl) (by kernel_rfl) (fun _ _ _ h => (by cases h.1)) (Or.inl ⟨by rfl, ?h30⟩) hHeld ?_
    case h30 =>
      intro w' hSw
      (try dsimp only at hSw)
      go_simp
      (try with_reducible rfl)
    (try simp only [Act.put]); (try simp only [List.setIfInBounds_toArray]); (try simp only [List.set_cons_succ]); (try simp only [List.set_cons_zero])
    refine wpAnyH_take (i := 31) (v := ?_) rfl (by kernel_rfl) (by kernel_rfl) (by kernel_rfl) (fun _ _ _ h => (by cases h.1)) (Or.inl ⟨by kernel_rfl, ?h31⟩) hHeld ?_
    case h31 =>
      intro w' hSw
      (try dsimp only at hSw)
      go_simp
      (try with_reducible rfl)
    (try simp only [Act.put]); (try simp only [List.setIfInBounds_toArray]); (try simp only [List.set_cons_succ]); (try simp only [List.set_cons_zero])
    refine wpAnyH_take (i := 32) (v := ?_) rfl (by kernel_rfl) (by kernel_rfl) (by kernel_rfl) (fun _ _ _ h => (by cases h.1)) (Or.inl ⟨by kernel_rfl, ?h32⟩) hHeld ?_
    case h32 =>
      intro w' hSw
      (try dsimp only at hSw)
      go_simp
      (try with_reducible rfl)
    (try simp only [Act.put]); (try simp only [List.setIfInBounds_toArray]); (try simp only [List.set_cons_succ]); (try simp only [List.set_cons_zero])
    refine wpAnyH_take (i := 33) (v := ?_) rfl (by kernel_rfl) (by kernel_rfl) (by kernel_rfl) (fun _ _ _ h => (by cases h.1)) (Or.inl ⟨by rfl, ?h33⟩) hHeld ?_
    case h33 =>
      intro w' hSw
      (try dsimp only at hSw)
      go_simp
      (try with_reducible rfl)
    (try simp only [Act.put]); (try simp only [List.setIfInBounds_toArray]); (try simp only [List.set_cons_succ]); (try simp only [List.set_cons_zero])
    refine wpAnyH_take (i := 34) (v := ?_) rfl (by kernel_rfl) (by kernel_rfl) (by kernel_rfl) (fun _ _ _ h => (by cases h.1)) (Or.inl ⟨by rfl, ?h34⟩) hHeld ?_
    case h34 =>
      intro w' hSw
      (try dsimp only at hSw)
      go_simp
      (try with_reducible rfl)
    (try simp only [Act.put]); (try simp only [List.setIfInBounds_toArray]); (try simp only [List.set_cons_succ]); (try simp only [List.set_cons_zero])
    refine wpAnyH_take (i := 35) (v := ?_) rfl (by kernel_rfl) (by kernel_rfl) (by kernel_rfl) (fun _ _ _ h => (by cases h.1)) (Or.inl ⟨by kernel_rfl, ?h35⟩) hHeld ?_
    case h35 =>
      intro w' hSw
      (try dsimp only at hSw)
      go_simp
      (try with_reducible rfl)
    (try simp only [Act.put]); (try simp only [List.setIfInBounds_toArray]); (try simp only [List.set_cons_succ]); (try simp only [List.set_cons_zero])
    refine wpAnyH_ready (rs := [36, 37]) (by kernel_rfl) (by simp) ?_
    refine AllReadyH.cons rfl (fun K hK => ?_) (AllReadyH.cons rfl (fun K hK => ?_) (AllReadyH.nil))
    · go_simp
      refine hK.out _ _ (hHeld.alloc _) (fun hHeld => ?_)
      clear hK K
      (try simp only [Act.put]); (try simp only [List.setIfInBounds_toArray]); (try simp only [List.set_cons_succ]); (try simp only [List.set_cons_zero])
      refine wpAnyH_ready (rs := [37]) (by kernel_rfl) (by simp) ?_
      refine AllReadyH.cons rfl (fun K hK => ?_) (AllReadyH.nil)
      go_simp
      refine hK.out _ _ (hHeld.alloc _) (fun hHeld => ?_)
      clear hK K
      (try simp only [Act.put]); (try simp only [List.setIfInBounds_toArray]); (try simp only [List.set_cons_succ]); (try simp only [List.set_cons_zero])
      refine wpAnyH_ready (rs := [38]) (by kernel_rfl) (by simp) ?_
      refine AllReadyH.cons rfl (fun K hK => ?_) (AllReadyH.nil)
      go_simp
      have h3 := three_newC wC.drew #[.int .i64 0, .int .i64 1, .int .i64 3] #[.int .i64 2] #[.slice (some ⟨wC.heap.size, 0, none⟩) 3 3, .slice (some ⟨wC.heap.size + 1, 0, none⟩) 1 1] 3 3 39
      have NT := Lib.hid (lit_tab h3.1 h3.2.1 h3.2.2.1)
      clear h3
      refine hK.out _ _ (hHeld.alloc _) (fun hHeld => ?_)
      clear hK K
      (try simp only [Act.put]); (try simp only [List.setIfInBounds_toArray]); (try simp only [List.set_cons_succ]); (try simp only [List.set_cons_zero])
      refine wpAnyH_ready (rs := [39]) (by kernel_rfl) (by simp) ?_
      refine AllReadyH.cons rfl (fun K hK => ?_) (AllReadyH.nil)
      go_simp
      (refine (rows40 _ _ _ _ tabG _ hHeld.2.1 NT.out (by decide) (by decide)).mono ?_)
      rintro e w8 ⟨rfl, hb⟩
      have hS2 := hHeld.below hb
      clear hb
      refine hK.out _ _ hS2 (fun hHeld => ?_)
      clear hK K hS2
      (try simp only [Act.put]); (try simp only [List.setIfInBounds_toArray]); (try simp only [List.set_cons_succ]); (try simp only [List.set_cons_zero])
      refine wpAnyH_take (i := 40) (v := ?_) rfl (by kernel_rfl) (by kernel_rfl) (by kernel_rfl) (fun _ _ _ h => (by cases h.1)) (Or.inl ⟨by kernel_rfl, ?h40⟩) hHeld ?_
      case h40 =>
        intro w' hSw
        (try dsimp only at hSw)
        go_simp
        (try with_reducible rfl)
      (try simp only [Act.put]); (try simp only [List.setIfInBounds_toArray]); (try simp only [List.set_cons_succ]); (try simp only [List.set_cons_zero])
      refine wpAnyH_take (i := 41) (v := ?_) rfl (by kernel_rfl) (by kernel_rfl) (by kernel_rfl) (fun _ _ _ h => (by cases h.1)) (Or.inl ⟨by rfl, ?h41⟩) hHeld ?_
      case h41 =>
        intro w' hSw
        (try dsimp only at hSw)
        go_simp
        (try with_reducible rfl)
      (try simp only [Act.put]); (try simp only [List.setIfInBounds_toArray]); (try simp only [List.set_cons_succ]); (try simp only [List.set_cons_zero])
      refine wpAnyH_take (i := 42) (v := ?_) rfl (by kernel_rfl) (by kernel_rfl) (by kernel_rfl) (fun _ _ _ h => (by cases h.1)) (Or.inl ⟨by rfl, ?h42⟩) hHeld ?_
      case h42 =>
        intro w' hSw
        (try dsimp only at hSw)
        go_simp
        (try with_reducible rfl)
      (try simp only [Act.put]); (try simp only [List.setIfInBounds_toArray]); (try simp only [List.set_cons_succ]); (try simp only [List.set_cons_zero])
      refine wpAnyH_take (i := 43) (v := ?_) rfl (by kernel_rfl) (by kernel_rfl) (by kernel_rfl) (fun _ _ _ h => (by cases h.1)) (Or.inl ⟨by kernel_rfl, ?h43⟩) hHeld ?_
      case h43 =>
        intro w' hSw
        (try dsimp only at hSw)
        go_simp
        (try with_reducible rfl)
      (try simp only [Act.put]); (try simp only [List.setIfInBounds_toArray]); (try simp only [List.set_cons_succ]); (try simp only [List.set_cons_zero])
      refine wpAnyH_take (i := 44) (v := ?_) rfl (by kernel_rfl) (by kernel_rfl) (by kernel_rfl) (fun _ _ _ h => (by cases h.1)) (Or.inl ⟨by kernel_rfl, ?h44⟩) hHeld ?_
      case h44 =>
        intro w' hSw
        (try dsimp only at hSw)
        go_simp
        (try with_reducible rfl)
      (try simp only [Act.put]); (try simp only [List.setIfInBounds_toArray]); (try simp only [List.set_cons_succ]); (try simp only [List.set_cons_zero])
      refine wpAnyH_take (i := 45) (v := ?_) rfl (by kernel_rfl) (by kernel_rfl) (by kernel_rfl) (fun _ _ _ h => (by cases h.1)) (Or.inl ⟨by rfl, ?h45⟩) hHeld ?_
      case h45 =>
        intro w' hSw
        (try dsimp only at hSw)
        go_simp
        (try with_reducible rfl)
      (try simp only [Act.put]); (try simp only [List.setIfInBounds_toArray]); (try simp only [List.set_cons_succ]); (try simp only [List.set_cons_zero])
      refine wpAnyH_take (i := 46) (v := ?_) rfl (by kernel_rfl) (by kernel_rfl) (by kernel_rfl) (fun _ _ _ h => (by cases h.1)) (Or.inl ⟨by rfl, ?h46⟩) hHeld ?_
      case h46 =>
        intro w' hSw
        (try dsimp only at hSw)
        go_simp
        (try with_reducible rfl)
      (try simp only [Act.put]); (try simp only [List.setIfInBounds_toArray]); (try simp only [List.set_cons_succ]); (try simp only [List.set_cons_zero])
      refine wpAnyH_take (i := 47) (v := ?_) rfl (by kernel_rfl) (by kernel_rfl) (by kernel_rfl) (fun _ _ _ h => (by cases h.1)) (Or.inl ⟨by kernel_rfl, ?h47⟩) hHeld ?_
      case h47 =>
        intro w' hSw
        (try dsimp only at hSw)
        go_simp
        (try with_reducible rfl)
      (try simp only [Act.put]); (try simp only [List.setIfInBounds_toArray]); (try simp only [List.set_cons_succ]); (try simp only [List.set_cons_zero])
      refine wpAnyH_take (i := 48) (v := ?_) rfl (by kernel_rfl) (by kernel_rfl) (by kernel_rfl) (fun _ _ _ h => (by cases h.1)) (Or.inl ⟨by kernel_rfl, ?h48⟩) hHeld ?_
      case h48 =>
        intro w' hSw
        (try dsimp only at hSw)
        go_simp
        (try with_reducible rfl)
      (try simp only [Act.put]); (try simp only [List.setIfInBounds_toArray]); (try simp only [List.set_cons_succ]); (try simp only [List.set_cons_zero])
      refine wpAnyH_take (i := 49) (v := ?_) rfl (by kernel_rfl) (by kernel_rfl) (by kernel_rfl) (fun _ _ _ h => (by cases h.1)) (Or.inl ⟨by kernel_rfl, ?h49⟩) hHeld ?_
      case h49 =>
        intro w' hSw
        (try dsimp only at hSw)
        go_simp
        (try with_reducible rfl)
      (try simp only [Act.put]); (try simp only [List.setIfInBounds_toArray]); (try simp only [List.set_cons_succ]); (try simp only [List.set_cons_zero])
      refine wpAnyH_take (i := 50) (v := ?_) rfl (by kernel_rfl) (by kernel_rfl) (by kernel_rfl) (fun _ _ _ h => (by cases h.1)) (Or.inl ⟨by rfl, ?h50⟩) hHeld ?_
      case h50 =>
        intro w' hSw
        (try dsimp only at hSw)
        go_simp
        (try with_reducible rfl)
      (try simp only [Act.put]); (try simp only [List.setIfInBounds_toArray]); (try simp only [List.set_cons_succ]); (try simp only [List.set_cons_zero])
      refine wpAnyH_take (i := 51) (v := ?_) rfl (by kernel_rfl) (by kernel_rfl) (by kernel_rfl) (fun _ _ _ h => (by cases h.1)) (Or.inl ⟨by rfl, ?h51⟩) hHeld ?_
      case h51 =>
        intro w' hSw
        (try dsimp only at hSw)
        go_simp
        (try with_reducible rfl)
      (try simp only [Act.put]); (try simp only [List.setIfInBounds_toArray]); (try simp only [List.set_cons_succ]); (try simp only [List.set_cons_zero])
      refine wpAnyH_take (i := 52) (v := ?_) rfl (by kernel_rfl) (by kernel_rfl) (by kernel_rfl) (fun _ _ _ h => (by cases h.1)) (Or.inl ⟨by kernel_rfl, ?h52⟩) hHeld ?_
      case h52 =>
        intro w' hSw
        (try dsimp only at hSw)
        go_simp
        (try with_reducible rfl)
      (try simp only [Act.put]); (try simp only [List.setIfInBounds_toArray]); (try simp only [List.set_cons_succ]); (try simp only [List.set_cons_zero])
      refine wpAnyH_take (i := 53) (v := ?_) rfl (by kernel_rfl) (by kernel_rfl) (by kernel_rfl) (fun _ _ _ h => (by cases h.1)) (Or.inl ⟨by kernel_rfl, ?h53⟩) hHeld ?_
      case h53 =>
        intro w' hSw
        (try dsimp only at hSw)
        go_simp
        (try with_reducible rfl)
      (try simp only [Act.put]); (try simp only [List.setIfInBounds_toArray]); (try simp only [List.set_cons_succ]); (try simp only [List.set_cons_zero])
      refine wpAnyH_take (i := 54) (v := ?_) rfl (by kernel_rfl) (by kernel_rfl) (by kernel_rfl) (fun _ _ _ h => (by cases h.1)) (Or.inl ⟨by kernel_rfl, ?h54⟩) hHeld ?_
      case h54 =>
        intro w' hSw
        (try dsimp only at hSw)
        go_simp
        (try with_reducible rfl)
      (try simp only [Act.put]); (try simp only [List.setIfInBounds_toArray]); (try simp only [List.set_cons_succ]); (try simp only [List.set_cons_zero])
      refine wpAnyH_take (i := 55) (v := ?_) rfl (by kernel_rfl) (by kernel_rfl) (by kernel_rfl) (fun _ _ _ h => (by cases h.1)) (Or.inl ⟨by kernel_rfl, ?h55⟩) hHeld ?_
      case h55 =>
        intro w' hSw
        (try dsimp only at hSw)
        go_simp
        (try with_reducible rfl)
      (try simp only [Act.put]); (try simp only [List.setIfInBounds_toArray]); (try simp only [List.set_cons_succ]); (try simp only [List.set_cons_zero])
      refine wpAnyH_take (i := 56) (v := ?_) rfl (by kernel_rfl) (by kernel_rfl) (by kernel_rfl) (fun _ _ _ h => (by cases h.1)) (Or.inl ⟨by kernel_rfl, ?h56⟩) hHeld ?_
      case h56 =>
        intro w' hSw
        (try dsimp only at hSw)
        go_simp
        (try with_reducible rfl)
      (try simp only [Act.put]); (try simp only [List.setIfInBounds_toArray]); (try simp only [List.set_cons_succ]); (try simp only [List.set_cons_zero])
      refine wpAnyH_take (i := 57) (v := ?_) rfl (by kernel_rfl) (by kernel_rfl) (by kernel_rfl) (fun _ _ _ h => (by cases h.1)) (Or.inl ⟨by rfl, ?h57⟩) hHeld ?_
      case h57 =>
        intro w' hSw
        (try dsimp only at hSw)
        go_simp
        (try with_reducible rfl)
      (try simp only [Act.put]); (try simp only [List.setIfInBounds_toArray]); (try simp only [List.set_cons_succ]); (try simp only [List.set_cons_zero])
      refine wpAnyH_take (i := 58) (v := ?_) rfl (by kernel_rfl) (by kernel_rfl) (by kernel_rfl) (fun _ _ _ h => (by cases h.1)) (Or.inl ⟨by rfl, ?h58⟩) hHeld ?_
      case h58 =>
        intro w' hSw
        (try dsimp only at hSw)
        go_simp
        (try with_reducible rfl)
      (try simp only [Act.put]); (try simp only [List.setIfInBounds_toArray]); (try simp only [List.set_cons_succ]); (try simp only [List.set_cons_zero])
      refine wpAnyH_take (i := 60) (v := ?_) rfl (by kernel_rfl) (by kernel_rfl) (by kernel_rfl) (fun _ _ _ h => (by cases h.1)) (Or.inl ⟨by kernel_rfl, ?h60⟩) hHeld ?_
      case h60 =>
        intro w' hSw
        (try dsimp only at hSw)
        go_simp
        (try with_reducible rfl)
      (try simp only [Act.put]); (try simp only [List.setIfInBounds_toArray]); (try simp only [List.set_cons_succ]); (try simp only [List.set_cons_zero])
      refine wpAnyH_ready (rs := [59]) (by kernel_rfl) (by simp) ?_
      refine AllReadyH.cons rfl (fun K hK => ?_) (AllReadyH.nil)
      go_simp
      (refine (clerks_any _).mono ?_)
      rintro e wA ⟨b, rfl, hk, hb⟩
      have HK := Lib.hid hk
      clear hk
      have hS2 := hHeld.below hb
      clear hb
      refine hK.out _ _ hS2 (fun hHeld => ?_)
      clear hK K hS2
      (try simp only [Act.put]); (try simp only [List.setIfInBounds_toArray]); (try simp only [List.set_cons_succ]); (try simp only [List.set_cons_zero])
      refine wpAnyH_ready (rs := [61]) (by kernel_rfl) (by simp) ?_
      refine AllReadyH.cons rfl (fun K hK => ?_) (AllReadyH.nil)
      go_simp
      (refine (nnP b _ HK.out vg vc 4 l4 hHeld.2.2 (by decide) 2 true nv24).mono ?_)
      rintro e w8 ⟨rfl, hb⟩
      have hS2 := hHeld.below hb
      clear hb
      refine hK.out _ _ hS2 (fun hHeld => ?_)
      clear hK K hS2
      (try simp only [Act.put]); (try simp only [List.setIfInBounds_toArray]); (try simp only [List.set_cons_succ]); (try simp only [List.set_cons_zero])
      refine wpAnyH_take (i := 62) (v := ?_) rfl (by kernel_rfl) (by kernel_rfl) (by kernel_rfl) (fun _ _ _ h => (by cases h.1)) (Or.inl ⟨by kernel_rfl, ?h62⟩) hHeld ?_
      case h62 =>
        intro w' hSw
        (try dsimp only at hSw)
        go_simp
        (try with_reducible rfl)
      (try simp only [Act.put]); (try simp only [List.setIfInBounds_toArray]); (try simp only [List.set_cons_succ]); (try simp only [List.set_cons_zero])
      refine wpAnyH_take (i := 63) (v := ?_) rfl (by kernel_rfl) (by kernel_rfl) (by kernel_rfl) (fun _ _ _ h => (by cases h.1)) (Or.inl ⟨by rfl, ?h63⟩) hHeld ?_
      case h63 =>
        intro w' hSw
        (try dsimp only at hSw)
        go_simp
        (try with_reducible rfl)
      (try simp only [Act.put]); (try simp only [List.setIfInBounds_toArray]); (try simp only [List.set_cons_succ]); (try simp only [List.set_cons_zero])
      refine wpAnyH_take (i := 64) (v := ?_) rfl (by kernel_rfl) (by kernel_rfl) (by kernel_rfl) (fun _ _ _ h => (by cases h.1)) (Or.inl ⟨by rfl, ?h64⟩) hHeld ?_
      case h64 =>
        intro w' hSw
        (try dsimp only at hSw)
        go_simp
        (try with_reducible rfl)
      (try simp only [Act.put]); (try simp only [List.setIfInBounds_toArray]); (try simp only [List.set_cons_succ]); (try simp only [List.set_cons_zero])
      refine wpAnyH_take (i := 66) (v := ?_) rfl (by kernel_rfl) (by kernel_rfl) (by kernel_rfl) (fun _ _ _ h => (by cases h.1)) (Or.inl ⟨by kernel_rfl, ?h66⟩) hHeld ?_
      case h66 =>
        intro w' hSw
        (try dsimp only at hSw)
        go_simp
        (try with_reducible rfl)
      (try simp only [Act.put]); (try simp only [List.setIfInBounds_toArray]); (try simp only [List.set_cons_succ]); (try simp only [List.set_cons_zero])
      refine wpAnyH_ready (rs := [65]) (by kernel_rfl) (by simp) ?_
      refine AllReadyH.cons rfl (fun K hK => ?_) (AllReadyH.nil)
      go_simp
      (refine (clerks_any _).mono ?_)
      rintro e wA ⟨b, rfl, hk, hb⟩
      have HK := Lib.hid hk
      clear hk
      have hS2 := hHeld.below hb
      clear hb
      refine hK.out _ _ hS2 (fun hHeld => ?_)
      clear hK K hS2
      (try simp only [Act.put]); (try simp only [List.setIfInBounds_toArray]); (try simp only [List.set_cons_succ]); (try simp only [List.set_cons_zero])
      refine wpAnyH_ready (rs := [67]) (by kernel_rfl) (by simp) ?_
      refine AllReadyH.cons rfl (fun K hK => ?_) (AllReadyH.nil)
      go_simp
      (refine (nnP b _ HK.out vg vc 4 l4 hHeld.2.2 (by decide) 1 false nv25).mono ?_)
      rintro e w8 ⟨rfl, hb⟩
      have hS2 := hHeld.below hb
      clear hb
      refine hK.out _ _ hS2 (fun hHeld => ?_)
      clear hK K hS2
      (try simp only [Act.put]); (try simp only [List.setIfInBounds_toArray]); (try simp only [List.set_cons_succ]); (try simp only [List.set_cons_zero])
      refine wpAnyH_take (i := 68) (v := ?_) rfl (by kernel_rfl) (by kernel_rfl) (by kernel_rfl) (fun _ _ _ h => (by cases h.1)) (Or.inl ⟨by rfl, ?h68⟩) hHeld ?_
      case h68 =>
        intro w' hSw
        (try dsimp only at hSw)
        go_simp
        (try with_reducible rfl)
      (try simp only [Act.put]); (try simp only [List.setIfInBounds_toArray]); (try simp only [List.set_cons_succ]); (try simp only [List.set_cons_zero])
      refine wpAnyH_take (i := 69) (v := ?_) rfl (by kernel_rfl) (by kernel_rfl) (by kernel_rfl) (fun _ _ _ h => (by cases h.1)) (Or.inl ⟨by rfl, ?h69⟩) hHeld ?_
      case h69 =>
        intro w' hSw
        (try dsimp only at hSw)
        go_simp
        (try with_reducible rfl)
      (try simp only [Act.put]); (try simp only [List.setIfInBounds_toArray]); (try simp only [List.set_cons_succ]); (try simp only [List.set_cons_zero])
      refine wpAnyH_take (i := 71) (v := ?_) rfl (by kernel_rfl) (by kernel_rfl) (by kernel_rfl) (fun _ _ _ h => (by cases h.1)) (Or.inl ⟨by kernel_rfl, ?h71⟩) hHeld ?_
      case h71 =>
        intro w' hSw
        (try dsimp only at hSw)
        go_simp
        (try with_reducible rfl)
      (try simp only [Act.put]); (try simp only [List.setIfInBounds_toArray]); (try simp only [List.set_cons_succ]); (try simp only [List.set_cons_zero])
      refine wpAnyH_take (i := 72) (v := ?_) rfl (by kernel_rfl) (by kernel_rfl) (by kernel_rfl) (fun _ _ _ h => (by cases h.1)) (Or.inl ⟨by kernel_rfl, ?h72⟩) hHeld ?_
      case h72 =>
        intro w' hSw
        (try dsimp only at hSw)
        go_simp
        (try with_reducible rfl)
      (try simp only [Act.put]); (try simp only [List.setIfInBounds_toArray]); (try simp only [List.set_cons_succ]); (try simp only [List.set_cons_zero])
      refine wpAnyH_ready (rs := [70]) (by kernel_rfl) (by simp) ?_
      refine AllReadyH.cons rfl (fun K hK => ?_) (AllReadyH.nil)
      go_simp
      (refine (clerks_any _).mono ?_)
      rintro e wA ⟨b, rfl, hk, hb⟩
      have HK := Lib.hid hk
      clear hk
      have hS2 := hHeld.below hb
      clear hb
      refine hK.out _ _ hS2 (fun hHeld => ?_)
      clear hK K hS2
      (try simp only [Act.put]); (try simp only [List.setIfInBounds_toArray]); (try simp only [List.set_cons_succ]); (try simp only [List.set_cons_zero])
      refine wpAnyH_ready (rs := [73]) (by kernel_rfl) (by simp) ?_
      refine AllReadyH.cons rfl (fun K hK => ?_) (AllReadyH.nil)
      go_simp
      (refine (nnP b _ HK.out vg vc 3 (l4.take 3) (stk_take hHeld.2.2 3 (by decide)) (by decide) 9 false nv26).mono ?_)
      rintro e w8 ⟨rfl, hb⟩
      have hS2 := hHeld.below hb
      clear hb
      refine hK.out _ _ hS2 (fun hHeld => ?_)
      clear hK K hS2
      (try simp only [Act.put]); (try simp only [List.setIfInBounds_toArray]); (try simp only [List.set_cons_succ]); (try simp only [List.set_cons_zero])
      refine wpAnyH_take (i := 74) (v := ?_) rfl (by kernel_rfl) (by kernel_rfl) (by kernel_rfl) (fun _ _ _ h => (by cases h.1)) (Or.inl ⟨by rfl, ?h74⟩) hHeld ?_
      case h74 =>
        intro w' hSw
        (try dsimp only at hSw)
        go_simp
        (try with_reducible rfl)
      (try simp only [Act.put]); (try simp only [List.setIfInBounds_toArray]); (try simp only [List.set_cons_succ]); (try simp only [List.set_cons_zero])
      refine wpAnyH_done (by kernel_rfl) ?_ _
      exact ⟨rfl, rfl, rfl, rfl, hHeld⟩
    · go_simp
      refine hK.out _ _ (hHeld.alloc _) (fun hHeld => ?_)
      clear hK K
      (try simp only [Act.put]); (try simp only [List.setIfInBounds_toArray]); (try simp only [List.set_cons_succ]); (try simp only [List.set_cons_zero])
      refine wpAnyH_ready (rs := [36]) (by kernel_rfl) (by simp) ?_
      refine AllReadyH.cons rfl (fun K hK => ?_) (AllReadyH.nil)
      go_simp
      refine hK.out _ _ (hHeld.alloc _) (fun hHeld => ?_)
      clear hK K
      (try simp only [Act.put]); (try simp only [List.setIfInBounds_toArray]); (try simp only [List.set_cons_succ]); (try simp only [List.set_cons_zero])
      refine wpAnyH_ready (rs := [38]) (by kernel_rfl) (by simp) ?_
      refine AllReadyH.cons rfl (fun K hK => ?_) (AllReadyH.nil)
      go_simp
      have h3 := three_newC wC.drew #[.int .i64 2] #[.int .i64 0, .int .i64 1, .int .i64 3] #[.slice (some ⟨wC.heap.size + 1, 0, none⟩) 3 3, .slice (some ⟨wC.heap.size, 0, none⟩) 1 1] 3 3 39
      have NT := Lib.hid (lit_tab h3.2.1 h3.1 h3.2.2.1)
      clear h3
      refine hK.out _ _ (hHeld.alloc _) (fun hHeld => ?_)
      clear hK K
      (try simp only [Act.put]); (try simp only [List.setIfInBounds_toArray]); (try simp only [List.set_cons_succ]); (try simp only [List.set_cons_zero])
      refine wpAnyH_ready (rs := [39]) (by kernel_rfl) (by simp) ?_
      refine AllReadyH.cons rfl (fun K hK => ?_) (AllReadyH.nil)
      go_simp
      (refine (rows40 _ _ _ _ tabG _ hHeld.2.1 NT.out (by decide) (by decide)).mono ?_)
      rintro e w8 ⟨rfl, hb⟩
      have hS2 := hHeld.below hb
      clear hb
      refine hK.out _ _ hS2 (fun hHeld => ?_)
      clear hK K hS2
      (try simp only [Act.put]); (try simp only [List.setIfInBounds_toArray]); (try simp only [List.set_cons_succ]); (try simp only [List.set_cons_zero])
      refine wpAnyH_take (i := 40) (v := ?_) rfl (by kernel_rfl) (by kernel_rfl) (by kernel_rfl) (fun _ _ _ h => (by cases h.1)) (Or.inl ⟨by kernel_rfl, ?h40⟩) hHeld ?_
      case h40 =>
        intro w' hSw
        (try dsimp only at hSw)
        go_simp
        (try with_reducible rfl)
      (try simp only [Act.put]); (try simp only [List.setIfInBounds_toArray]); (try simp only [List.set_cons_succ]); (try simp only [List.set_cons_zero])
      refine wpAnyH_take (i := 41) (v := ?_) rfl (by kernel_rfl) (by kernel_rfl) (by kernel_rfl) (fun _ _ _ h => (by cases h.1)) (Or.inl ⟨by rfl, ?h41⟩) hHeld ?_
      case h41 =>
        intro w' hSw
        (try dsimp only at hSw)
        go_simp
        (try with_reducible rfl)
      (try simp only [Act.put]); (try simp only [List.setIfInBounds_toArray]); (try simp only [List.set_cons_succ]); (try simp only [List.set_cons_zero])
      refine wpAnyH_take (i := 42) (v := ?_) rfl (by kernel_rfl) (by kernel_rfl) (by kernel_rfl) (fun _ _ _ h => (by cases h.1)) (Or.inl ⟨by rfl, ?h42⟩) hHeld ?_
      case h42 =>
        intro w' hSw
        (try dsimp only at hSw)
        go_simp
        (try with_reducible rfl)
      (try simp only [Act.put]); (try simp only [List.setIfInBounds_toArray]); (try simp only [List.set_cons_succ]); (try simp only [List.set_cons_zero])
      refine wpAnyH_take (i := 43) (v := ?_) rfl (by kernel_rfl) (by kernel_rfl) (by kernel_rfl) (fun _ _ _ h => (by cases h.1)) (Or.inl ⟨by kernel_rfl, ?h43⟩) hHeld ?_
      case h43 =>
        intro w' hSw
        (try dsimp only at hSw)
        go_simp
        (try with_reducible rfl)
      (try simp only [Act.put]); (try simp only [List.setIfInBounds_toArray]); (try simp only [List.set_cons_succ]); (try simp only [List.set_cons_zero])
      refine wpAnyH_take (i := 44) (v := ?_) rfl (by kernel_rfl) (by kernel_rfl) (by kernel_rfl) (fun _ _ _ h => (by cases h.1)) (Or.inl ⟨by kernel_rfl, ?h44⟩) hHeld ?_
      case h44 =>
        intro w' hSw
        (try dsimp only at hSw)
        go_simp
        (try with_reducible rfl)
      (try simp only [Act.put]); (try simp only [List.setIfInBounds_toArray]); (try simp only [List.set_cons_succ]); (try simp only [List.set_cons_zero])
      refine wpAnyH_take (i := 45) (v := ?_) rfl (by kernel_rfl) (by kernel_rfl) (by kernel_rfl) (fun _ _ _ h => (by cases h.1)) (Or.inl ⟨by rfl, ?h45⟩) hHeld ?_
      case h45 =>
        intro w' hSw
        (try dsimp only at hSw)
        go_simp
        (try with_reducible rfl)
      (try simp only [Act.put]); (try simp only [List.setIfInBounds_toArray]); (try simp only [List.set_cons_succ]); (try simp only [List.set_cons_zero])
      refine wpAnyH_take (i := 46) (v := ?_) rfl (by kernel_rfl) (by kernel_rfl) (by kernel_rfl) (fun _ _ _ h => (by cases h.1)) (Or.inl ⟨by rfl, ?h46⟩) hHeld ?_
      case h46 =>
        intro w' hSw
        (try dsimp only at hSw)
        go_simp
        (try with_reducible rfl)
      (try simp only [Act.put]); (try simp only [List.setIfInBounds_toArray]); (try simp only [List.set_cons_succ]); (try simp only [List.set_cons_zero])
      refine wpAnyH_take (i := 47) (v := ?_) rfl (by kernel_rfl) (by kernel_rfl) (by kernel_rfl) (fun _ _ _ h => (by cases h.1)) (Or.inl ⟨by kernel_rfl, ?h47⟩) hHeld ?_
      case h47 =>
        intro w' hSw
        (try dsimp only at hSw)
        go_simp
        (try with_reducible rfl)
      (try simp only [Act.put]); (try simp only [List.setIfInBounds_toArray]); (try simp only [List.set_cons_succ]); (try simp only [List.set_cons_zero])
      refine wpAnyH_take (i := 48) (v := ?_) rfl (by kernel_rfl) (by kernel_rfl) (by kernel_rfl) (fun _ _ _ h => (by cases h.1)) (Or.inl ⟨by kernel_rfl, ?h48⟩) hHeld ?_
      case h48 =>
        intro w' hSw
        (try dsimp only at hSw)
        go_simp
        (try with_reducible rfl)
      (try simp only [Act.put]); (try simp only [List.setIfInBounds_toArray]); (try simp only [List.set_cons_succ]); (try simp only [List.set_cons_zero])
      refine wpAnyH_take (i := 49) (v := ?_) rfl (by kernel_rfl) (by kernel_rfl) (by kernel_rfl) (fun _ _ _ h => (by cases h.1)) (Or.inl ⟨by kernel_rfl, ?h49⟩) hHeld ?_
      case h49 =>
        intro w' hSw
        (try dsimp only at hSw)
        go_simp
        (try with_reducible rfl)
      (try simp only [Act.put]); (try simp only [List.setIfInBounds_toArray]); (try simp only [List.set_cons_succ]); (try simp only [List.set_cons_zero])
      refine wpAnyH_take (i := 50) (v := ?_) rfl (by kernel_rfl) (by kernel_rfl) (by kernel_rfl) (fun _ _ _ h => (by cases h.1)) (Or.inl ⟨by rfl, ?h50⟩) hHeld ?_
      case h50 =>
        intro w' hSw
        (try dsimp only at hSw)
        go_simp
        (try with_reducible rfl)
      (try simp only [Act.put]); (try simp only [List.setIfInBounds_toArray]); (try simp only [List.set_cons_succ]); (try simp only [List.set_cons_zero])
      refine wpAnyH_take (i := 51) (v := ?_) rfl (by kernel_rfl) (by kernel_rfl) (by kernel_rfl) (fun _ _ _ h => (by cases h.1)) (Or.inl ⟨by rfl, ?h51⟩) hHeld ?_
      case h51 =>
        intro w' hSw
        (try dsimp only at hSw)
        go_simp
        (try with_reducible rfl)
      (try simp only [Act.put]); (try simp only [List.setIfInBounds_toArray]); (try simp only [List.set_cons_succ]); (try simp only [List.set_cons_zero])
      refine wpAnyH_take (i := 52) (v := ?_) rfl (by kernel_rfl) (by kernel_rfl) (by kernel_rfl) (fun _ _ _ h => (by cases h.1)) (Or.inl ⟨by kernel_rfl, ?h52⟩) hHeld ?_
      case h52 =>
        intro w' hSw
        (try dsimp only at hSw)
        go_simp
        (try with_reducible rfl)
      (try simp only [Act.put]); (try simp only [List.setIfInBounds_toArray]); (try simp only [List.set_cons_succ]); (try simp only [List.set_cons_zero])
      refine wpAnyH_take (i := 53) (v := ?_) rfl (by kernel_rfl) (by kernel_rfl) (by kernel_rfl) (fun _ _ _ h => (by cases h.1)) (Or.inl ⟨by kernel_rfl, ?h53⟩) hHeld ?_
      case h53 =>
        intro w' hSw
        (try dsimp only at hSw)
        go_simp
        (try with_reducible rfl)
      (try simp only [Act.put]); (try simp only [List.setIfInBounds_toArray]); (try simp only [List.set_cons_succ]); (try simp only [List.set_cons_zero])
      refine wpAnyH_take (i := 54) (v := ?_) rfl (by kernel_rfl) (by kernel_rfl) (by kernel_rfl) (fun _ _ _ h => (by cases h.1)) (Or.inl ⟨by kernel_rfl, ?h54⟩) hHeld ?_
      case h54 =>
        intro w' hSw
        (try dsimp only at hSw)
        go_simp
        (try with_reducible rfl)
      (try simp only [Act.put]); (try simp only [List.setIfInBounds_toArray]); (try simp only [List.set_cons_succ]); (try simp only [List.set_cons_zero])
      refine wpAnyH_take (i := 55) (v := ?_) rfl (by kernel_rfl) (by kernel_rfl) (by kernel_rfl) (fun _ _ _ h => (by cases h.1)) (Or.inl ⟨by kernel_rfl, ?h55⟩) hHeld ?_
      case h55 =>
        intro w' hSw
        (try dsimp only at hSw)
        go_simp
        (try with_reducible rfl)
      (try simp only [Act.put]); (try simp only [List.setIfInBounds_toArray]); (try simp only [List.set_cons_succ]); (try simp only [List.set_cons_zero])
      refine wpAnyH_take (i := 56) (v := ?_) rfl (by kernel_rfl) (by kernel_rfl) (by kernel_rfl) (fun _ _ _ h => (by cases h.1)) (Or.inl ⟨by kernel_rfl, ?h56⟩) hHeld ?_
      case h56 =>
        intro w' hSw
        (try dsimp only at hSw)
        go_simp
        (try with_reducible rfl)
      (try simp only [Act.put]); (try simp only [List.setIfInBounds_toArray]); (try simp only [List.set_cons_succ]); (try simp only [List.set_cons_zero])
      refine wpAnyH_take (i := 57) (v := ?_) rfl (by kernel_rfl) (by kernel_rfl) (by kernel_rfl) (fun _ _ _ h => (by cases h.1)) (Or.inl ⟨by rfl, ?h57⟩) hHeld ?_
      case h57 =>
        intro w' hSw
        (try dsimp only at hSw)
        go_simp
        (try with_reducible rfl)
      (try simp only [Act.put]); (try simp only [List.setIfInBounds_toArray]); (try simp only [List.set_cons_succ]); (try simp only [List.set_cons_zero])
      refine wpAnyH_take (i := 58) (v := ?_) rfl (by kernel_rfl) (by kernel_rfl) (by kernel_rfl) (fun _ _ _ h => (by cases h.1)) (Or.inl ⟨by rfl, ?h58⟩) hHeld ?_
      case h58 =>
        intro w' hSw
        (try dsimp only at hSw)
        go_simp
        (try with_reducible rfl)
      (try simp only [Act.put]); (try simp only [List.setIfInBounds_toArray]); (try simp only [List.set_cons_succ]); (try simp only [List.set_cons_zero])
      refine wpAnyH_take (i := 60) (v := ?_) rfl (by kernel_rfl) (by kernel_rfl) (by kernel_rfl) (fun _ _ _ h => (by cases h.1)) (Or.inl ⟨by kernel_rfl, ?h60⟩) hHeld ?_
      case h60 =>
        intro w' hSw
        (try dsimp only at hSw)
        go_simp
        (try with_reducible rfl)
      (try simp only [Act.put]); (try simp only [List.setIfInBounds_toArray]); (try simp only [List.set_cons_succ]); (try simp only [List.set_cons_zero])
      refine wpAnyH_ready (rs := [59]) (by kernel_rfl) (by simp) ?_
      refine AllReadyH.cons rfl (fun K hK => ?_) (AllReadyH.nil)
      go_simp
      (refine (clerks_any _).mono ?_)
      rintro e wA ⟨b, rfl, hk, hb⟩
      have HK := Lib.hid hk
      clear hk
      have hS2 := hHeld.below hb
      clear hb
      refine hK.out _ _ hS2 (fun hHeld => ?_)
      clear hK K hS2
      (try simp only [Act.put]); (try simp only [List.setIfInBounds_toArray]); (try simp only [List.set_cons_succ]); (try simp only [List.set_cons_zero])
      refine wpAnyH_ready (rs := [61]) (by kernel_rfl) (by simp) ?_
      refine AllReadyH.cons rfl (fun K hK => ?_) (AllReadyH.nil)
      go_simp
      (refine (nnP b _ HK.out vg vc 4 l4 hHeld.2.2 (by decide) 2 true nv24).mono ?_)
      rintro e w8 ⟨rfl, hb⟩
      have hS2 := hHeld.below hb
      clear hb
      refine hK.out _ _ hS2 (fun hHeld => ?_)
      clear hK K hS2
      (try simp only [Act.put]); (try simp only [List.setIfInBounds_toArray]); (try simp only [List.set_cons_succ]); (try simp only [List.set_cons_zero])
      refine wpAnyH_take (i := 62) (v := ?_) rfl (by kernel_rfl) (by kernel_rfl) (by kernel_rfl) (fun _ _ _ h => (by cases h.1)) (Or.inl ⟨by kernel_rfl, ?h62⟩) hHeld ?_
      case h62 =>
        intro w' hSw
        (try dsimp only at hSw)
        go_simp
        (try with_reducible rfl)
      (try simp only [Act.put]); (try simp only [List.setIfInBounds_toArray]); (try simp only [List.set_cons_succ]); (try simp only [List.set_cons_zero])
      refine wpAnyH_take (i := 63) (v := ?_) rfl (by kernel_rfl) (by kernel_rfl) (by kernel_rfl) (fun _ _ _ h => (by cases h.1)) (Or.inl ⟨by rfl, ?h63⟩) hHeld ?_
      case h63 =>
        intro w' hSw
        (try dsimp only at hSw)
        go_simp
        (try with_reducible rfl)
      (try simp only [Act.put]); (try simp only [List.setIfInBounds_toArray]); (try simp only [List.set_cons_succ]); (try simp only [List.set_cons_zero])
      refine wpAnyH_take (i := 64) (v := ?_) rfl (by kernel_rfl) (by kernel_rfl) (by kernel_rfl) (fun _ _ _ h => (by cases h.1)) (Or.inl ⟨by rfl, ?h64⟩) hHeld ?_
      case h64 =>
        intro w' hSw
        (try dsimp only at hSw)
        go_simp
        (try with_reducible rfl)
      (try simp only [Act.put]); (try simp only [List.setIfInBounds_toArray]); (try simp only [List.set_cons_succ]); (try simp only [List.set_cons_zero])
      refine wpAnyH_take (i := 66) (v := ?_) rfl (by kernel_rfl) (by kernel_rfl) (by kernel_rfl) (fun _ _ _ h => (by cases h.1)) (Or.inl ⟨by kernel_rfl, ?h66⟩) hHeld ?_
      case h66 =>
        intro w' hSw
        (try dsimp only at hSw)
        go_simp
        (try with_reducible rfl)
      (try simp only [Act.put]); (try simp only [List.setIfInBounds_toArray]); (try simp only [List.set_cons_succ]); (try simp only [List.set_cons_zero])
      refine wpAnyH_ready (rs := [65]) (by kernel_rfl) (by simp) ?_
      refine AllReadyH.cons rfl (fun K hK => ?_) (AllReadyH.nil)
      go_simp
      (refine (clerks_any _).mono ?_)
      rintro e wA ⟨b, rfl, hk, hb⟩
      have HK := Lib.hid hk
      clear hk
      have hS2 := hHeld.below hb
      clear hb
      refine hK.out _ _ hS2 (fun hHeld => ?_)
      clear hK K hS2
      (try simp only [Act.put]); (try simp only [List.setIfInBounds_toArray]); (try simp only [List.set_cons_succ]); (try simp only [List.set_cons_zero])
      refine wpAnyH_ready (rs := [67]) (by kernel_rfl) (by simp) ?_
      refine AllReadyH.cons rfl (fun K hK => ?_) (AllReadyH.nil)
      go_simp
      (refine (nnP b _ HK.out vg vc 4 l4 hHeld.2.2 (by decide) 1 false nv25).mono ?_)
      rintro e w8 ⟨rfl, hb⟩
      have hS2 := hHeld.below hb
      clear hb
      refine hK.out _ _ hS2 (fun hHeld => ?_)
      clear hK K hS2
      (try simp only [Act.put]); (try simp only [List.setIfInBounds_toArray]); (try simp only [List.set_cons_succ]); (try simp only [List.set_cons_zero])
      refine wpAnyH_take (i := 68) (v := ?_) rfl (by kernel_rfl) (by kernel_rfl) (by kernel_rfl) (fun _ _ _ h => (by cases h.1)) (Or.inl ⟨by rfl, ?h68⟩) hHeld ?_
      case h68 =>
        intro w' hSw
        (try dsimp only at hSw)
        go_simp
        (try with_reducible rfl)
      (try simp only [Act.put]); (try simp only [List.setIfInBounds_toArray]); (try simp only [List.set_cons_succ]); (try simp only [List.set_cons_zero])
      refine wpAnyH_take (i := 69) (v := ?_) rfl (by kernel_rfl) (by kernel_rfl) (by kernel_rfl) (fun _ _ _ h => (by cases h.1)) (Or.inl ⟨by rfl, ?h69⟩) hHeld ?_
      case h69 =>
        intro w' hSw
        (try dsimp only at hSw)
        go_simp
        (try with_reducible rfl)
      (try simp only [Act.put]); (try simp only [List.setIfInBounds_toArray]); (try simp only [List.set_cons_succ]); (try simp only [List.set_cons_zero])
      refine wpAnyH_take (i := 71) (v := ?_) rfl (by kernel_rfl) (by kernel_rfl) (by kernel_rfl) (fun _ _ _ h => (by cases h.1)) (Or.inl ⟨by kernel_rfl, ?h71⟩) hHeld ?_
      case h71 =>
        intro w' hSw
        (try dsimp only at hSw)
        go_simp
        (try with_reducible rfl)
      (try simp only [Act.put]); (try simp only [List.setIfInBounds_toArray]); (try simp only [List.set_cons_succ]); (try simp only [List.set_cons_zero])
      refine wpAnyH_take (i := 72) (v := ?_) rfl (by kernel_rfl) (by kernel_rfl) (by kernel_rfl) (fun _ _ _ h => (by cases h.1)) (Or.inl ⟨by kernel_rfl, ?h72⟩) hHeld ?_
      case h72 =>
        intro w' hSw
        (try dsimp only at hSw)
        go_simp
        (try with_reducible rfl)
      (try simp only [Act.put]); (try simp only [List.setIfInBounds_toArray]); (try simp only [List.set_cons_succ]); (try simp only [List.set_cons_zero])
      refine wpAnyH_ready (rs := [70]) (by kernel_rfl) (by simp) ?_
      refine AllReadyH.cons rfl (fun K hK => ?_) (AllReadyH.nil)
      go_simp
      (refine (clerks_any _).mono ?_)
      rintro e wA ⟨b, rfl, hk, hb⟩
      have HK := Lib.hid hk
      clear hk
      have hS2 := hHeld.below hb
      clear hb
      refine hK.out _ _ hS2 (fun hHeld => ?_)
      clear hK K hS2
      (try simp only [Act.put]); (try simp only [List.setIfInBounds_toArray]); (try simp only [List.set_cons_succ]); (try simp only [List.set_cons_zero])
      refine wpAnyH_ready (rs := [73]) (by kernel_rfl) (by simp) ?_
      refine AllReadyH.cons rfl (fun K hK => ?_) (AllReadyH.nil)
      go_simp
      (refine (nnP b _ HK.out vg vc 3 (l4.take 3) (stk_take hHeld.2.2 3 (by decide)) (by decide) 9 false nv26).mono ?_)
      rintro e w8 ⟨rfl, hb⟩
      have hS2 := hHeld.below hb
      clear hb
      refine hK.out _ _ hS2 (fun hHeld => ?_)
      clear hK K hS2
      (try simp only [Act.put]); (try simp only [List.setIfInBounds_toArray]); (try simp only [List.set_cons_succ]); (try simp only [List.set_cons_zero])
      refine wpAnyH_take (i := 74) (v := ?_) rfl (by kernel_rfl) (by kernel_rfl) (by kernel_rfl) (fun _ _ _ h => (by cases h.1)) (Or.inl ⟨by rfl, ?h74⟩) hHeld ?_
      case h74 =>
        intro w' hSw
        (try dsimp only at hSw)
        go_simp
        (try with_reducible rfl)
      (try simp only [Act.put]); (try simp only [List.setIfInBounds_toArray]); (try simp only [List.set_cons_succ]); (try simp only [List.set_cons_zero])
      refine wpAnyH_done (by kernel_rfl) ?_ _
      exact ⟨rfl, rfl, rfl, rfl, hHeld⟩
  · clear HN0 hv3 hv3n hvc
    rintro e ⟨tm, df⟩ W2 ⟨rfl, hsz, h122, hdf, hN⟩
    dsimp only at hsz h122 hdf
    subst hdf
    revert h122
    revert hsz
    revert tm
    refine act216 ?_
    intro v0 v1 v2 v3 v4 v5 v6 v7 v8 v9 v10 v11 v12 v13 v14 v15 v16 v17 v18 v19 v20 v21 v22 v23 v24 v25 v26 v27 v28 v29 v30 v31 v32 v33 v34 v35 v36 v37 v38 v39 v40 v41 v42 v43 v44 v45 v46 v47 v48 v49 v50 v51 v52 v53 v54 v55 v56 v57 v58 v59 v60 v61 v62 v63 v64 v65 v66 v67 v68 v69 v70 v71 v72 v73 v74 v75 v76 v77 v78 v79 v80 v81 v82 v83 v84 v85 v86 v87 v88 v89 v90 v91 v92 v93 v94 v95 v96 v97 v98 v99 v100 v101 v102 v103 v104 v105 v106 v107 v108 v109 v110 v111 v112 v113 v114 v115 v116 v117 v118 v119 v120 v121 v122 v123 v124 v125 v126 v127 v128 v129 v130 v131 v132 v133 v134 v135 v136 v137 v138 v139 v140 v141 v142 v143 v144 v145 v146 v147 v148 v149 v150 v151 v152 v153 v154 v155 v156 v157 v158 v159 v160 v161 v162 v163 v164 v165 v166 v167 v168 v169 v170 v171 v172 v173 v174 v175 v176 v177 v178 v179 v180 v181 v182 v183 v184 v185 v186 v187 v188 v189 v190 v191 v192 v193 v194 v195 v196 v197 v198 v199 v200 v201 v202 v203 v204 v205 v206 v207 v208 v209 v210 v211 v212 v213 v214 v215 h122
    obtain rfl : v122 = .bool false := Option.some.inj h122
    clear h122
    have S := Lib.hid hN.1
    clear hN
    go_wp2_with fail
    refine (clerks_any _).mono ?_
    rintro e wA ⟨b, rfl, hk, hb⟩
    have HK := Lib.hid hk
    clear hk
    have S := Lib.hid (S.out.trans (hb.mono S.out.size))
    clear hb
    go_wp2_with fail
    refine (nn9 b _ HK.out).mono ?_
    rintro e wC ⟨rfl, hb⟩
    have S := Lib.hid (S.out.trans (hb.mono S.out.size))
    clear hb
    go_wp2_with fail
    refine (clerks_any _).mono ?_
    rintro e wA ⟨b, rfl, hk, hb⟩
    have HK := Lib.hid hk
    clear hk
    have S := Lib.hid (S.out.trans (hb.mono S.out.size))
    clear hb
    go_wp2_with fail
    refine (nn10 b _ HK.out).mono ?_
    rintro e wC ⟨rfl, hb⟩
    have S := Lib.hid (S.out.trans (hb.mono S.out.size))
    clear hb
    go_wp2_with fail
    refine (clerks_any _).mono ?_
    rintro e wA ⟨b, rfl, hk, hb⟩
    have HK := Lib.hid hk
    clear hk
    have S := Lib.hid (S.out.trans (hb.mono S.out.size))
    clear hb
    go_wp2_with fail
    refine (nn11 b _ HK.out).mono ?_
    rintro e wC ⟨rfl, hb⟩
    have S := Lib.hid (S.out.trans (hb.mono S.out.size))
    clear hb
    go_wp2_with fail
    clear HK
    have hmk := mk13
    refine Go.wp_mono (Q := fun e a2 W2 => e = .normal ∧ a2.tmps.size = 216 ∧ (a2.tmps[2]? : Option Value) = some (.int .i64 4) ∧ (a2.tmps[4]? : Option Value) = some (.int .i64 4) ∧ (a2.tmps[6]? : Option Value) = some (.int .i64 3) ∧ (a2.tmps[8]? : Option Value) = some (.int .i64 3) ∧ a2.defers = [] ∧ KS w [] W2) ?_ ?_
    · have hS : KS w [] wC.drew := ⟨(fun z hz => by cases hz), S.out.trans ((Below.refl _ wC).drew.mono S.out.size)⟩
      refine wp_region_held_drew (S := KS w []) (by kernel_rfl) hS (fun hHeld => ?_)
      clear hS
      refine wpAnyH_ready (rs := [0, 1]) (by kernel_rfl) (by simp) ?_
      refine AllReadyH.cons rfl (fun K hK => ?_) (AllReadyH.cons rfl (fun K hK => ?_) (AllReadyH.nil))
      · go_simp
        (refine (clerks_any _).mono ?_)
        rintro e wA ⟨b, rfl, hk, hb⟩
        have HK := Lib.hid hk
        clear hk
        have hS2 := hHeld.below hb
        clear hb
        refine hK.out _ _ hS2 (fun hHeld => ?_)
        clear hK K hS2
        (try simp only [Act.put]); (try simp only [List.setIfInBounds_toArray]); (try simp only [List.set_cons_succ]); (try simp only [List.set_cons_zero])
        refine wpAnyH_ready (rs := [1]) (by kernel_rfl) (by simp) ?_
        refine AllReadyH.cons rfl (fun K hK => ?_) (AllReadyH.nil)
        go_simp
        have HF := Lib.hid (emp_sk (n := 13) (by decide) (Blk.new wA (Array.replicate 13 (.string (bs []))) 9))
        have HK := Lib.hid (HK.out.below ((Below.refl _ wA).alloc (Nat.le_refl _) (.cells (Array.replicate 13 (.string (bs []))) 9)))
        refine hK.out _ _ (hHeld.alloc _) (fun hHeld => ?_)
        clear hK K
        (try simp only [Act.put]); (try simp only [List.setIfInBounds_toArray]); (try simp only [List.set_cons_succ]); (try simp only [List.set_cons_zero])
        refine wpAnyH_ready (rs := [2]) (by kernel_rfl) (by simp) ?_
        refine AllReadyH.cons rfl (fun K hK => ?_) (AllReadyH.nil)
        go_simp
        (refine (nn12 b _ HK.out _ HF.out).mono ?_)
        rintro e w9 ⟨⟨gv2, rfl⟩, hb⟩
        have hS2 := hHeld.below hb
        clear hb
        refine hK.out _ _ hS2 (fun hHeld => ?_)
        clear hK K hS2
        (try simp only [Act.put]); (try simp only [List.setIfInBounds_toArray]); (try simp only [List.set_cons_succ]); (try simp only [List.set_cons_zero])
        refine wpAnyH_take (i := 3) (v := ?_) rfl (by kernel_rfl) (by kernel_rfl) (by kernel_rfl) (fun _ _ _ h => (by cases h.1)) (Or.inl ⟨by rfl, ?h3⟩) hHeld ?_
        case h3 =>
          intro w' hSw
          (try dsimp only at hSw)
          go_simp
          (try with_reducible rfl)
        (try simp only [Act.put]); (try simp only [List.setIfInBounds_toArray]); (try simp only [List.set_cons_succ]); (try simp only [List.set_cons_zero])
        refine wpAnyH_take (i := 4) (v := ?_) rfl (by kernel_rfl) (by kernel_rfl) (by kernel_rfl) (fun _ _ _ h => (by cases h.1)) (Or.inl ⟨by rfl, ?h4⟩) hHeld ?_
        case h4 =>
          intro w' hSw
          (try dsimp only at hSw)
          go_simp
          (try with_reducible rfl)
        (try simp only [Act.put]); (try simp only [List.setIfInBounds_toArray]); (try simp only [List.set_cons_succ]); (try simp only [List.set_cons_zero])
        refine wpAnyH_take (i := 5) (v := ?_) rfl (by kernel_rfl) (by kernel_rfl) (by kernel_rfl) (fun _ _ _ h => (by cases h.1)) (Or.inl ⟨by rfl, ?h5⟩) hHeld ?_
        case h5 =>
          intro w' hSw
          (try dsimp only at hSw)
          go_simp
          (try with_reducible rfl)
        (try simp only [Act.put]); (try simp only [List.setIfInBounds_toArray]); (try simp only [List.set_cons_succ]); (try simp only [List.set_cons_zero])
        refine wpAnyH_ready (rs := [6]) (by kernel_rfl) (by simp) ?_
        refine AllReadyH.cons rfl (fun K hK => ?_) (AllReadyH.nil)
        go_simp
        refine hK.out _ _ hHeld (fun hHeld => ?_)
        clear hK K
        (try simp only [Act.put]); (try simp only [List.setIfInBounds_toArray]); (try simp only [List.set_cons_succ]); (try simp only [List.set_cons_zero])
        refine wpAnyH_done (by kernel_rfl) ?_ _
        exact ⟨rfl, rfl, rfl, rfl, rfl, rfl, rfl, hHeld⟩
      · go_simp
        have HF := Lib.hid (emp_sk (n := 13) (by decide) (Blk.new wC.drew (Array.replicate 13 (.string (bs []))) 9))
        refine hK.out _ _ (hHeld.alloc _) (fun hHeld => ?_)
        clear hK K
        (try simp only [Act.put]); (try simp only [List.setIfInBounds_toArray]); (try simp only [List.set_cons_succ]); (try simp only [List.set_cons_zero])
        refine wpAnyH_ready (rs := [0]) (by kernel_rfl) (by simp) ?_
        refine AllReadyH.cons rfl (fun K hK => ?_) (AllReadyH.nil)
        go_simp
        (refine (clerks_any _).mono ?_)
        rintro e wA ⟨b, rfl, hk, hb⟩
        have HK := Lib.hid hk
        have HF := Lib.hid (HF.out.below hb)
        clear hk
        have hS2 := hHeld.below hb
        clear hb
        refine hK.out _ _ hS2 (fun hHeld => ?_)
        clear hK K hS2
        (try simp only [Act.put]); (try simp only [List.setIfInBounds_toArray]); (try simp only [List.set_cons_succ]); (try simp only [List.set_cons_zero])
        refine wpAnyH_ready (rs := [2]) (by kernel_rfl) (by simp) ?_
        refine AllReadyH.cons rfl (fun K hK => ?_) (AllReadyH.nil)
        go_simp
        (refine (nn12 b _ HK.out _ HF.out).mono ?_)
        rintro e w9 ⟨⟨gv2, rfl⟩, hb⟩
        have hS2 := hHeld.below hb
        clear hb
        refine hK.out _ _ hS2 (fun hHeld => ?_)
        clear hK K hS2
        (try simp only [Act.put]); (try simp only [List.setIfInBounds_toArray]); (try simp only [List.set_cons_succ]); (try simp only [List.set_cons_zero])
        refine wpAnyH_take (i := 3) (v := ?_) rfl (by kernel_rfl) (by kernel_rfl) (by kernel_rfl) (fun _ _ _ h => (by cases h.1)) (Or.inl ⟨by rfl, ?h3⟩) hHeld ?_
        case h3 =>
          intro w' hSw
          (try dsimp only at hSw)
          go_simp
          (try with_reducible rfl)
        (try simp only [Act.put]); (try simp only [List.setIfInBounds_toArray]); (try simp only [List.set_cons_succ]); (try simp only [List.set_cons_zero])
        refine wpAnyH_take (i := 4) (v := ?_) rfl (by kernel_rfl) (by kernel_rfl) (by kernel_rfl) (fun _ _ _ h => (by cases h.1)) (Or.inl ⟨by rfl, ?h4⟩) hHeld ?_
        case h4 =>
          intro w' hSw
          (try dsimp only at hSw)
          go_simp
          (try with_reducible rfl)
        (try simp only [Act.put]); (try simp only [List.setIfInBounds_toArray]); (try simp only [List.set_cons_succ]); (try simp only [List.set_cons_zero])
        refine wpAnyH_take (i := 5) (v := ?_) rfl (by kernel_rfl) (by kernel_rfl) (by kernel_rfl) (fun _ _ _ h => (by cases h.1)) (Or.inl ⟨by rfl, ?h5⟩) hHeld ?_
        case h5 =>
          intro w' hSw
          (try dsimp only at hSw)
          go_simp
          (try with_reducible rfl)
        (try simp only [Act.put]); (try simp only [List.setIfInBounds_toArray]); (try simp only [List.set_cons_succ]); (try simp only [List.set_cons_zero])
        refine wpAnyH_ready (rs := [6]) (by kernel_rfl) (by simp) ?_
        refine AllReadyH.cons rfl (fun K hK => ?_) (AllReadyH.nil)
        go_simp
        refine hK.out _ _ hHeld (fun hHeld => ?_)
        clear hK K
        (try simp only [Act.put]); (try simp only [List.setIfInBounds_toArray]); (try simp only [List.set_cons_succ]); (try simp only [List.set_cons_zero])
        refine wpAnyH_done (by kernel_rfl) ?_ _
        exact ⟨rfl, rfl, rfl, rfl, rfl, rfl, rfl, hHeld⟩
    · clear S hmk
      rintro e ⟨tm, df⟩ W3 ⟨rfl, hsz, h2, h4, h6, h8, hdf, hN⟩
      dsimp only at hsz h2 h4 h6 h8 hdf
      subst hdf
      revert h2 h4 h6 h8
      revert hsz
      revert tm
      refine act216 ?_
      intro q0 q1 q2 q3 q4 q5 q6 q7 q8 q9 q10 q11 q12 q13 q14 q15 q16 q17 q18 q19 q20 q21 q22 q23 q24 q25 q26 q27 q28 q29 q30 q31 q32 q33 q34 q35 q36 q37 q38 q39 q40 q41 q42 q43 q44 q45 q46 q47 q48 q49 q50 q51 q52 q53 q54 q55 q56 q57 q58 q59 q60 q61 q62 q63 q64 q65 q66 q67 q68 q69 q70 q71 q72 q73 q74 q75 q76 q77 q78 q79 q80 q81 q82 q83 q84 q85 q86 q87 q88 q89 q90 q91 q92 q93 q94 q95 q96 q97 q98 q99 q100 q101 q102 q103 q104 q105 q106 q107 q108 q109 q110 q111 q112 q113 q114 q115 q116 q117 q118 q119 q120 q121 q122 q123 q124 q125 q126 q127 q128 q129 q130 q131 q132 q133 q134 q135 q136 q137 q138 q139 q140 q141 q142 q143 q144 q145 q146 q147 q148 q149 q150 q151 q152 q153 q154 q155 q156 q157 q158 q159 q160 q161 q162 q163 q164 q165 q166 q167 q168 q169 q170 q171 q172 q173 q174 q175 q176 q177 q178 q179 q180 q181 q182 q183 q184 q185 q186 q187 q188 q189 q190 q191 q192 q193 q194 q195 q196 q197 q198 q199 q200 q201 q202 q203 q204 q205 q206 q207 q208 q209 q210 q211 q212 q213 q214 q215 h2 h4 h6 h8
      obtain rfl : q2 = .int .i64 4 := Option.some.inj h2
      obtain rfl : q4 = .int .i64 4 := Option.some.inj h4
      obtain rfl : q6 = .int .i64 3 := Option.some.inj h6
      obtain rfl : q8 = .int .i64 3 := Option.some.inj h8
      clear h2 h4 h6 h8
      have S := Lib.hid hN.bel
      clear hN
      go_wp2_with fail
      refine (clerks_any _).mono ?_
      rintro e wA ⟨b, rfl, hk, hb⟩
      have HK := Lib.hid hk
      clear hk
      have S := Lib.hid (S.out.trans (hb.mono S.out.size))
      clear hb
      go_wp2_with fail
      refine (four_any _).mono ?_
      rintro e wB ⟨d, rfl, hf, hb⟩
      have HF := Lib.hid hf
      have HK := Lib.hid (HK.out.below hb)
      clear hf
      have S := Lib.hid (S.out.trans (hb.mono S.out.size))
      clear hb
      go_wp2_with fail
      refine (nn13 b _ HK.out d HF.out).mono ?_
      rintro e wC ⟨⟨gv3, rfl⟩, hb⟩
      have S := Lib.hid (S.out.trans (hb.mono S.out.size))
      clear hb
      go_wp2_with fail
      refine (clerks_any _).mono ?_
      rintro e wA ⟨b, rfl, hk, hb⟩
      have HK := Lib.hid hk
      clear hk
      have S := Lib.hid (S.out.trans (hb.mono S.out.size))
      clear hb
      go_wp2_with fail
      refine (nn14 b _ HK.out).mono ?_
      rintro e wC ⟨rfl, hb⟩
      have S := Lib.hid (S.out.trans (hb.mono S.out.size))
      clear hb
      clear HK HF
      go_wp2_with fail
      refine (clerks_any _).mono ?_
      rintro e wA ⟨b1, rfl, hk1, hb⟩
      have HK1 := Lib.hid hk1
      clear hk1
      have S := Lib.hid (S.out.trans (hb.mono S.out.size))
      clear hb
      go_wp2_with fail
      refine (clerks_any _).mono ?_
      rintro e wA ⟨b2, rfl, hk2, hb⟩
      have HK2 := Lib.hid hk2
      clear hk2
      have S := Lib.hid (S.out.trans (hb.mono S.out.size))
      clear hb
      go_wp2_with fail
      refine (clerks_any _).mono ?_
      rintro e wA ⟨b3, rfl, hk3, hb⟩
      have HK3 := Lib.hid hk3
      clear hk3
      have S := Lib.hid (S.out.trans (hb.mono S.out.size))
      clear hb
      go_wp2_with fail
      refine (clerks_any _).mono ?_
      rintro e wA ⟨b4, rfl, hk4, hb⟩
      have HK4 := Lib.hid hk4
      clear hk4
      have S := Lib.hid (S.out.trans (hb.mono S.out.size))
      have HK3 := Lib.hid (HK3.out.below hb)
      clear hb
      go_wp2_with fail
      rw [mk9]
      go_wp2_with fail
      have k0 : KS w [] wA := ⟨(fun z hz => by cases hz), S.out⟩
      have s1 := k0.new #[.slice (some ⟨wA.heap.size + 1 + 1 + 1 + 1, 0, none⟩) 2 2, .string clkR.soft, .int .i64 clkR.al, .int .i64 clkR.ot, .int .i64 clkR.sk, .int .i64 clkR.ss, .int .i64 clkR.db] 27
      have s2 := s1.new #[.slice (some ⟨wA.heap.size + 1 + 1 + 1 + 1 + 1, 0, none⟩) 1 1, .string clkR.soft, .int .i64 clkR.al, .int .i64 clkR.ot, .int .i64 clkR.sk, .int .i64 clkR.ss, .int .i64 clkR.db] 27
      have s3 := s2.new #[.slice (some ⟨b3, 0, none⟩) 3 3, .string clkR.soft, .int .i64 clkR.al, .int .i64 clkR.ot, .int .i64 clkR.sk, .int .i64 clkR.ss, .int .i64 101] 27
      have s4 := s3.new #[.slice (some ⟨wA.heap.size + 1 + 1 + 1 + 1 + 1 + 1, 0, none⟩) 9 9, .string clkR.soft, .int .i64 clkR.al, .int .i64 clkR.ot, .int .i64 clkR.sk, .int .i64 clkR.ss, .int .i64 clkR.db] 27
      have s5 := s4.new #[.string (bs [66, 80]), .string (bs [68, 66])] 9
      have s6 := s5.new #[.string (bs [65, 66])] 9
      have s7 := s6.new (Array.replicate 9 (.string (bs []))) 9
      simp only [World.size_alloc] at s7
      have u1 := (Below.refl wA.heap.size wA).alloc (Nat.le_refl _) (.cells #[.slice (some ⟨wA.heap.size + 1 + 1 + 1 + 1, 0, none⟩) 2 2, .string clkR.soft, .int .i64 clkR.al, .int .i64 clkR.ot, .int .i64 clkR.sk, .int .i64 clkR.ss, .int .i64 clkR.db] 27)
      have u2 := u1.alloc u1.size (.cells #[.slice (some ⟨wA.heap.size + 1 + 1 + 1 + 1 + 1, 0, none⟩) 1 1, .string clkR.soft, .int .i64 clkR.al, .int .i64 clkR.ot, .int .i64 clkR.sk, .int .i64 clkR.ss, .int .i64 clkR.db] 27)
      have u3 := u2.alloc u2.size (.cells #[.slice (some ⟨b3, 0, none⟩) 3 3, .string clkR.soft, .int .i64 clkR.al, .int .i64 clkR.ot, .int .i64 clkR.sk, .int .i64 clkR.ss, .int .i64 101] 27)
      have u4 := u3.alloc u3.size (.cells #[.slice (some ⟨wA.heap.size + 1 + 1 + 1 + 1 + 1 + 1, 0, none⟩) 9 9, .string clkR.soft, .int .i64 clkR.al, .int .i64 clkR.ot, .int .i64 clkR.sk, .int .i64 clkR.ss, .int .i64 clkR.db] 27)
      have u5 := u4.alloc u4.size (.cells #[.string (bs [66, 80]), .string (bs [68, 66])] 9)
      have u6 := u5.alloc u5.size (.cells #[.string (bs [65, 66])] 9)
      have u7 := u6.alloc u6.size (.cells (Array.replicate 9 (.string (bs []))) 9)
      have HK3 := Lib.hid (HK3.out.below u7)
      have S7 := Lib.hid s7
      clear k0 s1 s2 s3 s4 s5 s6 s7 u1 u2 u3 u4 u5 u6 u7 S HK1 HK2 HK4
      refine (chk1 _ _ (S7.out.blkAt 2 rfl)).mono ?_
      rintro e x7 ⟨rfl, hb⟩
      have s8 := S7.out.below hb
      have S8 := Lib.hid s8
      have HK3 := Lib.hid (HK3.out.below hb)
      clear hb
      obtain ⟨kb0_0, kb0_1, kb0_2, kb0_3, kb0_4, kb0_5, kb0_6⟩ := (s8.blkAt 5 rfl).c7
      clear s8
      go_wp2_with fail
      clear kb0_0 kb0_1 kb0_2 kb0_3 kb0_4 kb0_5 kb0_6
      refine (chk2 _ _ (S8.out.blkAt 1 rfl)).mono ?_
      rintro e x8 ⟨rfl, hb⟩
      have s8 := S8.out.below hb
      have S9 := Lib.hid s8
      have HK3 := Lib.hid (HK3.out.below hb)
      clear hb
      obtain ⟨kb0_0, kb0_1, kb0_2, kb0_3, kb0_4, kb0_5, kb0_6⟩ := (s8.blkAt 4 rfl).c7
      clear s8
      go_wp2_with fail
      clear kb0_0 kb0_1 kb0_2 kb0_3 kb0_4 kb0_5 kb0_6
      refine (chk3 b3 _ HK3.out).mono ?_
      rintro e x9 ⟨rfl, hb⟩
      have s8 := S9.out.below hb
      have S10 := Lib.hid s8
      have HK3 := Lib.hid (HK3.out.below hb)
      clear hb
      obtain ⟨kb0_0, kb0_1, kb0_2, kb0_3, kb0_4, kb0_5, kb0_6⟩ := (s8.blkAt 3 rfl).c7
      clear s8
      go_wp2_with fail
      clear kb0_0 kb0_1 kb0_2 kb0_3 kb0_4 kb0_5 kb0_6
      refine (chk4 _ _ (S10.out.blkAt 0 rfl)).mono ?_
      rintro e x10 ⟨rfl, hb⟩
      have s8 := S10.out.below hb
      have S11 := Lib.hid s8
      have HK3 := Lib.hid (HK3.out.below hb)
      clear hb
      clear s8
      go_wp2_with fail
      refine (chk5 _).mono ?_
      rintro e x11 ⟨rfl, hb⟩
      have s8 := S11.out.below hb
      have S12 := Lib.hid s8
      have HK3 := Lib.hid (HK3.out.below hb)
      clear hb
      clear s8
      go_wp2_with fail
      refine (awake_any _).mono ?_
      rintro e x12 ⟨rfl, hb⟩
      have SA := Lib.hid (S12.out.bel.trans (hb.mono S12.out.bel.size))
      clear hb
      go_wp2_with fail
      go_ret
      exact ⟨rfl, SA.out⟩
end Go.Proofs.Ytkdflgaahhnigaa

namespace Go.Proofs.Ytkdflgaahhnigaa.nameNames
open Go.ChangeShapes Go.WideShapes Go.ChangeAt Go.RowKit Go.Joins Go.Deep
open Go.ChangeMaps (open_string)

theorem own : ownKnob Try.prog.godebug = none := by kernel_rfl
theorem laidOut : laidOutB Try.prog = true := by kernel_rfl

set_option maxRecDepth 100000 in
theorem lifted (os : Os) (started : os.Started) (H : Type) (enc : TypeId × Value → H) :
    ReturnsInHanded {} Try.checked os 3 .any (Rows.nameNamesSpec.pre6 enc Try.prog Try.f3 Rows.nameNamesRow.domain false) (Rows.nameNamesSpec.post enc Try.prog Try.f3 false true false false) := by
  refine returnsInHanded_of_change (C := Try.checked) own started (by kernel_rfl) Try.func3
    (ChangeSpec.witness6 (enc := enc) (C := Try.checked) false ⟨#[], #[], []⟩ 8 (by kernel_rfl) (by kernel_rfl) (by kernel_rfl) (by kernel_rfl)) ?_
  intro W base args ds gs before hval0 hW hcnd _
  have hval : ∀ (j : Nat) t v, Try.f3.params[j]? = some t → args[j]? = some v → Value.okWide Try.prog W .any base t v := hval0
  have hW' := hW
  obtain ⟨p, q, hA0, hV, rfl, hfz, hnd⟩ := hW
  have hA : DataW.TrodAll enc Try.prog W 0 (fun _ => true) true Try.f3.params.toList args.toList ds p := hA0
  rw [Try.params3] at hA hval
  obtain ⟨hargs, rfl, rfl⟩ := trodAll_nil hA
  obtain rfl : args = #[] := by cases args; simp_all
  obtain ⟨rfl, rfl⟩ := trodVars_none hV
  clear hA0 hval0
  refine (NameNames_walk W).mono fun e W' ⟨he, bel⟩ => ?_
  subst he
  exact ⟨_, rfl, _, _, _, [], _, [], hW', trodAll_mk1 (shut_bool Try.underlying4 _), trodAll_mk0, rfl, bel.frame _, fun h => by cases h⟩

theorem over : Rows.nameNamesRow.holds Try.pinned (OpenSpec.ofChange Rows.nameNamesSpec) :=
  OpenClaim.holds_of_wide 3 Try.f3 rfl rfl rfl rfl rfl rfl rfl ⟨rfl, rfl, rfl, rfl, rfl⟩ rfl rfl rfl rfl rfl (by kernel_rfl) Try.func3 (by kernel_rfl)
    (of_decide_eq_true (by kernel_rfl)) (by unfold Func.isWrapper; first | (rw [if_pos (by decide +kernel)]; kernel_rfl) | (rw [if_neg (by decide +kernel)]; exact ⟨rfl, rfl⟩))
    (fun os started H enc _ => lifted os started H enc)
end Go.Proofs.Ytkdflgaahhnigaa.nameNames
namespace Go.Proofs.Ytkdflgaahhnigaa
/-- THE STATEMENT -/
theorem nameNames_holds : Rows.NameNamesSaid := nameNames.over
#print axioms nameNames_holds
end Go.Proofs.Ytkdflgaahhnigaa
