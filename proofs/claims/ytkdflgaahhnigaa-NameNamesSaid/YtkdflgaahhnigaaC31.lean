/- Texts of package name, for this seat. -/
import Derived.Test.YtkdflgaahhnigaaC29
import Derived.Test.YtkdflgaahhnigaaC28
import Derived.Test.YtkdflgaahhnigaaC21
import Derived.Test.YtkdflgaahhnigaaC11
set_option linter.unusedVariables false
set_option linter.unusedSimpArgs false
namespace Go.Proofs.Ytkdflgaahhnigaa
open Go.RowKit Go.Shelf

theorem spS_nil : spB (bs []) = false := by kernel_rfl
section
variable (b : Nat) (w : World) (hk : SK w (some ⟨b, 0, none⟩) b 0 clkR.cls)
include hk
theorem nn_cost (x y : ByteArray) (hx : x.size ≤ 1000) (hy : y.size ≤ 1000) (v e : Nat) (hv : costV clkR x y = v) (he : chkN clkR [x, y] = e) : Calls Try.prog 4 #[CV b, .string x, .string y] w fun e' w' => e' = .returned (.tuple #[.int .i64 v, .int .i64 e]) ∧ Below w.heap.size w w' := by
  have h := Cost_any (some ⟨b, 0, none⟩) b 0 3 3 clkR w rfl hk (Nat.le_refl _) thn4 x y hx hy
  rw [hv, he] at h
  exact h
theorem nn_key (x : ByteArray) (hx : x.size ≤ 1000) (v : List UInt8) (e : Nat) (hv : keyV clkR x = v) (he : chkN clkR [x] = e) : Calls Try.prog 6 #[CV b, .string x] w fun e' w' => e' = .returned (.tuple #[.string ⟨v.toArray⟩, .int .i64 e]) ∧ Below w.heap.size w w' := by
  have h := Key_any (some ⟨b, 0, none⟩) b 0 3 3 clkR w rfl hk (Nat.le_refl _) thn4 x hx
  rw [hv, he] at h
  exact h
end
theorem chk_names {x y : ByteArray} (h1 : chkN clkR [x, y] = 0) {v : Nat} (h2 : cRS clkR x y = v) : costV clkR x y = v := by
  unfold costV
  rw [if_pos h1, cR_S, h2]
def nMARY : ByteArray := bs [77, 65, 82, 89]
def nMARIE : ByteArray := bs [77, 65, 82, 73, 69]
def nBOB : ByteArray := bs [66, 79, 66]
def nBOBB : ByteArray := bs [66, 79, 66, 66]
def nABBA : ByteArray := bs [65, 66, 66, 65]
def nBAB : ByteArray := bs [66, 65, 66]
def nBob : ByteArray := bs [66, 111, 98]
def nLong : ByteArray := bs [65, 66, 67, 68, 69, 70, 71, 72, 73, 74, 75, 76, 77]
theorem nv1 : chkN clkR [nMARY, nMARIE] = 0 := by kernel_rfl
theorem nv2 : costV clkR nMARY nMARIE = 3 := chk_names nv1 (by kernel_rfl)
theorem nv3 : chkN clkR [nBOB, nBOBB] = 0 := by kernel_rfl
theorem nv4 : costV clkR nBOB nBOBB = 1 := chk_names nv3 (by kernel_rfl)
theorem nv5 : chkN clkR [nABBA] = 0 := by kernel_rfl
theorem nv6 : keyV clkR nABBA = [65, 66] := by unfold keyV; rw [if_pos nv5]; kernel_rfl
theorem nv7 : chkN clkR [nBAB] = 0 := by kernel_rfl
theorem nv8 : keyV clkR nBAB = [66] := by unfold keyV; rw [if_pos nv7]; kernel_rfl
theorem nv9 : chkN clkR [bs [], nBOB] = 4 := by kernel_rfl
theorem nv10 : costV clkR (bs []) nBOB = 0 := by unfold costV; rw [if_neg (by rw [nv9]; decide)]
theorem nv11 : chkN clkR [nBob] = 4 := by kernel_rfl
theorem nv12 : keyV clkR nBob = [] := by unfold keyV; rw [if_neg (by rw [nv11]; decide)]
theorem nv13 : chkN clkR [nLong] = 3 := by kernel_rfl
theorem nv14 : keyV clkR nLong = [] := by unfold keyV; rw [if_neg (by rw [nv13]; decide)]
def tabG : List (List Nat) := [[0, 1, 3], [2]]
theorem nv15a : lstN clkR four4 [] = 0 := by kernel_rfl
theorem nv15 : groupsE clkR four4 2 = 0 := by unfold groupsE; rw [nv15a]; rfl
theorem nv16 : groupsV clkR four4 2 = tabG := by
  unfold groupsV
  rw [if_pos nv15]
  unfold grpL
  rw [tab4_eq]
  have k : (Nm.outer (rT tab4 (2 : Int).toNat) four4.length four4.length).1 = tabG := by kernel_rfl
  exact k
def emp13 : List ByteArray := List.replicate 13 (bs [])
theorem nv17a : lstN clkR emp13 [] = 3 := by kernel_rfl
theorem nv17 : groupsE clkR emp13 5 = 3 := by unfold groupsE; rw [nv17a]; rfl
theorem nv18 : groupsV clkR emp13 5 = [] := by unfold groupsV; rw [if_neg (by rw [nv17]; decide)]
theorem nv19a : lstN clkR four4 [nBOB] = 0 := by kernel_rfl
theorem nv19 : nearE clkR four4 nBOB 5001 = 2 := by unfold nearE; rw [nv19a]; rfl
theorem nv20 : nearV clkR four4 nBOB 5001 = [] := by unfold nearV; rw [if_neg (by rw [nv19]; decide)]
theorem nv21 : someN clkR [] = 7 := by kernel_rfl
def l4 : List (Int × Int) := [(0, 0), (1, 1), (2, 2), (3, 3)]
theorem nv22 : costsV clkR nmK nmC l4 = 2 := by kernel_rfl
theorem nv23 : costsV clkR nmK nmC (l4.take 3) = -1 := by kernel_rfl
theorem nv24 : pvB clkR nmK nmC l4 2 = true := by unfold pvB; rw [ev2, nv22]; rfl
theorem nv25 : pvB clkR nmK nmC l4 1 = false := by unfold pvB; rw [ev2, nv22]; rfl
theorem nv26 : pvB clkR nmK nmC (l4.take 3) 9 = false := by unfold pvB; rw [ev2, nv23]; rfl
/-- the way that is taken, in a form that reckons -/
def nxS (i j : Nat) : Option Nm.St := (stR clkR nmK nmC i j).find? fun t => t.2 + Nm.rsS (SW (sndR clkR) clkR.al.toNat clkR.ot.toNat nmK nmC) (SA clkR.soft clkR.sk.toNat clkR.ss.toNat clkR.db.toNat nmK) (SA clkR.soft clkR.sk.toNat clkR.ss.toNat clkR.db.toNat nmC) 4 4 (4 - (Nm.aft (i, j) t.1).1) (4 - (Nm.aft (i, j) t.1).2) == Nm.rsS (SW (sndR clkR) clkR.al.toNat clkR.ot.toNat nmK nmC) (SA clkR.soft clkR.sk.toNat clkR.ss.toNat clkR.db.toNat nmK) (SA clkR.soft clkR.sk.toNat clkR.ss.toNat clkR.db.toNat nmC) 4 4 (4 - i) (4 - j)
theorem nx_S (i j : Nat) : nextR clkR nmK nmC i j = nxS i j := by
  unfold nextR nxS cR csD Nm.cs
  simp only [Nm.rs_rsS]
  rfl
def gS : Nat → (Nat × Nat) × List (Int × Int)
  | 0 => ((0, 0), [])
  | k + 1 => match nxS (gS k).1.1 (gS k).1.2 with
    | some t => (Nm.aft (gS k).1 t.1, (gS k).2 ++ [t.1])
    | none => gS k
theorem g_S : ∀ k, gN clkR nmK nmC k = gS k
  | 0 => rfl
  | k + 1 => by rw [gN, gS, nx_S, g_S k]; cases nxS (gS k).1.1 (gS k).1.2 <;> rfl
theorem aln4 {l : List (Int × Int)} (h : AlnR clkR nmK nmC l 4 4) : l = l4 := by
  have hl : l.length ≤ 8 := (len_way h.1).1
  have hg := h.2
  rw [g_S] at hg
  have k0 : gS 0 = ((0, 0), []) := by kernel_rfl
  have k1 : gS 1 = ((1, 1), [(0, 0)]) := by kernel_rfl
  have k2 : gS 2 = ((2, 2), [(0, 0), (1, 1)]) := by kernel_rfl
  have k3 : gS 3 = ((3, 3), [(0, 0), (1, 1), (2, 2)]) := by kernel_rfl
  have k4 : gS 4 = ((4, 4), l4) := by kernel_rfl
  have kk : ∀ k, gS (4 + k) = ((4, 4), l4) := fun k => by
    induction k with
    | zero => exact k4
    | succ k ih =>
      have hn : nxS 4 4 = none := by kernel_rfl
      show gS ((4 + k) + 1) = _
      rw [gS, ih]
      simp only [hn]
  rcases Nat.lt_or_ge l.length 4 with h4 | h4
  · obtain h0 | h0 | h0 | h0 : l.length = 0 ∨ l.length = 1 ∨ l.length = 2 ∨ l.length = 3 := by omega
    · rw [h0, k0] at hg; cases hg
    · rw [h0, k1] at hg; cases hg
    · rw [h0, k2] at hg; cases hg
    · rw [h0, k3] at hg; cases hg
  · have e := kk (l.length - 4)
    rw [show 4 + (l.length - 4) = l.length by omega, hg] at e
    exact (Prod.ext_iff.1 e).2
def R1 : RB := ⟨[bs [66, 80], bs [68, 66]], bs [65, 69, 73, 79, 85, 89], 1, 4, 3, 1, 1⟩
def R2 : RB := ⟨[bs [65, 66]], bs [65, 69, 73, 79, 85, 89], 1, 4, 3, 1, 1⟩
def R3 : RB := ⟨[bs [66, 80], bs [68, 84], bs [67, 75, 81]], bs [65, 69, 73, 79, 85, 89], 1, 4, 3, 1, 101⟩
def R4 : RB := ⟨List.replicate 9 (bs []), bs [65, 69, 73, 79, 85, 89], 1, 4, 3, 1, 1⟩
def R5 : RB := ⟨[], bs [], 0, 0, 0, 0, 0⟩
theorem nr1 : chk R1 = 1 := by kernel_rfl
theorem nr2 : chk R2 = 1 := by kernel_rfl
theorem nr3 : chk R3 = 1 := by kernel_rfl
theorem nr4 : chk R4 = 3 := by kernel_rfl
theorem nr5 : chk R5 = 0 := by kernel_rfl
theorem nt1 : Thn R1 := by refine ⟨by decide, ?_, by decide⟩; decide
theorem nt2 : Thn R2 := by refine ⟨by decide, ?_, by decide⟩; decide
theorem nt3 : Thn R3 := by refine ⟨by decide, ?_, by decide⟩; decide
theorem nt4 : Thn R4 := by refine ⟨by decide, ?_, by decide⟩; decide
theorem nt5 : Thn R5 := by refine ⟨by decide, ?_, by decide⟩; decide
end Go.Proofs.Ytkdflgaahhnigaa
