/- Texts of package name, for this seat. -/
import Derived.Test.YtkdflgaahhnigaaC10
set_option linter.unusedVariables false
set_option linter.unusedSimpArgs false
namespace Nm
section
variable (sw : Nat → Nat → Nat) (sa sb : Nat → Nat) (n m : Nat)
/-- rs, in a form that reckons -/
def rsS : Nat → Nat → Nat
  | 0 => fun b => Nat.rec 0 (fun b r => sb (m-(b+1)) + r) b
  | a+1 => fun b => Nat.rec (sa (n-(a+1)) + rsS a 0) (fun b r => min (min (sw (n-(a+1)) (m-(b+1)) + rsS a b) (sa (n-(a+1)) + rsS a (b+1))) (sb (m-(b+1)) + r)) b
theorem rs_rsS : ∀ a b, rs sw sa sb n m a b = rsS sw sa sb n m a b
  | 0, 0 => by rw [rs]; rfl
  | 0, b+1 => by rw [rs, rs_rsS 0 b]; rfl
  | a+1, 0 => by rw [rs, rs_rsS a 0]; rfl
  | a+1, b+1 => by rw [rs, rs_rsS a b, rs_rsS a (b+1), rs_rsS (a+1) b]; rfl
end
end Nm
namespace Go.Proofs.Ytkdflgaahhnigaa
open Go.RowKit Go.Shelf

def bs (l : List UInt8) : ByteArray := ⟨l.toArray⟩
/-- the rules of clerks -/
def clkR : RB := ⟨[bs [66, 80], bs [68, 84], bs [67, 75, 81]], bs [65, 69, 73, 79, 85, 89], 1, 4, 3, 1, 1⟩
/-- the cost, in a form that reckons -/
def cRS (R : RB) (x y : ByteArray) : Nat := Nm.rsS (SW (sndR R) R.al.toNat R.ot.toNat x y) (SA R.soft R.sk.toNat R.ss.toNat R.db.toNat x) (SA R.soft R.sk.toNat R.ss.toNat R.db.toNat y) x.size y.size x.size y.size
theorem cR_S (R : RB) (x y : ByteArray) : cR R x y 0 0 = cRS R x y := by
  unfold cR csD Nm.cs cRS
  rw [Nm.rs_rsS, Nat.sub_zero, Nat.sub_zero]
def nmK : ByteArray := bs [75, 65, 84, 69]
def nmC : ByteArray := bs [67, 65, 68, 69]
theorem ev1 : cR clkR nmK nmC 0 0 = 2 := by rw [cR_S]; kernel_rfl
theorem ev2 : chkN clkR [nmK, nmC] = 0 := by kernel_rfl
theorem ev3 : keyR clkR nmC.data.toList = [67, 68] := by kernel_rfl
end Go.Proofs.Ytkdflgaahhnigaa

namespace Go.Proofs.Ytkdflgaahhnigaa
open Go.RowKit Go.Shelf

theorem skL {W : World} {b : Nat} {l : List ByteArray} {t : TypeId} (h : Blk W b (l.map Value.string).toArray t) : SK W (some ⟨b, 0, none⟩) b 0 l := ⟨fun _ => rfl, fun i s e => by
  rw [Nat.zero_add, h.cell i]; simp [e], fun _ => h.lt⟩
set_option maxRecDepth 100000 in
set_option maxHeartbeats 1000000 in
theorem clerks_any (w : World) : Calls Try.prog 5 #[] w fun e w' => ∃ b, e = .returned (rulesV (some ⟨b, 0, none⟩) 3 3 clkR.soft clkR.al clkR.ot clkR.sk clkR.ss clkR.db) ∧ SK w' (some ⟨b, 0, none⟩) b 0 clkR.cls ∧ Below w.heap.size w w' := by
  go_enter Try.func5, Try.ntmps5
  go_wp2_with fail
  obtain ⟨b1, b2, b3, b4⟩ := two_new w #[.slice (some ⟨w.heap.size + 1, 0, none⟩) 3 3, .string ⟨#[65, 69, 73, 79, 85, 89]⟩, .int .i64 1, .int .i64 4, .int .i64 3, .int .i64 1, .int .i64 1] #[.string ⟨#[66, 80]⟩, .string ⟨#[68, 84]⟩, .string ⟨#[67, 75, 81]⟩] 27 9
  have hlv := run_loadVar_mid (P := Try.prog) _ w.heap.size 0 27 [.slice (some ⟨w.heap.size + 1, 0, none⟩) 3 3, .string ⟨#[65, 69, 73, 79, 85, 89]⟩, .int .i64 1, .int .i64 4, .int .i64 3, .int .i64 1, .int .i64 1] _ (Blk.range b1) Try.underlying27 rfl (by kernel_rfl)
  refine bodyPost_ret (v := rulesV (some ⟨w.heap.size + 1, 0, none⟩) 3 3 clkR.soft clkR.al clkR.ot clkR.sk clkR.ss clkR.db) (by simp [results, Try.results5, asAddr, hlv]; exact ⟨rfl, rfl, rfl, rfl, rfl, rfl⟩) rfl ⟨w.heap.size + 1, rfl, skL b2, b3⟩
set_option maxRecDepth 100000 in
set_option maxHeartbeats 1000000 in
theorem four_any (w : World) : Calls Try.prog 8 #[] w fun e w' => ∃ b, e = .returned (.slice (some ⟨b, 0, none⟩) 4 4) ∧ SKn w' (some ⟨b, 0, none⟩) b 0 4 4 [nmK, nmC, bs [77, 65, 82, 89], bs [75, 65, 84, 89]] ∧ Below w.heap.size w w' := by
  go_enter Try.func8, Try.ntmps8
  go_wp2_with fail
  go_ret
  exact ⟨w.heap.size, rfl, ⟨rfl, skL (Blk.new w _ 9), fun e => by cases e⟩, (Below.refl _ _).alloc (Nat.le_refl _) _⟩
end Go.Proofs.Ytkdflgaahhnigaa

namespace Go.Proofs.Ytkdflgaahhnigaa
open Go.RowKit Go.Shelf

def IK (W : World) (a : Option Addr) (g o n : Nat) (xs : List Int) : Prop := xs.length = n ∧ (xs ≠ [] → a = some ⟨g, o, none⟩) ∧ IntsAt W g o xs ∧ (xs ≠ [] → g < W.heap.size)
theorem IK.cell {W W' : World} {a : Option Addr} {g o n : Nat} {xs : List Int} (h : IK W a g o n xs) (hb : Below W.heap.size W W') {i : Nat} {x : Int} (hi : xs[i]? = some x) : W'.cell? ⟨g, o + i, none⟩ = some (.int .i64 x) := by
  have hne : xs ≠ [] := by rintro rfl; simp at hi
  exact (hb.cell (p := ⟨g, _, none⟩) (h.2.2.2 hne)).trans (h.2.2.1 i x hi)
set_option maxRecDepth 100000 in
set_option maxHeartbeats 2000000 in
theorem ints_any (a1 : Option Addr) (g1 o1 c1 n1 : Nat) (xs : List Int) (a2 : Option Addr) (g2 o2 c2 n2 : Nat) (ys : List Int) (w : World) (h1 : IK w a1 g1 o1 n1 xs) (h2 : IK w a2 g2 o2 n2 ys) (hn : n1 ≤ 1000) (hn2 : n2 ≤ 1000) :
    Calls Try.prog 28 #[.slice a1 n1 c1, .slice a2 n2 c2] w fun e w' => e = .returned (.bool (decide (xs = ys))) ∧ Below w.heap.size w w' := by
  have l1 := h1.1
  have l2 := h2.1
  by_cases hl : n1 = n2
  · subst hl
    have hd := Lib.hid (show (decide (xs = ys)) = decide (xs = ys) from rfl)
    generalize hD : decide (xs = ys) = D at *
    have HD := Lib.hid hD
    have H1 := Lib.hid h1
    have H2 := Lib.hid h2
    have S0 := Lib.hid (KS.start w)
    have L1 := Lib.hid l1
    have L2 := Lib.hid l2
    clear hd hD h1 h2 l1 l2
    go_enter Try.func28, Try.ntmps28
    go_wp2_with fail
    go_loopw [5] (fun y wr => ∃ i : Nat, i ≤ n1 ∧ y = .int .i64 (i : Int) ∧ Hid (xs.take i = ys.take i ∧ KS w [] wr)) (fun y _ => n1 - (intOf y).toNat)
    case atStart => exact ⟨0, Nat.zero_le _, rfl, by simp, S0.out⟩
    case round =>
      clear S0
      obtain ⟨i, hi', rfl, HS⟩ := hrel
      by_cases hil : i < n1
      · obtain ⟨x, hx⟩ : ∃ x, xs[i]? = some x := ⟨xs[i]'(by rw [L1.out]; exact hil), by simp⟩
        obtain ⟨y, hy⟩ : ∃ y, ys[i]? = some y := ⟨ys[i]'(by rw [L2.out]; exact hil), by simp⟩
        have hne1 : xs ≠ [] := by rintro e; rw [e] at hx; simp at hx
        have hne2 : ys ≠ [] := by rintro e; rw [e] at hy; simp at hy
        have e1 := H1.out.2.1 hne1
        have e2 := H2.out.2.1 hne2
        subst e1
        subst e2
        have D0 : ∀ W, KS w [] W → W.cell? ⟨g1, o1 + i, none⟩ = some (.int .i64 x) := fun W h => H1.out.cell h.bel hx
        have D1 : ∀ W, KS w [] W → W.cell? ⟨g2, o2 + i, none⟩ = some (.int .i64 y) := fun W h => H2.out.cell h.bel hy
        have hS := HS.out.2
        have HT := Lib.hid (show x = y → xs.take (i + 1) = ys.take (i + 1) by intro e; rw [List.take_add_one, List.take_add_one, hx, hy, HS.out.1, e])
        have HF := Lib.hid (show ¬ x = y → D = false by
          intro e; rw [← HD.out]
          simp only [decide_eq_false_iff_not]
          rintro rfl
          rw [hx] at hy; cases hy; exact e rfl)
        clear hx hy hne1 hne2 HS
        go_wp2_with fail
        go_region_held3 (KS w [])
          (first | assumption | exact KS.drew (by assumption) | go_keep)
          (first | fail)
        all_goals
          by_cases hxy : x = y
          · have HTT := Lib.hid (HT.out hxy)
            subst hxy
            go_wp2_with fail
            go_roundw
            case rel => exact ⟨i + 1, by omega, by go_num, HTT.out, by first | assumption | exact KS.drew (by assumption)⟩
            case measure => simp [intOf]; omega
          · have hD := HF.out hxy
            subst hD
            have hb : (x != y) = true := by simpa using hxy
            go_wp2_with fail
            go_ret
            exact ⟨rfl, by first | exact KS.bel (w := w) (bs := []) (by assumption) | exact (KS.drew (w := w) (bs := []) (by assumption)).bel⟩
      · obtain rfl : i = n1 := by omega
        have hD : D = true := by
          rw [← HD.out]
          have h := HS.out.1
          rw [List.take_of_length_le (by rw [L1.out]; exact Nat.le_refl _), List.take_of_length_le (by rw [L2.out]; exact Nat.le_refl _)] at h
          simpa using h
        subst hD
        have HB := Lib.hid HS.out.2.bel
        clear HS
        go_wp2_with fail
        go_ret
        exact ⟨rfl, HB.out⟩
  · have hne : decide (xs = ys) = false := by
      simp only [decide_eq_false_iff_not]
      rintro rfl
      exact hl (l1.symm.trans l2)
    rw [hne]
    have p1 : ¬ (n1 : Int) = (n2 : Int) := by omega
    clear h1 h2 hne l1 l2 hl
    go_enter Try.func28, Try.ntmps28
    go_wp2_with fail
    go_ret
    exact ⟨rfl, Below.refl _ _⟩
end Go.Proofs.Ytkdflgaahhnigaa

namespace Go.Proofs.Ytkdflgaahhnigaa
open Go.RowKit Go.Shelf

def four4 : List ByteArray := [nmK, nmC, bs [77, 65, 82, 89], bs [75, 65, 84, 89]]
def tab4 : List (List Nat) := [[0, 2, 10, 2], [2, 0, 10, 4], [10, 10, 0, 8], [2, 4, 8, 0]]
theorem tab4_eq : tabL clkR four4 four4 = tab4 := by
  have h : tabL clkR four4 four4 = four4.map fun x => four4.map fun y => cRS clkR x y := by
    unfold tabL costsL
    simp only [cR_S]
  have k : (four4.map fun x => four4.map fun y => cRS clkR x y) = tab4 := by kernel_rfl
  exact h.trans k
theorem costs4 : costsL clkR nmK four4 = [0, 2, 10, 2] := by
  have h : costsL clkR nmK four4 = four4.map fun y => cRS clkR nmK y := by
    unfold costsL
    simp only [cR_S]
  have k : (four4.map fun y => cRS clkR nmK y) = [0, 2, 10, 2] := by kernel_rfl
  exact h.trans k
theorem lst1 : lstN clkR four4 [nmK] = 0 := by kernel_rfl
theorem lst2 : someN clkR four4 = 0 := by kernel_rfl
theorem near4 : nearV clkR four4 nmK 2 = [0, 1, 3] := by
  have e : nearE clkR four4 nmK 2 = 0 := by unfold nearE; rw [lst1]; rfl
  unfold nearV
  rw [e, if_pos rfl]
  unfold nearL
  rw [costs4]
  have k : Nm.dueL (fun i => ([0, 2, 10, 2] : List Nat).getD i 0) four4.length (2 : Int).toNat = [0, 1, 3] := by kernel_rfl
  exact k
theorem br4 : brN clkR four4 = 8 := by
  unfold brN
  have h : oneG clkR four4 = fun L => decide ((Nm.outer (rT tab4 L) 4 4).1.length = 1) := by
    funext L
    unfold oneG grpL
    rw [tab4_eq]
    rfl
  rw [h]
  have k : brS (fun L => decide ((Nm.outer (rT tab4 L) 4 4).1.length = 1)) 5000 (-1) 5000 = 8 := by kernel_rfl
  exact k
theorem ct4 : ctN clkR four4 = 0 ∧ totN clkR four4 0 = 14 := by
  have h : totN clkR four4 = fun i => (tab4.getD i []).sum := by
    funext i
    unfold totN
    rw [tab4_eq]
  unfold ctN
  rw [h]
  exact ⟨by kernel_rfl, by kernel_rfl⟩
end Go.Proofs.Ytkdflgaahhnigaa

namespace Go.Proofs.Ytkdflgaahhnigaa
open Go.RowKit Go.Shelf

theorem thn4 : Thn clkR := by
  refine ⟨by decide, ?_, by decide⟩
  decide
abbrev CV (b : Nat) : Value := rulesV (some ⟨b, 0, none⟩) 3 3 clkR.soft clkR.al clkR.ot clkR.sk clkR.ss clkR.db
theorem aw_cost (b : Nat) (w : World) (hk : SK w (some ⟨b, 0, none⟩) b 0 clkR.cls) : Calls Try.prog 4 #[CV b, .string nmK, .string nmC] w fun e w' => e = .returned (.tuple #[.int .i64 2, .int .i64 0]) ∧ Below w.heap.size w w' := by
  have h := Cost_any (some ⟨b, 0, none⟩) b 0 3 3 clkR w rfl hk (Nat.le_refl _) thn4 nmK nmC (by decide) (by decide)
  unfold costV at h
  rw [ev2, if_pos rfl, ev1] at h
  exact h
theorem aw_key (b : Nat) (w : World) (hk : SK w (some ⟨b, 0, none⟩) b 0 clkR.cls) : Calls Try.prog 6 #[CV b, .string nmC] w fun e w' => e = .returned (.tuple #[.string ⟨#[67, 68]⟩, .int .i64 0]) ∧ Below w.heap.size w w' := by
  have h := Key_any (some ⟨b, 0, none⟩) b 0 3 3 clkR w rfl hk (Nat.le_refl _) thn4 nmC (by decide)
  have e : chkN clkR [nmC] = 0 := by kernel_rfl
  unfold keyV at h
  rw [e, if_pos rfl, ev3] at h
  exact h
theorem four_le : ∀ y, y ∈ four4 → y.size ≤ 1000 := by decide
theorem aw_near (b d : Nat) (w : World) (hk : SK w (some ⟨b, 0, none⟩) b 0 clkR.cls) (hf : SKn w (some ⟨d, 0, none⟩) d 0 4 4 four4) : Calls Try.prog 12 #[CV b, .slice (some ⟨d, 0, none⟩) 4 4, .string nmK, .int .i64 2] w fun e w' => ∃ v, e = .returned (.tuple #[v, .int .i64 0]) ∧ w'.ownsRow (w.heap.size + 1) 3 1 v 3 (natsV [0, 1, 3]) ∧ Below w.heap.size w w' := by
  have h := Near_any (some ⟨b, 0, none⟩) b 0 3 3 clkR w rfl hk (Nat.le_refl _) thn4 (some ⟨d, 0, none⟩) d 0 4 4 four4 hf (Nat.le_refl _) (by omega) nmK (by decide) 2
  have e : nearE clkR four4 nmK 2 = 0 := by unfold nearE; rw [lst1]; rfl
  rw [e, near4] at h
  exact h
theorem aw_bridge (b d : Nat) (w : World) (hk : SK w (some ⟨b, 0, none⟩) b 0 clkR.cls) (hf : SKn w (some ⟨d, 0, none⟩) d 0 4 4 four4) : Calls Try.prog 13 #[CV b, .slice (some ⟨d, 0, none⟩) 4 4] w fun e w' => e = .returned (.tuple #[.int .i64 8, .int .i64 0]) ∧ Below w.heap.size w w' := by
  have h := Bridge_any (some ⟨b, 0, none⟩) b 0 3 3 clkR w rfl hk (Nat.le_refl _) thn4 (some ⟨d, 0, none⟩) d 0 4 4 four4 hf (Nat.le_refl _) (by omega) four_le
  rw [lst2, if_pos rfl, br4] at h
  exact h
theorem aw_center (b d : Nat) (w : World) (hk : SK w (some ⟨b, 0, none⟩) b 0 clkR.cls) (hf : SKn w (some ⟨d, 0, none⟩) d 0 4 4 four4) : Calls Try.prog 40 #[CV b, .slice (some ⟨d, 0, none⟩) 4 4] w fun e w' => e = .returned (.tuple #[.int .i64 0, .int .i64 14, .int .i64 0]) ∧ Below w.heap.size w w' := by
  have h := Center_any (some ⟨b, 0, none⟩) b 0 3 3 clkR w rfl hk (Nat.le_refl _) thn4 (some ⟨d, 0, none⟩) d 0 4 4 four4 hf (Nat.le_refl _) (by omega) four_le
  rw [lst2, if_pos rfl, if_pos rfl, ct4.1, ct4.2] at h
  exact h
end Go.Proofs.Ytkdflgaahhnigaa

namespace Go.Proofs.Ytkdflgaahhnigaa
open Go.RowKit Go.Shelf

theorem ik_of_row {W : World} {B g c n : Nat} {l : List Nat} (h : W.ownsRow B 3 1 (.slice (some ⟨g, 0, none⟩) n c) n (natsV l)) : IK W (some ⟨g, 0, none⟩) g 0 n (l.map fun (k : Nat) => (k : Int)) := by
  have hl : l.length = n := by simpa [natsV] using h.1
  refine ⟨by simpa using hl, fun _ => rfl, fun i x e => ?_, fun _ => (h.lt g rfl).2⟩
  have hi := (List.getElem?_eq_some_iff.1 e).1
  rw [List.length_map] at hi
  rw [Nat.zero_add, h.cellAt i (by omega), natsV, List.getElem?_map]
  rw [List.getElem?_map] at e
  cases hq : l[i]? with
  | none => rw [hq] at e; simp at e
  | some k => rw [hq] at e; simp at e; subst e; rfl
set_option maxRecDepth 100000 in
set_option maxHeartbeats 4000000 in
theorem awake_any (w : World) : Calls Try.prog 15 #[] w fun e w' => e = .returned (.bool true) ∧ Below w.heap.size w w' := by
  have S := Lib.hid (Below.refl w.heap.size w)
  go_enter Try.func15, Try.ntmps15
  go_wp2_with (first | (go_at_call 5; (refine (clerks_any _).mono ?_); rintro e wA ⟨b, rfl, hk, hb⟩; have HK := Lib.hid hk; have S := Lib.hid (S.out.trans (hb.mono S.out.size)); (try have HV := Lib.hid (row_below HV.out hb)); clear hk hb) | (go_at_call 8; (refine (four_any _).mono ?_); rintro e wB ⟨d, rfl, hf, hb⟩; have HF := Lib.hid hf; have HK := Lib.hid (HK.out.below hb); have S := Lib.hid (S.out.trans (hb.mono S.out.size)); (try have HV := Lib.hid (row_below HV.out hb)); clear hf hb) | (go_at_call 4; (refine (aw_cost b _ HK.out).mono ?_); rintro e wC ⟨rfl, hb⟩; have S := Lib.hid (S.out.trans (hb.mono S.out.size)); (try have HV := Lib.hid (row_below HV.out hb)); clear hb) | (go_at_call 6; (refine (aw_key b _ HK.out).mono ?_); rintro e wC ⟨rfl, hb⟩; have S := Lib.hid (S.out.trans (hb.mono S.out.size)); (try have HV := Lib.hid (row_below HV.out hb)); clear hb) | (go_at_call 12; (refine (aw_near b d _ HK.out HF.out).mono ?_); rintro e wC ⟨v, rfl, hv, hb⟩; have S := Lib.hid (S.out.trans (hb.mono S.out.size)); obtain ⟨vg, vc, rfl⟩ := Joins.ownsRow_form hv (by omega); have HV := Lib.hid hv; clear hb hv) | (go_at_call 13; (refine (aw_bridge b d _ HK.out HF.out).mono ?_); rintro e wC ⟨rfl, hb⟩; have S := Lib.hid (S.out.trans (hb.mono S.out.size)); (try have HV := Lib.hid (row_below HV.out hb)); clear hb) | (go_at_call 40; (refine (aw_center b d _ HK.out HF.out).mono ?_); rintro e wC ⟨rfl, hb⟩; have S := Lib.hid (S.out.trans (hb.mono S.out.size)); (try have HV := Lib.hid (row_below HV.out hb)); clear hb))
  have hV := (HV.out.alloc (.cells #[.int .i64 0, .int .i64 1, .int .i64 3] 3))
  have hL := World.ownsRow_lit (base := 0) (e := 3) (size := 1) wC #[.int .i64 0, .int .i64 1, .int .i64 3] 3 (Nat.zero_le _) (by unfold maxLen; omega) rfl
  refine (ints_any _ vg 0 vc 3 ([0, 1, 3] : List Int) _ wC.heap.size 0 3 3 ([0, 1, 3] : List Int) _ (ik_of_row (l := [0, 1, 3]) hV) (ik_of_row (l := [0, 1, 3]) hL) (by omega) (by omega)).mono ?_
  rintro e wD ⟨rfl, hb⟩
  have SD := Lib.hid (((S.out.alloc S.out.size _)).trans (hb.mono (by have := S.out.size; simp; omega)))
  clear hb hV hL
  go_wp2_with fail
  go_ret
  exact ⟨rfl, SD.out⟩
end Go.Proofs.Ytkdflgaahhnigaa
