/- Texts of this seat, merged. -/
import Derived.Test.YtdfebccmjbocjaaGreatDoorMiG6
import Derived.OwnWalk
import Derived.Test.YtdfebccmjbocjaaGreatDoorMiG1
import Derived.Lib.SmallJoins
import Derived.Deep.RegionHeld3
set_option linter.unusedVariables false
set_option linter.unusedSimpArgs false
namespace Go.Proofs.YtdfebccmjbocjaaGreatDoor.Mi
open Go.RowKit Go.Shelf

/-- are n and the lots right? -/
def drawB (n : Int) (lots : List Int) : Bool := inB n 0 50 && (decide ((lots.length : Int) ≤ n) && lots.all lotB)
set_option maxRecDepth 100000 in
set_option maxHeartbeats 1000000 in
theorem Draw_range (n : Int) (ad : Option Addr) (b o cap : Nat) (xs : List Int) (w : World) (had : xs ≠ [] → ad = some ⟨b, o, none⟩) (hb : xs ≠ [] → b < w.heap.size) (hn : xs.length ≤ 1000) (ha : IntsAt w b o xs) (h : drawB n xs = false) :
    Calls Tryz.prog 21 #[.int .i64 n, .slice ad xs.length cap] w fun e w' => e = .returned (.tuple #[.slice none 0 0, .int .i64 2]) ∧ Below w.heap.size w w' := by
  have C68 := Lib.hid (fun w => within_any n 0 50 w)
  have C71 := Lib.hid (allI_any ad b o cap xs w had hb hn ha)
  unfold drawB at h
  clear had hb ha hn
  generalize xs.all lotB = q at *
  generalize xs.length = k at *
  cases h1 : inB n 0 50 with
  | false =>
    rw [h1] at C68
    clear h h1
    go_enter Tryz.func21, Tryz.ntmps21
    go_wp2_with (go_at_call 54; (with_reducible refine (C68.out _).mono ?_); rintro e w' ⟨rfl, rfl⟩)
    go_ret2
    exact ⟨rfl, Below.refl _ _⟩
  | true =>
    rw [h1] at C68
    by_cases h2 : (k : Int) ≤ n
    · have t1 : decide (n < (k : Int)) = false := by simp; omega
      obtain rfl : q = false := by simpa [h1, h2] using h
      clear h h1
      go_enter Tryz.func21, Tryz.ntmps21
      go_wp2_with (first | (go_at_call 54; (with_reducible refine (C68.out _).mono ?_); rintro e w' ⟨rfl, rfl⟩) | (go_at_call 55; (with_reducible refine C71.out.mono ?_); rintro e w' ⟨rfl, hb⟩; have HB := Lib.hid hb; clear hb))
      go_ret2
      exact ⟨rfl, HB.out⟩
    · have t1 : decide (n < (k : Int)) = true := by simp; omega
      clear h h1
      go_enter Tryz.func21, Tryz.ntmps21
      go_wp2_with (first | (go_at_call 54; (with_reducible refine (C68.out _).mono ?_); rintro e w' ⟨rfl, rfl⟩))
      go_ret2
      exact ⟨rfl, Below.refl _ _⟩
end Go.Proofs.YtdfebccmjbocjaaGreatDoor.Mi
namespace Mis
theorem sorted_drawn (n : Nat) (lots : List Nat) (h : lots.length ≤ n) :
    ((dl n lots lots.length).2.map (fun (x : Nat) => (x : Int))).mergeSort (fun x y => decide (x ≤ y)) = (drawn n lots).map (fun (x : Nat) => (x : Int)) := by
  refine ((List.mergeSort_perm _ _).trans ((drawn_perm n lots h).map _)).eq_of_pairwise (le := (· ≤ ·)) (fun a b _ _ h1 h2 => by omega) ?_ ?_
  · exact (List.pairwise_mergeSort (le := fun x y : Int => decide (x ≤ y)) (by intro a b c; simp; omega) (by intro a b; simp; omega) _).imp (by intro a b h; simpa using h)
  · rw [List.pairwise_map]
    exact (drawn_sorted n lots).imp (by intro a b h; omega)
theorem drawn_len (n : Nat) (lots : List Nat) (h : lots.length ≤ n) : (drawn n lots).length = lots.length := by
  rw [← (drawn_perm n lots h).length_eq]; exact (dl_len n lots _ h).2
theorem drawn_lt {n : Nat} {lots : List Nat} {x : Nat} (h : x ∈ drawn n lots) : x < n := by
  unfold drawn at h; rw [List.mem_filter] at h; exact List.mem_range.1 h.1
/-- how many of the first k are not in l -/
def cnt (l : List Nat) (k : Nat) : Nat := ((List.range k).filter fun x => !decide (x ∈ l)).length
theorem cnt_zero (l : List Nat) : cnt l 0 = 0 := rfl
theorem cnt_in {l : List Nat} {k : Nat} (h : k ∈ l) : cnt l (k+1) = cnt l k := by
  unfold cnt; rw [List.range_succ, List.filter_append]; simp [h]
theorem cnt_out {l : List Nat} {k : Nat} (h : k ∉ l) : cnt l (k+1) = cnt l k + 1 := by
  unfold cnt; rw [List.range_succ, List.filter_append]; simp [h]
theorem cnt_all (n : Nat) (lots : List Nat) (j : Nat) (hj : j ≤ n) : cnt (dl n lots j).2 n = n - j := by
  rw [← (dl_len n lots j hj).1]; unfold cnt; rw [← dl_left n lots j hj]
theorem range_split {k n : Nat} (h : k < n) : ∃ r, List.range n = List.range k ++ k :: r := by
  obtain ⟨d, rfl⟩ : ∃ d, n = k + (d + 1) := ⟨n - k - 1, by omega⟩
  rw [List.range_add]
  refine ⟨(List.range d).map (fun i => k + (i + 1)), ?_⟩
  rw [List.range_succ_eq_map]; simp [Function.comp_def]
theorem left_at (n : Nat) (lots : List Nat) (j k : Nat) (hj : j ≤ n) (hk : k < n) (hkl : k ∉ (dl n lots j).2) : (dl n lots j).1[cnt (dl n lots j).2 k]? = some k := by
  have e := dl_left n lots j hj
  obtain ⟨r, hr⟩ := range_split hk
  rw [hr, List.filter_append, List.filter_cons_of_pos (by simp [hkl])] at e
  rw [e]
  unfold cnt
  rw [List.getElem?_append_right (Nat.le_refl _)]
  simp
end Mis
namespace Go.Proofs.YtdfebccmjbocjaaGreatDoor.Mi
open Go.RowKit Go.Shelf
open Mis (dl drawn)

theorem map_erase {α β : Type} (f : α → β) : ∀ (l : List α) (i : Nat), (l.eraseIdx i).map f = (l.map f).eraseIdx i
  | [], _ => rfl
  | _ :: _, 0 => rfl
  | a :: l, i + 1 => by simp only [List.eraseIdx_cons_succ, List.map_cons, map_erase f l i]
/-- the lots as numbers from 0 on -/
def natsOf (xs : List Int) : List Nat := xs.map Int.toNat
theorem natsOf_len (xs : List Int) : (natsOf xs).length = xs.length := by simp [natsOf]
def intsL (xs : List Nat) : List Int := xs.map fun (x : Nat) => (x : Int)
theorem intsL_len (xs : List Nat) : (intsL xs).length = xs.length := by simp [intsL]
def DrawPost (n : Nat) (xs : List Int) (w : World) (e : Ending) (w' : World) : Prop :=
  ∃ v, e = .returned (.tuple #[v, .int .i64 0]) ∧ w'.ownsRow w.heap.size 3 1 v xs.length ((intsL (drawn n (natsOf xs))).map (Value.int .i64)) ∧ Below w.heap.size w w'
/-- who is left behind j lots -/
def leftI (n : Nat) (xs : List Int) (j : Nat) : List Int := intsL (dl n (natsOf xs) j).1
def outI (n : Nat) (xs : List Int) (j : Nat) : List Int := intsL (dl n (natsOf xs) j).2
theorem leftI_len {n : Nat} {xs : List Int} {j : Nat} (h : j ≤ n) : (leftI n xs j).length = n - j := by
  unfold leftI; rw [intsL_len]; exact (Mis.dl_len n _ j h).1
theorem outI_len {n : Nat} {xs : List Int} {j : Nat} (h : j ≤ n) : (outI n xs j).length = j := by
  unfold outI; rw [intsL_len]; exact (Mis.dl_len n _ j h).2
/-- the lot's place in the row -/
def atI (n : Nat) (xs : List Int) (j : Nat) : Nat := (natsOf xs).getD j 0 % (n - j)
theorem leftI_succ {n : Nat} {xs : List Int} {j : Nat} (h : j < n) : leftI n xs (j + 1) = (leftI n xs j).eraseIdx (atI n xs j) := by
  unfold leftI atI intsL
  rw [show (dl n (natsOf xs) (j + 1)).1 = (dl n (natsOf xs) j).1.eraseIdx ((natsOf xs).getD j 0 % (dl n (natsOf xs) j).1.length) from rfl, (Mis.dl_len n _ j (by omega)).1, map_erase]
theorem outI_succ {n : Nat} {xs : List Int} {j : Nat} (h : j < n) : outI n xs (j + 1) = outI n xs j ++ [(leftI n xs j).getD (atI n xs j) 0] := by
  unfold outI leftI atI intsL
  rw [show (dl n (natsOf xs) (j + 1)).2 = (dl n (natsOf xs) j).2 ++ [(dl n (natsOf xs) j).1.getD ((natsOf xs).getD j 0 % (dl n (natsOf xs) j).1.length) 0] from rfl, (Mis.dl_len n _ j (by omega)).1, List.map_append]
  simp only [List.map_cons, List.map_nil, List.getD_eq_getElem?_getD, List.getElem?_map]
  cases (dl n (natsOf xs) j).1[(natsOf xs)[j]?.getD 0 % (n - j)]? <;> simp
theorem atI_lt {n : Nat} {xs : List Int} {j : Nat} (h : j < n) : atI n xs j < n - j := Nat.mod_lt _ (by omega)
theorem atI_eq {n : Nat} {xs : List Int} {j : Nat} {x : Int} (hx : xs[j]? = some x) (h0 : 0 ≤ x) : x % ((n - j : Nat) : Int) = (atI n xs j : Nat) := by
  unfold atI natsOf
  rw [List.getD_eq_getElem?_getD, List.getElem?_map, hx]
  simp only [Option.map_some, Option.getD_some]
  rw [Int.natCast_emod, Int.toNat_of_nonneg h0]
theorem leftI_zero (n : Nat) (xs : List Int) : leftI n xs 0 = intsL (List.range n) := rfl
theorem outI_zero (n : Nat) (xs : List Int) : outI n xs 0 = [] := rfl
theorem intsL_range_succ (k : Nat) : intsL (List.range (k + 1)) = intsL (List.range k) ++ [(k : Int)] := by
  unfold intsL; rw [List.range_succ, List.map_append]; rfl
theorem out_sorted (n : Nat) (xs : List Int) (h : xs.length ≤ n) : (outI n xs xs.length).mergeSort (fun x y => decide (x ≤ y)) = intsL (drawn n (natsOf xs)) := by
  have := Mis.sorted_drawn n (natsOf xs) (by rw [natsOf_len]; exact h)
  rw [natsOf_len] at this
  exact this

set_option maxRecDepth 100000 in
set_option maxHeartbeats 1000000 in
theorem Draw_ok (n : Nat) (ad : Option Addr) (b o cap : Nat) (xs : List Int) (w : World) (had : xs ≠ [] → ad = some ⟨b, o, none⟩) (hb : xs ≠ [] → b < w.heap.size) (hn : n ≤ 50) (hx : xs.length ≤ n) (ha : IntsAt w b o xs) (hl : xs.all lotB = true) :
    Calls Tryz.prog 21 #[.int .i64 n, .slice ad xs.length cap] w (DrawPost n xs w) := by
  obtain ⟨i0, hi, hz0, hz1, hz2⟩ := info_parts tInfo3
  have C68 := Lib.hid (fun w => within_any n 0 50 w)
  rw [show inB (n : Int) 0 50 = true by simp [inB]; omega] at C68
  have C71 := Lib.hid (allI_any ad b o cap xs w had hb (by omega) ha)
  rw [hl] at C71
  have HA := Lib.hid ha
  have HAD := Lib.hid had
  have HBL := Lib.hid hb
  have HL := Lib.hid (List.all_eq_true.1 hl)
  have hN : ∃ k, k = xs.length := ⟨_, rfl⟩
  obtain ⟨m, hN⟩ := hN
  have HN := Lib.hid hN
  rw [← hN] at hx C71 ⊢
  clear had hb ha hl hN
  have t1 : decide (n < m) = false := by simp; omega
  go_enter Tryz.func21, Tryz.ntmps21
  go_wp2_with (first | (go_at_call 54; (with_reducible refine (C68.out _).mono ?_); rintro e w' ⟨rfl, rfl⟩) | (go_at_call 55; (with_reducible refine C71.out.mono ?_); rintro e w1 ⟨rfl, hb⟩; have HB1 := Lib.hid hb; clear hb))
  clear C68 C71
  have HW1 := HB1.out.size
  go_loopw [7, 29] (fun v i wr => ∃ k : Nat, k ≤ n ∧ i = .int .i64 k ∧ wr.ownsRow w.heap.size 3 1 v k ((intsL (List.range k)).map (Value.int .i64)) ∧ Below w.heap.size w wr) (fun _ i _ => n - (intOf i).toNat)
  case atStart => exact ⟨0, Nat.zero_le _, rfl, World.ownsRow_nil _ _ _ _, HB1.out⟩
  case round =>
    obtain ⟨k, hk, rfl, hown, hB⟩ := hrel
    have HO := Lib.hid hown
    have HB := Lib.hid hB
    have hs := hB.size
    clear hown hB
    by_cases hlt : k < n
    · go_wp2_with (at_builtin; refine wpList_append_own _ rfl _ _ 41 rfl w.heap.size 3 i0 (.int .i64 0) 1 8 Tryz.underlying41 hi hz0 hz1 hz2 rfl (by decide) _ _ _ rfl (HO.out.alloc _) ⟨wr.heap.size, 0, none⟩ 1 1 [.int .i64 k] rfl rfl (cell_one_new _ _ _) (by simp [Value.oneCell']) (by unfold maxLen; omega) (by omega) (by simp; omega) ?_; intro v' w2 hown' hgrow _; have HO2 := Lib.hid hown'; have HG := Lib.hid hgrow; clear hown' hgrow)
      go_roundw
      case rel =>
        refine ⟨k + 1, by omega, by go_num, ?_, ?_⟩
        · rw [intsL_range_succ, List.map_append]; exact HO2.out
        · exact (HB.out.alloc hs _).grown HG.out (by simp; omega) (fun j e => (HO.out.lt j e).1)
      case measure => simp [intOf]; omega
    · obtain rfl : n = k := by omega
      go_wp2_with fail
      have hsz : ∃ B2, B2 = wr.heap.size := ⟨_, rfl⟩
      obtain ⟨B2, hB2⟩ := hsz
      have HB2 := Lib.hid hB2
      have hw2 : w.heap.size ≤ B2 := by omega
      have S7 : u7 = u7 := rfl
      clear S7 hs hB2 hlt hk
      go_loopw [7, 8, 39] (fun v o i W => ∃ j : Nat, j ≤ m ∧ i = .int .i64 j ∧ W.ownsRow w.heap.size 3 1 v (n - j) ((leftI n xs j).map (Value.int .i64)) ∧ (∀ g, v.ownBlock = some g → g < B2) ∧ W.ownsRow B2 3 1 o j ((outI n xs j).map (Value.int .i64)) ∧ Below w.heap.size w W ∧ B2 ≤ W.heap.size) (fun _ _ i _ => m - (intOf i).toNat)
      case atStart => exact ⟨0, Nat.zero_le _, rfl, HO.out, fun g h => by rw [HB2.out]; exact (HO.out.lt g h).2, World.ownsRow_nil _ _ _ _, HB.out, by rw [HB2.out]; exact Nat.le_refl _⟩
      case round =>
        obtain ⟨j, hj, rfl, hleft, hlt2, hout, hB', hsz⟩ := hrel
        clear HO HB HB2
        have HLT := Lib.hid hlt2
        have HOU := Lib.hid hout
        have HB := Lib.hid hB'
        have hs := hB'.size
        clear hlt2 hout hB'
        by_cases hlt : j < m
        · obtain ⟨x, hxj⟩ : ∃ x, xs[j]? = some x := ⟨xs[j]'(by rw [← HN.out]; exact hlt), by simp⟩
          have hne : xs ≠ [] := by rintro rfl; simp at hxj
          have e1 := HAD.out hne
          subst e1
          have hbw := HBL.out hne
          have x0 : 0 ≤ x := by
            have := HL.out x (List.mem_of_getElem? hxj)
            simpa [lotB] using this
          have k0 : wr.cell? ⟨b, o + j, none⟩ = some (.int .i64 x) := (HB.out.cell (p := ⟨b, _, none⟩) hbw).trans (HA.out j x hxj)
          obtain ⟨q, hq⟩ : ∃ q, n - j = q + 1 := ⟨n - j - 1, by omega⟩
          have hat := atI_eq (n := n) hxj x0
          have hpl := atI_lt (xs := xs) (show j < n by omega)
          have SL := Lib.hid (leftI_succ (xs := xs) (show j < n by omega))
          have SO := Lib.hid (outI_succ (xs := xs) (show j < n by omega))
          have LL := leftI_len (xs := xs) (show j ≤ n by omega)
          rw [hq] at hleft hat hpl LL
          obtain ⟨g, cap', rfl⟩ := ownsRow_succ hleft
          have hg2 := HLT.out g rfl
          generalize leftI n xs j = zs at *
          generalize atI n xs j = p at *
          have k1 : wr.cell? ⟨g, p, none⟩ = some (.int .i64 (zs.getD p 0)) := by
            rw [hleft.cellAt p (by omega), List.getElem?_map, List.getElem?_eq_getElem (by omega), List.getD_eq_getElem?_getD, List.getElem?_eq_getElem (by omega)]; rfl
          generalize zs.getD p 0 = y at *
          have HLE := Lib.hid hleft
          have HXJ := Lib.hid hxj
          have HNE := Lib.hid hne
          have HQ := Lib.hid hq
          have hmod : x % ((q : Int) + 1) = (p : Int) := by rw [← hat]; congr 1
          have D := Lib.hid (show ∀ (W : World) (h : W.ownsRow w.heap.size 3 1 (.slice (some ⟨g, 0, none⟩) (q + 1) cap') (q + 1) (zs.map (Value.int .i64))), Calls Tryz.prog 56 #[.slice (some ⟨g, 0, none⟩) (q + 1) cap', .int .i64 p, .int .i64 ((p : Int) + 1)] W fun e w' => e = .returned (.slice (some ⟨g, 0, none⟩) q cap') ∧ w'.ownsRow w.heap.size 3 1 (.slice (some ⟨g, 0, none⟩) q cap') q ((zs.eraseIdx p).map (Value.int .i64)) ∧ W.grownBy w' (some g) from fun W h => delete_own h hpl)
          have hq50 : q < 50 := by omega
          clear hleft hxj hne hq hat LL
          go_wp2_with (first
            | (at_builtin; refine wpList_append_own _ rfl _ _ 41 rfl B2 3 i0 (.int .i64 0) 1 8 Tryz.underlying41 hi hz0 hz1 hz2 rfl (by decide) _ _ _ rfl (HOU.out.alloc _) ⟨wr.heap.size, 0, none⟩ 1 1 [.int .i64 y] rfl rfl (cell_one_new _ _ _) (by simp [Value.oneCell']) (by unfold maxLen; omega) (by omega) (by simp; omega) ?_; intro v' w2 hown' hgrow _; have HL2 := Lib.hid ((HLE.out.alloc _).kept hgrow (.inr (fun e => by have h1 := HOU.out.lt g e.symm; omega))); have HO2 := Lib.hid hown'; have HG := Lib.hid hgrow; clear hown' hgrow)
            | (go_at_call 56; (with_reducible refine (D.out _ HL2.out).mono ?_); rintro e w3 ⟨rfl, hl3, hg3⟩; have HL3 := Lib.hid hl3; have HG3 := Lib.hid hg3; clear hl3 hg3))
          have hs2 := HG.out.size
          have g0 : w.heap.size ≤ g := (HLE.out.lt g rfl).1
          have hg4 : B2 ≤ w2.heap.size := by simp at hs2; omega
          go_roundw
          case rel =>
            refine ⟨j + 1, by omega, by go_num, ?_, ?_, ?_, ?_, ?_⟩
            · rw [SL.out, show n - (j + 1) = q by have := HQ.out; omega]; exact HL3.out
            · intro g' e; cases e; exact hg2
            · rw [SO.out, List.map_append]
              refine HO2.out.kept HG3.out (.inr fun e => ?_)
              have h1 := HO2.out.lt g e
              omega
            · exact ((HB.out.alloc hs _).grown HG.out (by simp; omega) (fun i e => by have := (HOU.out.lt i e).1; omega)).grown HG3.out (by omega) (fun i e => by cases e; exact g0)
            · exact Nat.le_trans hg4 HG3.out.size
          case measure => simp [intOf]; omega
        · obtain rfl : m = j := by omega
          have hout := HOU.out
          have hsort := out_sorted n xs (by rw [← HN.out]; exact hx)
          rw [← HN.out] at hsort
          rcases Joins.ownsRow_forms hout with ⟨rfl, h0⟩ | ⟨g, cap', rfl⟩
          · have S0 := Lib.hid hsort
            have H0 := Lib.hid h0
            clear hsort h0 hout
            go_wp2_with (go_at_call 57; (with_reducible refine (sort_nil _).mono ?_); rintro e w3 ⟨rfl, rfl⟩)
            go_ret2
            refine ⟨_, rfl, ?_, HB.out⟩
            have h0 := H0.out
            have e1 : intsL (drawn n (natsOf xs)) = [] := by
              apply List.eq_nil_of_length_eq_zero
              rw [intsL_len, Mis.drawn_len n _ (by rw [natsOf_len, ← HN.out]; exact hx), natsOf_len, ← HN.out, h0]
            rw [e1, ← HN.out, h0]
            exact World.ownsRow_nil _ _ _ _
          · have S0 := Lib.hid hsort
            have C73 := Lib.hid (sort_own hout (by omega))
            clear hsort hout
            go_wp2_with (go_at_call 57; (with_reducible refine C73.out.mono ?_); rintro e w3 ⟨rfl, hr3, hg3⟩; have HR3 := Lib.hid hr3; have HG3 := Lib.hid hg3; clear hr3 hg3)
            go_ret2
            refine ⟨_, rfl, ?_, ?_⟩
            · rw [← S0.out, ← HN.out]; exact Joins.ownsRow_le HR3.out hw2
            · exact HB.out.grown HG3.out hs (fun i e => by cases e; have := (HR3.out.lt g rfl).1; omega)

theorem Draw_any (n : Int) (ad : Option Addr) (b o cap : Nat) (xs : List Int) (w : World) (had : xs ≠ [] → ad = some ⟨b, o, none⟩) (hb : xs ≠ [] → b < w.heap.size) (hn : xs.length ≤ 1000) (ha : IntsAt w b o xs) :
    Calls Tryz.prog 21 #[.int .i64 n, .slice ad xs.length cap] w fun e w' => (drawB n xs = false ∧ e = .returned (.tuple #[.slice none 0 0, .int .i64 2]) ∧ Below w.heap.size w w') ∨ (drawB n xs = true ∧ DrawPost n.toNat xs w e w') := by
  cases h : drawB n xs with
  | false => exact (Draw_range n ad b o cap xs w had hb hn ha h).mono fun e w' h => .inl ⟨rfl, h⟩
  | true =>
    unfold drawB at h
    rw [Bool.and_eq_true, Bool.and_eq_true] at h
    obtain ⟨h1, h2, h3⟩ := h
    obtain ⟨h4, h5⟩ := inB_iff.1 h1
    obtain ⟨k, rfl⟩ : ∃ k : Nat, n = k := ⟨n.toNat, by omega⟩
    exact (Draw_ok k ad b o cap xs w had hb (by omega) (by simpa using h2) ha h3).mono fun e w' h => .inr ⟨rfl, h⟩
end Go.Proofs.YtdfebccmjbocjaaGreatDoor.Mi
namespace Go.Proofs.YtdfebccmjbocjaaGreatDoor.Mi
open Go.RowKit Go.Shelf

end Go.Proofs.YtdfebccmjbocjaaGreatDoor.Mi
namespace Go.Proofs.YtdfebccmjbocjaaGreatDoor.Mi
open Go.RowKit Go.Shelf
open Mis (ch sets tot sm low up)

def okA (l M s f : Nat) : Prop := l + M ≤ 50 ∧ s ≤ l ∧ f ≤ s
theorem okA.b {l M s f : Nat} (h : okA l M s f) : areaB l M s f = true := by
  unfold okA at h; simp [areaB, perB, inB]; omega
theorem okA.of {L M S F : Int} (h : areaB L M S F = true) : ∃ l m s f : Nat, L = l ∧ M = m ∧ S = s ∧ F = f ∧ okA l m s f := by
  obtain ⟨h1, h2, h3, h4, h5, h6, h7⟩ := area_nat h
  exact ⟨_, _, _, _, h1, h2, h3, h4, h5, h6, h7⟩
theorem inU {u M : Nat} (h : u ≤ M) : inB (u : Int) 0 (M : Int) = true := by simp [inB]; omega
theorem bigT {l u s : Nat} (h : l + u ≤ 50) : tot l u s ≤ 4611686018427387904 := Nat.le_trans (tot_le l u s h) (by omega)
/-- what a tail's chance is -/
def ChPost (N D : Nat) (w : World) (e : Ending) (w' : World) : Prop := e = .returned (.tuple #[lowV N D, .int .i64 0]) ∧ Below w.heap.size w w'
def ChBad (r : Int) (w : World) (e : Ending) (w' : World) : Prop := e = .returned (.tuple #[fracV 0 0, .int .i64 r]) ∧ Below w.heap.size w w'
theorem Chance_ok {l M s f : Nat} (h : okA l M s f) {u : Nat} (hu : u ≤ M) (w : World) : Calls Tryz.prog 22 #[areaV l M s f, .int .i64 u] w (ChPost (sm (sets l u s) f 1) (tot l u s) w) := by
  have hb := h.b
  obtain ⟨h1, h2, h3⟩ := h
  exact Chance_walk l M s f u _ _ 0 w fun w => asked_ok M l u s f _ _ _ 59 rfl w hb (inU hu) (says_point M l u s f (by omega) h2 h3) (Mis.tot_pos l u s h2) (Nat.le_trans (num_le l s f u h3) (bigT (by omega))) (bigT (by omega))
theorem Chance_arg {L M S F : Int} (u : Int) (w : World) (h : areaB L M S F = false) : Calls Tryz.prog 22 #[areaV L M S F, .int .i64 u] w (ChBad 1 w) :=
  Chance_walk L M S F u 0 0 1 w fun w => asked_arg L M S F u _ 59 rfl w h
theorem Chance_range {L M S F u : Int} (w : World) (h : areaB L M S F = true) (hu : inB u 0 M = false) : Calls Tryz.prog 22 #[areaV L M S F, .int .i64 u] w (ChBad 2 w) :=
  Chance_walk L M S F u 0 0 2 w fun w => asked_range L M S F u _ 59 rfl w h hu
/-- an owned row of numbers is a row of numbers -/
theorem ownsRow_ints {w : World} {base n g cap : Nat} {xs : List Int} (h : w.ownsRow base 3 1 (.slice (some ⟨g, 0, none⟩) n cap) n (xs.map (Value.int .i64))) : IntsAt w g 0 xs := fun i a e => by
  have hl : (xs.map (Value.int .i64)).length = n * 1 := h.1
  have hi : i < xs.length := (List.getElem?_eq_some_iff.1 e).1
  rw [Nat.zero_add, h.cellAt i (by simp at hl; omega), List.getElem?_map, e]; rfl
theorem intsV_eq (xs : List Nat) : intsV xs = (intsL xs).map (Value.int .i64) := by simp [intsV, intsL]
end Go.Proofs.YtdfebccmjbocjaaGreatDoor.Mi
namespace Go.Proofs.YtdfebccmjbocjaaGreatDoor.Mi
open Go.RowKit Go.Shelf
open Mis (ch sets tot sm low up)

theorem Blk.b {W W' : World} {b : Nat} {cs : Array Value} {t : TypeId} (h : Blk W b cs t) (hb : Below W.heap.size W W') : Blk W' b cs t := h.below hb h.lt
/-- a list of numbers that the call owns: its block, its cells -/
def Got (W : World) (base g cap : Nat) (xs : List Int) : Prop := W.ownsRow base 3 1 (.slice (some ⟨g, 0, none⟩) xs.length cap) xs.length (xs.map (Value.int .i64))
theorem aw1 (w : World) : Calls Tryz.prog 22 #[areaV 10 5 4 3, .int .i64 3] w fun e w' => e = .returned (.tuple #[fracV 72 143, .int .i64 0]) ∧ Below w.heap.size w w' := by
  have h := Chance_ok (l := 10) (M := 5) (s := 4) (f := 3) (by unfold okA; decide) (u := 3) (by decide) w
  have e : lowV (sm (sets 10 3 4) 3 1) (tot 10 3 4) = fracV 72 143 := by
    have h1 : sm (sets 10 3 4) 3 1 / Nat.gcd (sm (sets 10 3 4) 3 1) (tot 10 3 4) = 72 := by decide +kernel
    have h2 : tot 10 3 4 / Nat.gcd (sm (sets 10 3 4) 3 1) (tot 10 3 4) = 143 := by decide +kernel
    unfold lowV; rw [h1, h2]; rfl
  unfold ChPost at h
  rw [e] at h
  exact h
theorem aw4 (w : World) : Calls Tryz.prog 23 #[areaV 10 5 4 3, fracV 2 5] w fun e w' => e = .returned (.tuple #[rangeV 2 5, .int .i64 0]) ∧ Below w.heap.size w w' := by
  have h := Missed_any 10 5 4 3 2 5 w
  unfold TotalPost at h
  have e : totRes [⟨10, 5, 4, 3⟩] 2 5 = (2, 5, 0) := by decide +kernel
  rw [e] at h
  exact h
theorem aw6 (g cap : Nat) (w : World) (hg : g < w.heap.size) (h : IntsAt w g 0 [7, 0, 2]) : Calls Tryz.prog 21 #[.int .i64 5, .slice (some ⟨g, 0, none⟩) 3 cap] w fun e w' => ∃ g cap, e = .returned (.tuple #[.slice (some ⟨g, 0, none⟩) 3 cap, .int .i64 0]) ∧ Got w' w.heap.size g cap [0, 2, 4] ∧ Below w.heap.size w w' := by
  refine (Draw_ok 5 (some ⟨g, 0, none⟩) g 0 cap [7, 0, 2] w (fun _ => rfl) (fun _ => hg) (by decide) (by decide) h (by decide)).mono ?_
  rintro e w' ⟨v, rfl, h3, h4⟩
  have e1 : Mis.drawn 5 (natsOf [7, 0, 2]) = [0, 2, 4] := by decide +kernel
  rw [e1] at h3
  obtain ⟨g, cap, rfl⟩ := ownsRow_succ (k := 2) h3
  exact ⟨g, cap, rfl, h3, h4⟩
/-- three numbers laid down -/
theorem ints3 (w : World) (a b c : Int) (t : TypeId) : IntsAt (w.alloc (.cells #[.int .i64 a, .int .i64 b, .int .i64 c] t)) w.heap.size 0 [a, b, c] := fun i x e => by
  have h := Blk.new w #[.int .i64 a, .int .i64 b, .int .i64 c] t
  match i, e with
  | 0, e => simp at e; subst e; exact h.cell 0
  | 1, e => simp at e; subst e; exact h.cell 1
  | 2, e => simp at e; subst e; exact h.cell 2
theorem ints1 (w : World) (a : Int) (t : TypeId) : IntsAt (w.alloc (.cells #[.int .i64 a] t)) w.heap.size 0 [a] := fun i x e => by
  have h := Blk.new w #[.int .i64 a] t
  match i, e with
  | 0, e => simp at e; subst e; exact h.cell 0

/-- what is kept through awake's last statement -/
def AwS (w : World) (bc bt bm g6 g12 : Nat) (W : World) : Prop :=
  Blk W bc #[.int .i64 72, .int .i64 143] 70 ∧ Blk W bt #[.int .i64 19, .int .i64 33] 70 ∧ Blk W bm #[.int .i64 2, .int .i64 5] 73 ∧ (IntsAt W g6 0 [3] ∧ g6 < W.heap.size) ∧ (IntsAt W g12 0 [0, 2, 4] ∧ g12 < W.heap.size) ∧ Below w.heap.size w W
section
variable {w W W' : World} {bc bt bm g6 g12 : Nat}
theorem AwS.below (h : AwS w bc bt bm g6 g12 W) (hb : Below W.heap.size W W') : AwS w bc bt bm g6 g12 W' := by
  obtain ⟨h1, h2, h3, ⟨h4, h5⟩, ⟨h6, h7⟩, h8⟩ := h
  have := hb.size
  exact ⟨h1.b hb, h2.b hb, h3.b hb, ⟨h4.below hb h5, by omega⟩, ⟨h6.below hb h7, by omega⟩, h8.trans (hb.mono h8.size)⟩
theorem AwS.drewN (h : AwS w bc bt bm g6 g12 W) (q : Nat) : AwS w bc bt bm g6 g12 (W.drewN q) := h.below ((Below.refl _ _).drewN' q)
theorem AwS.drew (h : AwS w bc bt bm g6 g12 W) : AwS w bc bt bm g6 g12 W.drew := h.below (Below.refl _ _).drew
theorem AwS.alloc (h : AwS w bc bt bm g6 g12 W) (o : Obj) : AwS w bc bt bm g6 g12 (W.alloc o) := h.below ((Below.refl _ _).alloc (Nat.le_refl _) o)
theorem AwS.r6 (h : AwS w bc bt bm g6 g12 W) : IntsAt W g6 0 [3] := h.2.2.2.1.1
theorem AwS.r12 (h : AwS w bc bt bm g6 g12 W) : IntsAt W g12 0 [0, 2, 4] := h.2.2.2.2.1.1
theorem AwS.bel (h : AwS w bc bt bm g6 g12 W) : Below w.heap.size w W := h.2.2.2.2.2
theorem AwS.c1 (h : AwS w bc bt bm g6 g12 W) : W.cell? ⟨bc, 0, none⟩ = some (.int .i64 72) := h.1.cell 0
theorem AwS.c2 (h : AwS w bc bt bm g6 g12 W) : W.cell? ⟨bc, 1, none⟩ = some (.int .i64 143) := h.1.cell 1
theorem AwS.c3 (h : AwS w bc bt bm g6 g12 W) : W.cell? ⟨bt, 0, none⟩ = some (.int .i64 19) := h.2.1.cell 0
theorem AwS.c4 (h : AwS w bc bt bm g6 g12 W) : W.cell? ⟨bt, 1, none⟩ = some (.int .i64 33) := h.2.1.cell 1
theorem AwS.c5 (h : AwS w bc bt bm g6 g12 W) : W.cell? ⟨bm, 0, none⟩ = some (.int .i64 2) := h.2.2.1.cell 0
theorem AwS.c6 (h : AwS w bc bt bm g6 g12 W) : W.cell? ⟨bm, 1, none⟩ = some (.int .i64 5) := h.2.2.1.cell 1
end

end Go.Proofs.YtdfebccmjbocjaaGreatDoor.Mi
namespace Go.Proofs.YtdfebccmjbocjaaGreatDoor.Mi
open Go.RowKit Go.Shelf

/-- the blocks bs are in W as told, and below w nothing has turned -/
def KS (w : World) (bs : List (Nat × Array Value × TypeId)) (W : World) : Prop := (∀ x, x ∈ bs → Blk W x.1 x.2.1 x.2.2) ∧ Below w.heap.size w W
section
variable {w W W' : World} {bs : List (Nat × Array Value × TypeId)}
theorem KS.start (w : World) : KS w [] w := ⟨fun _ h => (by cases h), Below.refl _ _⟩
theorem KS.bel (h : KS w bs W) : Below w.heap.size w W := h.2
theorem KS.below (h : KS w bs W) (hb : Below W.heap.size W W') : KS w bs W' := ⟨fun x hx => (h.1 x hx).b hb, h.2.trans (hb.mono h.2.size)⟩
theorem KS.alloc (h : KS w bs W) (o : Obj) : KS w bs (W.alloc o) := h.below ((Below.refl _ _).alloc (Nat.le_refl _) o)
theorem KS.drew (h : KS w bs W) : KS w bs W.drew := h.below (Below.refl _ _).drew
theorem KS.drewN (h : KS w bs W) (q : Nat) : KS w bs (W.drewN q) := h.below ((Below.refl _ _).drewN' q)
theorem KS.new (h : KS w bs W) (cs : Array Value) (t : TypeId) : KS w ((W.heap.size, cs, t) :: bs) (W.alloc (.cells cs t)) :=
  ⟨fun x hx => by
    rcases List.mem_cons.1 hx with rfl | hx
    · exact Blk.new _ _ _
    · exact (h.alloc _).1 x hx, (h.alloc _).2⟩
theorem KS.blk (h : KS w bs W) {x : Nat × Array Value × TypeId} (hx : x ∈ bs) : Blk W x.1 x.2.1 x.2.2 := h.1 x hx
theorem KS.blkAt (h : KS w bs W) (i : Nat) {b : Nat} {cs : Array Value} {t : TypeId} (hx : bs[i]? = some (b, cs, t)) : Blk W b cs t := h.1 _ (List.mem_of_getElem? hx)
theorem KS.sub (h : KS w bs W) {bs' : List (Nat × Array Value × TypeId)} (hx : ∀ x, x ∈ bs' → x ∈ bs) : KS w bs' W := ⟨fun x h' => h.1 x (hx x h'), h.2⟩
theorem KS.size (h : KS w bs W) : w.heap.size ≤ W.heap.size := h.2.size
theorem KS.lt (h : KS w bs W) (i : Nat) {b : Nat} {cs : Array Value} {t : TypeId} (hx : bs[i]? = some (b, cs, t)) : b < W.heap.size := (h.blkAt i hx).lt
end
end Go.Proofs.YtdfebccmjbocjaaGreatDoor.Mi
namespace Go.Proofs.YtdfebccmjbocjaaGreatDoor.Mi
open Go.RowKit Go.Shelf

/-- the kept blocks, and a new one apart from them -/
def KZ (w : World) (bs : List (Nat × Array Value × TypeId)) (b : Nat) (cs : Array Value) (t : TypeId) (W : World) : Prop := KS w bs W ∧ Blk W b cs t ∧ (∀ x, x ∈ bs → x.1 < b) ∧ w.heap.size ≤ b
section
variable {w W W' : World} {bs : List (Nat × Array Value × TypeId)} {b : Nat} {cs : Array Value} {t : TypeId}
theorem KS.ltAll (h : KS w bs W) : ∀ x, x ∈ bs → x.1 < W.heap.size := fun x hx => (h.1 x hx).lt
theorem KZ.new (h : KS w bs W) (cs : Array Value) (t : TypeId) : KZ w bs W.heap.size cs t (W.alloc (.cells cs t)) := ⟨h.alloc _, Blk.new _ _ _, h.ltAll, h.size⟩
theorem KZ.newD (h : KS w bs W) (cs : Array Value) (t : TypeId) : KZ w bs W.heap.size cs t (W.alloc (.cells cs t)).drew := ⟨(h.alloc _).drew, Blk.new _ _ _, h.ltAll, h.size⟩
theorem KZ.below (h : KZ w bs b cs t W) (hb : Below W.heap.size W W') : KZ w bs b cs t W' := ⟨h.1.below hb, h.2.1.b hb, h.2.2⟩
theorem KZ.drew (h : KZ w bs b cs t W) : KZ w bs b cs t W.drew := ⟨h.1.drew, h.2.1, h.2.2⟩
theorem KZ.ks (h : KZ w bs b cs t W) : KS w bs W := h.1
theorem KZ.all (h : KZ w bs b cs t W) : KS w ((b, cs, t) :: bs) W := ⟨fun x hx => by
  rcases List.mem_cons.1 hx with rfl | hx
  · exact h.2.1
  · exact h.1.1 x hx, h.1.2⟩
theorem KS.setOff (h : KS w bs W) {a : Addr} (ha : w.heap.size ≤ a.block) (hne : ∀ x, x ∈ bs → x.1 ≠ a.block) (v : Value) : KS w bs (W.setCell a v) := ⟨fun x hx => (h.1 x hx).other (hne x hx) v, h.2.setCell ha v⟩
theorem KZ.set (h : KZ w bs b cs t W) (i : Nat) (v : Value) : KZ w bs b (cs.setIfInBounds i v) t (W.setCell ⟨b, i, none⟩ v) :=
  ⟨h.1.setOff h.2.2.2 (fun x hx => Nat.ne_of_lt (h.2.2.1 x hx)) v, h.2.1.set i v, h.2.2⟩
theorem KZ.set2 {x y x' y' : Value} (h : KZ w bs b #[x, y] t W) : KS w ((b, #[x', y'], t) :: bs) ((W.setCell ⟨b, 0, none⟩ x').setCell ⟨b, 1, none⟩ y') := by
  have h1 := ((h.set 0 x').set 1 y').all
  exact h1
theorem KZ.set2D {x y x' y' : Value} (h : KZ w bs b #[x, y] t W) : KS w ((b, #[x', y'], t) :: bs) ((W.drew.setCell ⟨b, 0, none⟩ x').setCell ⟨b, 1, none⟩ y') := h.drew.set2
theorem KZ.keep2 {x y x' y' : Value} (h : KZ w bs b #[x, y] t W) : KS w bs ((W.setCell ⟨b, 0, none⟩ x').setCell ⟨b, 1, none⟩ y') := ((h.set 0 x').set 1 y').ks
theorem KZ.c0 {x y : Value} (h : KZ w bs b #[x, y] t W) : W.cell? ⟨b, 0, none⟩ = some x := h.2.1.cell 0
theorem KZ.c1 {x y : Value} (h : KZ w bs b #[x, y] t W) : W.cell? ⟨b, 1, none⟩ = some y := h.2.1.cell 1
theorem KZ.f (h : KZ w bs b cs t W) (i : Nat) : W.frozen? ⟨b, i, none⟩ = false := h.2.1.frozen i
end

/-- the ways through a region meet again -/
theorem wp_join {P : Program} {code : Code} {Q : Exit → Act → World → Prop} {a : Act} {W : World} (f : Act → Nat → Act) (mid : Nat → World → Prop)
    (h1 : code.wp P (fun e a' W' => e = .normal ∧ ∃ b, a' = f a b ∧ mid b W') a W) (h2 : ∀ b W', mid b W' → Q .normal (f a b) W') : code.wp P Q a W :=
  Code.wp_mono (fun e a' W' h => by obtain ⟨rfl, b, rfl, hm⟩ := h; exact h2 b W' hm) h1
end Go.Proofs.YtdfebccmjbocjaaGreatDoor.Mi
namespace Go.Proofs.YtdfebccmjbocjaaGreatDoor.Mi
open Go.RowKit
open Mis (lower)

theorem meas_lt {W W' : World} {b1 b2 q p b d : Nat} {t : TypeId} {x0 x1 y0 y1 : Value} (f1 : Blk W' b1 #[x0, .int .i64 q] t) (f2 : Blk W' b2 #[x1, .int .i64 p] t) (g1 : Blk W b1 #[y0, .int .i64 b] t) (g2 : Blk W b2 #[y1, .int .i64 d] t) (h : q + p < b + d) :
    (intOf ((W'.cell? ⟨b1, 1, none⟩).getD undef)).toNat + (intOf ((W'.cell? ⟨b2, 1, none⟩).getD undef)).toNat < (intOf ((W.cell? ⟨b1, 1, none⟩).getD undef)).toNat + (intOf ((W.cell? ⟨b2, 1, none⟩).getD undef)).toNat := by
  rw [f1.cell 1, f2.cell 1, g1.cell 1, g2.cell 1]
  simp [intOf]; omega
end Go.Proofs.YtdfebccmjbocjaaGreatDoor.Mi
namespace Go.Proofs.YtdfebccmjbocjaaGreatDoor.Mi
open Go.RowKit Go.Shelf
open Mis (ch sets tot sm low up lower excl)

theorem okA.pos {l M s f : Nat} (h : okA l M s f) (u : Nat) : 0 < tot l u s := Mis.tot_pos l u s h.2.1
theorem okA.big {l M s f : Nat} (h : okA l M s f) {u : Nat} (hu : u ≤ M) : tot l u s ≤ 4611686018427387904 := bigT (by obtain ⟨h1, _, _⟩ := h; omega)
theorem okA.low {l M s f : Nat} (h : okA l M s f) {u : Nat} (hu : u ≤ M) : Mis.low l u s f ≤ 4611686018427387904 := Nat.le_trans (Mis.low_le l u s f h.2.2) (h.big hu)
theorem okA.up {l M s f : Nat} (h : okA l M s f) {u : Nat} (hu : u ≤ M) : Mis.up l u s f ≤ 4611686018427387904 := Nat.le_trans (Mis.up_le l u s f h.2.2) (h.big hu)
theorem okA.point {l M s f : Nat} (h : okA l M s f) {u : Nat} (hu : u ≤ M) : sm (sets l u s) f 1 ≤ 4611686018427387904 := Nat.le_trans (num_le l s f u h.2.2) (h.big hu)

end Go.Proofs.YtdfebccmjbocjaaGreatDoor.Mi
namespace Go.Proofs.YtdfebccmjbocjaaGreatDoor.Mi
open Go.RowKit Go.Shelf
open Mis (ch sets tot sm low up lower excl rng)

def rLo : Option (Nat × Nat) → Int | none => 151 | some r => r.1
def rHi : Option (Nat × Nat) → Int | none => -1 | some r => r.2
def rIs : Option (Nat × Nat) → Bool | none => false | some _ => true
theorem rng_in {p : Nat → Bool} {k : Nat} (hp : p k = true) (hk : k ≤ 50) : min (rLo (rng p k)) (k : Int) = rLo (rng p (k + 1)) ∧ rHi (rng p (k + 1)) = k := by
  rw [rng, if_pos hp]
  cases h : rng p k with
  | none => simp [rLo, rHi]; omega
  | some r =>
    obtain ⟨_, _, h3, h4, _⟩ := Mis.rng_some p k r.1 r.2 h
    simp [rLo, rHi]; omega
theorem rng_out {p : Nat → Bool} {k : Nat} (hp : p k = false) : rng p (k + 1) = rng p k := by rw [rng, if_neg (by simp [hp])]
theorem rLo_bd (p : Nat → Bool) (k : Nat) (hk : k ≤ 51) : 0 ≤ rLo (rng p k) ∧ rLo (rng p k) ≤ 151 ∧ -1 ≤ rHi (rng p k) ∧ rHi (rng p k) ≤ 151 := by
  cases h : rng p k with
  | none => simp [rLo, rHi]
  | some r =>
    obtain ⟨_, _, h3, h4, _⟩ := Mis.rng_some p k r.1 r.2 h
    simp [rLo, rHi]; omega
theorem rIs_hi (r : Option (Nat × Nat)) : decide (0 ≤ rHi r) = rIs r := by cases r <;> simp [rHi, rIs]

end Go.Proofs.YtdfebccmjbocjaaGreatDoor.Mi
namespace Go.Proofs.YtdfebccmjbocjaaGreatDoor.Mi
open Go.RowKit Go.Shelf
open Mis (ch sets tot sm low up lower excl rng)

/-- the code of a range -/
def cdOf : Option (Nat × Nat) → Nat | none => 9 | some _ => 0
def MissedPost (R : Option (Nat × Nat)) (w : World) (e : Ending) (w' : World) : Prop := e = .returned (.tuple #[rangeV (loOf R : Nat) (hiOf R : Nat), .int .i64 (cdOf R : Nat)]) ∧ Below w.heap.size w w'
theorem totRes_one {l M s f n d : Nat} (h : okA l M s f) (hl : levB n d = true) : totRes [⟨l, M, s, f⟩] n d = (loOf (rangeOf l M s f n d), hiOf (rangeOf l M s f n d), cdOf (rangeOf l M s f n d)) := by
  have h1 : ([⟨l, M, s, f⟩] : List A4).all A4.ok = true := by simp [A4.ok, h.b]
  unfold totRes
  rw [if_neg (by simp), if_neg (by rw [h1]; simp), if_neg (by rw [hl]; simp)]
  have h2 : totS (n : Int).toNat (d : Int).toNat [⟨l, M, s, f⟩] = totStep n d (some (0, 0)) ⟨l, M, s, f⟩ := rfl
  rw [h2]
  have h3 : rangeA n d ⟨l, M, s, f⟩ = rangeOf l M s f n d := rfl
  unfold totStep
  rw [h3]
  cases rangeOf l M s f n d with
  | none => rfl
  | some r => simp [loOf, hiOf, cdOf]
theorem Missed_ok {l M s f : Nat} (h : okA l M s f) {n d : Nat} (hl : levB n d = true) (w : World) : Calls Tryz.prog 23 #[areaV l M s f, fracV n d] w (MissedPost (rangeOf l M s f n d) w) := by
  have h1 := Missed_any l M s f n d w
  unfold TotalPost at h1
  rw [totRes_one h hl] at h1
  exact h1
theorem rangeOf_some {l M s f n d : Nat} {r : Nat × Nat} (h : rangeOf l M s f n d = some r) : excl l s f n d r.1 = false ∧ excl l s f n d r.2 = false ∧ r.1 ≤ r.2 ∧ r.2 ≤ M ∧ ∀ u, u ≤ M → excl l s f n d u = false → r.1 ≤ u ∧ u ≤ r.2 := by
  obtain ⟨h1, h2, h3, h4, h5⟩ := Mis.rng_some _ _ r.1 r.2 h
  exact ⟨by simpa using h1, by simpa using h2, h3, by omega, fun u hu he => h5 u (by omega) (by simp [he])⟩
theorem rangeOf_none {l M s f n d : Nat} (h : rangeOf l M s f n d = none) : ∀ u, u ≤ M → excl l s f n d u = true := fun u hu => by
  have := (Mis.rng_none _ _).1 h u (by omega)
  simpa using this
theorem lev_of {n d : Nat} (h : levB n d = true) : 1 ≤ d ∧ d ≤ 1000 ∧ n ≤ d := by
  obtain ⟨_, _, h3, h4, h5⟩ := lev_nat h
  simpa using ⟨h3, h4, h5⟩
theorem lower_one {a n d : Nat} (h : n ≤ d) : lower a a n d = false := by
  rw [Mis.lower_no, Nat.mul_comm]; exact Nat.mul_le_mul_left _ h
/-- with all found, 0 is not excluded -/
theorem excl_all (l s n d : Nat) (h : n ≤ d) : excl l s s n d 0 = false := by
  have h1 := Mis.low_full l 0 s
  have h2 : Mis.up l 0 s s = tot l 0 s := by
    unfold Mis.up tot
    rw [show s + 1 - s = 1 by omega, Mis.sm_succ, Mis.sm_zero]
    simp [sets, Mis.ch_zero]
  unfold excl
  rw [h1, h2, lower_one h]; rfl
/-- otherwise it is, by a level above 0 -/
theorem excl_none (l s f n d : Nat) (hf : f < s) (hs : s ≤ l) (hn : 0 < n) : excl l s f n d 0 = true := by
  have h1 : Mis.low l 0 s f = 0 := by
    unfold Mis.low
    refine Mis.sm_zeros fun i _ h => ?_
    unfold sets
    rw [Mis.ch_lt 0 (s - i) (by omega), Nat.mul_zero]
  have h2 := Mis.tot_pos l 0 s hs
  unfold excl
  rw [h1, (Mis.lower_iff (a := 0) (b := tot l 0 s) (c := n) (d := d)).2 (by rw [Nat.zero_mul]; exact Nat.mul_pos hn h2)]; rfl
end Go.Proofs.YtdfebccmjbocjaaGreatDoor.Mi
