/- The walk of Draw of package miss: the sample. -/
import Derived.Test.YtkfobnhnehbkeaaDraw
import Derived.Test.YtkfobnhnehbkeaaLots
import Derived.Lib.SmallJoins
namespace Go.Proofs.Ytkfobnhnehbkeaa
open Go.RowKit Go.Shelf
open Mis (dl drawn)

theorem map_erase {α β : Type} (f : α → β) : ∀ (l : List α) (i : Nat), (l.eraseIdx i).map f = (l.map f).eraseIdx i
  | [], _ => rfl
  | _ :: _, 0 => rfl
  | a :: l, i + 1 => by simp only [List.eraseIdx_cons_succ, List.map_cons, map_erase f l i]
/-- the lots as numbers from 0 on -/
def natsOf (xs : List Int) : List Nat := xs.map Int.toNat
theorem natsOf_len (xs : List Int) : (natsOf xs).length = xs.length := by simp [natsOf]
def intsL (xs : List Nat) : List Int := xs.map fun (x : Nat) => (x : Int)
theorem intsL_len (xs : List Nat) : (intsL xs).length = xs.length := by simp [intsL]
def DrawPost (n : Nat) (xs : List Int) (w : World) (e : Ending) (w' : World) : Prop :=
  ∃ v, e = .returned (.tuple #[v, .int .i64 0]) ∧ w'.ownsRow w.heap.size 3 1 v xs.length ((intsL (drawn n (natsOf xs))).map (Value.int .i64)) ∧ Below w.heap.size w w'
/-- who is left behind j lots -/
def leftI (n : Nat) (xs : List Int) (j : Nat) : List Int := intsL (dl n (natsOf xs) j).1
def outI (n : Nat) (xs : List Int) (j : Nat) : List Int := intsL (dl n (natsOf xs) j).2
theorem leftI_len {n : Nat} {xs : List Int} {j : Nat} (h : j ≤ n) : (leftI n xs j).length = n - j := by
  unfold leftI; rw [intsL_len]; exact (Mis.dl_len n _ j h).1
theorem outI_len {n : Nat} {xs : List Int} {j : Nat} (h : j ≤ n) : (outI n xs j).length = j := by
  unfold outI; rw [intsL_len]; exact (Mis.dl_len n _ j h).2
/-- the lot's place in the row -/
def atI (n : Nat) (xs : List Int) (j : Nat) : Nat := (natsOf xs).getD j 0 % (n - j)
theorem leftI_succ {n : Nat} {xs : List Int} {j : Nat} (h : j < n) : leftI n xs (j + 1) = (leftI n xs j).eraseIdx (atI n xs j) := by
  unfold leftI atI intsL
  rw [show (dl n (natsOf xs) (j + 1)).1 = (dl n (natsOf xs) j).1.eraseIdx ((natsOf xs).getD j 0 % (dl n (natsOf xs) j).1.length) from rfl, (Mis.dl_len n _ j (by omega)).1, map_erase]
theorem outI_succ {n : Nat} {xs : List Int} {j : Nat} (h : j < n) : outI n xs (j + 1) = outI n xs j ++ [(leftI n xs j).getD (atI n xs j) 0] := by
  unfold outI leftI atI intsL
  rw [show (dl n (natsOf xs) (j + 1)).2 = (dl n (natsOf xs) j).2 ++ [(dl n (natsOf xs) j).1.getD ((natsOf xs).getD j 0 % (dl n (natsOf xs) j).1.length) 0] from rfl, (Mis.dl_len n _ j (by omega)).1, List.map_append]
  simp only [List.map_cons, List.map_nil, List.getD_eq_getElem?_getD, List.getElem?_map]
  cases (dl n (natsOf xs) j).1[(natsOf xs)[j]?.getD 0 % (n - j)]? <;> simp
theorem atI_lt {n : Nat} {xs : List Int} {j : Nat} (h : j < n) : atI n xs j < n - j := Nat.mod_lt _ (by omega)
theorem atI_eq {n : Nat} {xs : List Int} {j : Nat} {x : Int} (hx : xs[j]? = some x) (h0 : 0 ≤ x) : x % ((n - j : Nat) : Int) = (atI n xs j : Nat) := by
  unfold atI natsOf
  rw [List.getD_eq_getElem?_getD, List.getElem?_map, hx]
  simp only [Option.map_some, Option.getD_some]
  rw [Int.natCast_emod, Int.toNat_of_nonneg h0]
theorem leftI_zero (n : Nat) (xs : List Int) : leftI n xs 0 = intsL (List.range n) := rfl
theorem outI_zero (n : Nat) (xs : List Int) : outI n xs 0 = [] := rfl
theorem intsL_range_succ (k : Nat) : intsL (List.range (k + 1)) = intsL (List.range k) ++ [(k : Int)] := by
  unfold intsL; rw [List.range_succ, List.map_append]; rfl
theorem out_sorted (n : Nat) (xs : List Int) (h : xs.length ≤ n) : (outI n xs xs.length).mergeSort (fun x y => decide (x ≤ y)) = intsL (drawn n (natsOf xs)) := by
  have := Mis.sorted_drawn n (natsOf xs) (by rw [natsOf_len]; exact h)
  rw [natsOf_len] at this
  exact this

set_option maxRecDepth 100000 in
set_option maxHeartbeats 1000000 in
theorem Draw_ok (n : Nat) (ad : Option Addr) (b o cap : Nat) (xs : List Int) (w : World) (had : xs ≠ [] → ad = some ⟨b, o, none⟩) (hb : xs ≠ [] → b < w.heap.size) (hn : n ≤ 50) (hx : xs.length ≤ n) (ha : IntsAt w b o xs) (hl : xs.all lotB = true) :
    Calls Try.prog 40 #[.int .i64 n, .slice ad xs.length cap] w (DrawPost n xs w) := by
  obtain ⟨i0, hi, hz0, hz1, hz2⟩ := info_parts tInfo3
  have C68 := Lib.hid (fun w => within_any n 0 50 w)
  rw [show inB (n : Int) 0 50 = true by simp [inB]; omega] at C68
  have C71 := Lib.hid (allI_any ad b o cap xs w had hb (by omega) ha)
  rw [hl] at C71
  have HA := Lib.hid ha
  have HAD := Lib.hid had
  have HBL := Lib.hid hb
  have HL := Lib.hid (List.all_eq_true.1 hl)
  have hN : ∃ k, k = xs.length := ⟨_, rfl⟩
  obtain ⟨m, hN⟩ := hN
  have HN := Lib.hid hN
  rw [← hN] at hx C71 ⊢
  clear had hb ha hl hN
  have t1 : decide (n < m) = false := by simp; omega
  go_enter Try.func40, Try.ntmps40
  go_wp2_with (first | (go_at_call 68; (with_reducible refine (C68.out _).mono ?_); rintro e w' ⟨rfl, rfl⟩) | (go_at_call 71; (with_reducible refine C71.out.mono ?_); rintro e w1 ⟨rfl, hb⟩; have HB1 := Lib.hid hb; clear hb))
  clear C68 C71
  have HW1 := HB1.out.size
  go_loopw [7, 29] (fun v i wr => ∃ k : Nat, k ≤ n ∧ i = .int .i64 k ∧ wr.ownsRow w.heap.size 3 1 v k ((intsL (List.range k)).map (Value.int .i64)) ∧ Below w.heap.size w wr) (fun _ i _ => n - (intOf i).toNat)
  case atStart => exact ⟨0, Nat.zero_le _, rfl, World.ownsRow_nil _ _ _ _, HB1.out⟩
  case round =>
    obtain ⟨k, hk, rfl, hown, hB⟩ := hrel
    have HO := Lib.hid hown
    have HB := Lib.hid hB
    have hs := hB.size
    clear hown hB
    by_cases hlt : k < n
    · go_wp2_with (at_builtin; refine wpList_append_own _ rfl _ _ 40 rfl w.heap.size 3 i0 (.int .i64 0) 1 8 Try.underlying40 hi hz0 hz1 hz2 rfl (by decide) _ _ _ rfl (HO.out.alloc _) ⟨wr.heap.size, 0, none⟩ 1 1 [.int .i64 k] rfl rfl (cell_one_new _ _ _) (by simp [Value.oneCell']) (by unfold maxLen; omega) (by omega) (by simp; omega) ?_; intro v' w2 hown' hgrow _; have HO2 := Lib.hid hown'; have HG := Lib.hid hgrow; clear hown' hgrow)
      go_roundw
      case rel =>
        refine ⟨k + 1, by omega, by go_num, ?_, ?_⟩
        · rw [intsL_range_succ, List.map_append]; exact HO2.out
        · exact (HB.out.alloc hs _).grown HG.out (by simp; omega) (fun j e => (HO.out.lt j e).1)
      case measure => simp [intOf]; omega
    · obtain rfl : n = k := by omega
      go_wp2_with fail
      have hsz : ∃ B2, B2 = wr.heap.size := ⟨_, rfl⟩
      obtain ⟨B2, hB2⟩ := hsz
      have HB2 := Lib.hid hB2
      have hw2 : w.heap.size ≤ B2 := by omega
      have S7 : u7 = u7 := rfl
      clear S7 hs hB2 hlt hk
      go_loopw [7, 8, 39] (fun v o i W => ∃ j : Nat, j ≤ m ∧ i = .int .i64 j ∧ W.ownsRow w.heap.size 3 1 v (n - j) ((leftI n xs j).map (Value.int .i64)) ∧ (∀ g, v.ownBlock = some g → g < B2) ∧ W.ownsRow B2 3 1 o j ((outI n xs j).map (Value.int .i64)) ∧ Below w.heap.size w W ∧ B2 ≤ W.heap.size) (fun _ _ i _ => m - (intOf i).toNat)
      case atStart => exact ⟨0, Nat.zero_le _, rfl, HO.out, fun g h => by rw [HB2.out]; exact (HO.out.lt g h).2, World.ownsRow_nil _ _ _ _, HB.out, by rw [HB2.out]; exact Nat.le_refl _⟩
      case round =>
        obtain ⟨j, hj, rfl, hleft, hlt2, hout, hB', hsz⟩ := hrel
        clear HO HB HB2
        have HLT := Lib.hid hlt2
        have HOU := Lib.hid hout
        have HB := Lib.hid hB'
        have hs := hB'.size
        clear hlt2 hout hB'
        by_cases hlt : j < m
        · obtain ⟨x, hxj⟩ : ∃ x, xs[j]? = some x := ⟨xs[j]'(by rw [← HN.out]; exact hlt), by simp⟩
          have hne : xs ≠ [] := by rintro rfl; simp at hxj
          have e1 := HAD.out hne
          subst e1
          have hbw := HBL.out hne
          have x0 : 0 ≤ x := by
            have := HL.out x (List.mem_of_getElem? hxj)
            simpa [lotB] using this
          have k0 : wr.cell? ⟨b, o + j, none⟩ = some (.int .i64 x) := (HB.out.cell (p := ⟨b, _, none⟩) hbw).trans (HA.out j x hxj)
          obtain ⟨q, hq⟩ : ∃ q, n - j = q + 1 := ⟨n - j - 1, by omega⟩
          have hat := atI_eq (n := n) hxj x0
          have hpl := atI_lt (xs := xs) (show j < n by omega)
          have SL := Lib.hid (leftI_succ (xs := xs) (show j < n by omega))
          have SO := Lib.hid (outI_succ (xs := xs) (show j < n by omega))
          have LL := leftI_len (xs := xs) (show j ≤ n by omega)
          rw [hq] at hleft hat hpl LL
          obtain ⟨g, cap', rfl⟩ := ownsRow_succ hleft
          have hg2 := HLT.out g rfl
          generalize leftI n xs j = zs at *
          generalize atI n xs j = p at *
          have k1 : wr.cell? ⟨g, p, none⟩ = some (.int .i64 (zs.getD p 0)) := by
            rw [hleft.cellAt p (by omega), List.getElem?_map, List.getElem?_eq_getElem (by omega), List.getD_eq_getElem?_getD, List.getElem?_eq_getElem (by omega)]; rfl
          generalize zs.getD p 0 = y at *
          have HLE := Lib.hid hleft
          have HXJ := Lib.hid hxj
          have HNE := Lib.hid hne
          have HQ := Lib.hid hq
          have hmod : x % ((q : Int) + 1) = (p : Int) := by rw [← hat]; congr 1
          have D := Lib.hid (show ∀ (W : World) (h : W.ownsRow w.heap.size 3 1 (.slice (some ⟨g, 0, none⟩) (q + 1) cap') (q + 1) (zs.map (Value.int .i64))), Calls Try.prog 72 #[.slice (some ⟨g, 0, none⟩) (q + 1) cap', .int .i64 p, .int .i64 ((p : Int) + 1)] W fun e w' => e = .returned (.slice (some ⟨g, 0, none⟩) q cap') ∧ w'.ownsRow w.heap.size 3 1 (.slice (some ⟨g, 0, none⟩) q cap') q ((zs.eraseIdx p).map (Value.int .i64)) ∧ W.grownBy w' (some g) from fun W h => delete_own h hpl)
          have hq50 : q < 50 := by omega
          clear hleft hxj hne hq hat LL
          go_wp2_with (first
            | (at_builtin; refine wpList_append_own _ rfl _ _ 40 rfl B2 3 i0 (.int .i64 0) 1 8 Try.underlying40 hi hz0 hz1 hz2 rfl (by decide) _ _ _ rfl (HOU.out.alloc _) ⟨wr.heap.size, 0, none⟩ 1 1 [.int .i64 y] rfl rfl (cell_one_new _ _ _) (by simp [Value.oneCell']) (by unfold maxLen; omega) (by omega) (by simp; omega) ?_; intro v' w2 hown' hgrow _; have HL2 := Lib.hid ((HLE.out.alloc _).kept hgrow (.inr (fun e => by have h1 := HOU.out.lt g e.symm; omega))); have HO2 := Lib.hid hown'; have HG := Lib.hid hgrow; clear hown' hgrow)
            | (go_at_call 72; (with_reducible refine (D.out _ HL2.out).mono ?_); rintro e w3 ⟨rfl, hl3, hg3⟩; have HL3 := Lib.hid hl3; have HG3 := Lib.hid hg3; clear hl3 hg3))
          have hs2 := HG.out.size
          have g0 : w.heap.size ≤ g := (HLE.out.lt g rfl).1
          have hg4 : B2 ≤ w2.heap.size := by simp at hs2; omega
          go_roundw
          case rel =>
            refine ⟨j + 1, by omega, by go_num, ?_, ?_, ?_, ?_, ?_⟩
            · rw [SL.out, show n - (j + 1) = q by have := HQ.out; omega]; exact HL3.out
            · intro g' e; cases e; exact hg2
            · rw [SO.out, List.map_append]
              refine HO2.out.kept HG3.out (.inr fun e => ?_)
              have h1 := HO2.out.lt g e
              omega
            · exact ((HB.out.alloc hs _).grown HG.out (by simp; omega) (fun i e => by have := (HOU.out.lt i e).1; omega)).grown HG3.out (by omega) (fun i e => by cases e; exact g0)
            · exact Nat.le_trans hg4 HG3.out.size
          case measure => simp [intOf]; omega
        · obtain rfl : m = j := by omega
          have hout := HOU.out
          have hsort := out_sorted n xs (by rw [← HN.out]; exact hx)
          rw [← HN.out] at hsort
          rcases Joins.ownsRow_forms hout with ⟨rfl, h0⟩ | ⟨g, cap', rfl⟩
          · have S0 := Lib.hid hsort
            have H0 := Lib.hid h0
            clear hsort h0 hout
            go_wp2_with (go_at_call 73; (with_reducible refine (sort_nil _).mono ?_); rintro e w3 ⟨rfl, rfl⟩)
            go_ret2
            refine ⟨_, rfl, ?_, HB.out⟩
            have h0 := H0.out
            have e1 : intsL (drawn n (natsOf xs)) = [] := by
              apply List.eq_nil_of_length_eq_zero
              rw [intsL_len, Mis.drawn_len n _ (by rw [natsOf_len, ← HN.out]; exact hx), natsOf_len, ← HN.out, h0]
            rw [e1, ← HN.out, h0]
            exact World.ownsRow_nil _ _ _ _
          · have S0 := Lib.hid hsort
            have C73 := Lib.hid (sort_own hout (by omega))
            clear hsort hout
            go_wp2_with (go_at_call 73; (with_reducible refine C73.out.mono ?_); rintro e w3 ⟨rfl, hr3, hg3⟩; have HR3 := Lib.hid hr3; have HG3 := Lib.hid hg3; clear hr3 hg3)
            go_ret2
            refine ⟨_, rfl, ?_, ?_⟩
            · rw [← S0.out, ← HN.out]; exact Joins.ownsRow_le HR3.out hw2
            · exact HB.out.grown HG3.out hs (fun i e => by cases e; have := (HR3.out.lt g rfl).1; omega)

theorem Draw_any (n : Int) (ad : Option Addr) (b o cap : Nat) (xs : List Int) (w : World) (had : xs ≠ [] → ad = some ⟨b, o, none⟩) (hb : xs ≠ [] → b < w.heap.size) (hn : xs.length ≤ 1000) (ha : IntsAt w b o xs) :
    Calls Try.prog 40 #[.int .i64 n, .slice ad xs.length cap] w fun e w' => (drawB n xs = false ∧ e = .returned (.tuple #[.slice none 0 0, .int .i64 2]) ∧ Below w.heap.size w w') ∨ (drawB n xs = true ∧ DrawPost n.toNat xs w e w') := by
  cases h : drawB n xs with
  | false => exact (Draw_range n ad b o cap xs w had hb hn ha h).mono fun e w' h => .inl ⟨rfl, h⟩
  | true =>
    unfold drawB at h
    rw [Bool.and_eq_true, Bool.and_eq_true] at h
    obtain ⟨h1, h2, h3⟩ := h
    obtain ⟨h4, h5⟩ := inB_iff.1 h1
    obtain ⟨k, rfl⟩ : ∃ k : Nat, n = k := ⟨n.toNat, by omega⟩
    exact (Draw_ok k ad b o cap xs w had hb (by omega) (by simpa using h2) ha h3).mono fun e w' h => .inr ⟨rfl, h⟩
end Go.Proofs.Ytkfobnhnehbkeaa
