/- The walk of the statement on fair draws. -/
import Derived.Test.YtkfobnhnehbkeaaLk
import Derived.Test.YtkfobnhnehbkeaaFairP
namespace Go.Proofs.Ytkfobnhnehbkeaa
open Go.RowKit Go.Shelf
open Mis (ch drawn restOf lotsOf prodK setOf setAt cntK eachK fairB)

def fairArr (n k X : Nat) : Array Value := ((List.range 64).map fun s => Value.int .i64 (cntK n k X s : Nat)).toArray
theorem fairArr_get (n k X : Nat) {s : Nat} (h : s < 64) : (fairArr n k X)[s]? = some (.int .i64 (cntK n k X s : Nat)) := by
  unfold fairArr
  rw [List.getElem?_toArray, List.getElem?_map, List.getElem?_range h]; rfl
theorem cntK_succ (n k X s : Nat) : cntK n k (X + 1) s = cntK n k X s + if setAt n k X = s then 1 else 0 := by
  unfold cntK
  rw [List.range_succ, List.filter_append, List.length_append]
  by_cases h : setAt n k X = s
  · simp [h]
  · simp [h]
theorem fairArr_set (n k X : Nat) {s : Nat} (hs : setAt n k X = s) : (fairArr n k X).setIfInBounds s (.int .i64 ((cntK n k X s : Nat) + 1 : Int)) = fairArr n k (X + 1) := by
  unfold fairArr
  apply Array.ext
  · simp
  · intro i h1 h2
    simp only [List.size_toArray, List.length_map, List.length_range] at h2
    rw [Array.getElem_setIfInBounds (by simpa using h2)]
    simp only [List.getElem_toArray, List.getElem_map, List.getElem_range]
    rw [cntK_succ, hs]
    by_cases e : s = i
    · subst e; simp
    · simp [e]
def zeros64 : Array Value := #[.int .i64 0, .int .i64 0, .int .i64 0, .int .i64 0, .int .i64 0, .int .i64 0, .int .i64 0, .int .i64 0, .int .i64 0, .int .i64 0, .int .i64 0, .int .i64 0, .int .i64 0, .int .i64 0, .int .i64 0, .int .i64 0, .int .i64 0, .int .i64 0, .int .i64 0, .int .i64 0, .int .i64 0, .int .i64 0, .int .i64 0, .int .i64 0, .int .i64 0, .int .i64 0, .int .i64 0, .int .i64 0, .int .i64 0, .int .i64 0, .int .i64 0, .int .i64 0, .int .i64 0, .int .i64 0, .int .i64 0, .int .i64 0, .int .i64 0, .int .i64 0, .int .i64 0, .int .i64 0, .int .i64 0, .int .i64 0, .int .i64 0, .int .i64 0, .int .i64 0, .int .i64 0, .int .i64 0, .int .i64 0, .int .i64 0, .int .i64 0, .int .i64 0, .int .i64 0, .int .i64 0, .int .i64 0, .int .i64 0, .int .i64 0, .int .i64 0, .int .i64 0, .int .i64 0, .int .i64 0, .int .i64 0, .int .i64 0, .int .i64 0, .int .i64 0]
theorem zeros64_eq (n k : Nat) : zeros64 = fairArr n k 0 := rfl
theorem prod_le : ∀ n, n < 7 → ∀ i, i < 4 → prodK n i ≤ 216 := by decide
theorem rest_le (n X : Nat) : ∀ j, restOf n X j ≤ X
  | 0 => Nat.le_refl _
  | j + 1 => Nat.le_trans (Nat.div_le_self _ _) (rest_le n X j)
theorem lotsOf_succ (n X j : Nat) : lotsOf n X (j + 1) = lotsOf n X j ++ [restOf n X j % (n - j)] := by unfold lotsOf; rw [List.range_succ, List.map_append]; rfl
theorem lotsOf_len (n X k : Nat) : (lotsOf n X k).length = k := by simp [lotsOf]
theorem nats_ints (l : List Nat) : natsOf (intsL l) = l := by
  unfold natsOf intsL
  rw [List.map_map]
  conv => rhs; rw [← List.map_id l]
  exact List.map_congr_left fun x _ => by simp
theorem ints_ok (l : List Nat) : (intsL l).all lotB = true := by
  rw [List.all_eq_true]
  intro x hx
  unfold intsL at hx
  obtain ⟨y, _, rfl⟩ := List.mem_map.1 hx
  simp [lotB]
theorem setOf_snoc (l : List Nat) (x : Nat) : setOf (l ++ [x]) = setOf l ||| 2 ^ x := by simp [setOf]
theorem or_lt64 : ∀ S, S < 64 → ∀ x, x < 6 → S ||| 2 ^ x < 64 := by decide
theorem setOf_lt : ∀ (l : List Nat), (∀ x, x ∈ l → x < 6) → setOf l < 64 := by
  intro l
  have : ∀ (l : List Nat) (s : Nat), s < 64 → (∀ x, x ∈ l → x < 6) → l.foldl (fun s x => s ||| 2 ^ x) s < 64 := by
    intro l
    induction l with
    | nil => intro s h _; exact h
    | cons a l ih =>
      intro s h hx
      exact ih _ (or_lt64 s h a (hx a (by simp))) fun x hxl => hx x (by simp [hxl])
  exact this l 0 (by decide)
theorem or_fact : ∀ S : Fin 64, ∀ x : Fin 6, bits .or .i64 ((S.1 : Nat) : Int) ((2 ^ x.1 : Nat) : Int) = ((S.1 ||| 2 ^ x.1 : Nat) : Int) := by decide +kernel
theorem or_shl {S x : Nat} (hS : S < 64) (hx : x < 6) : bits .or .i64 (S : Int) (wrap64 (2 ^ x)) = ((S ||| 2 ^ x : Nat) : Int) := by
  have h := or_fact ⟨S, hS⟩ ⟨x, hx⟩
  have e : wrap64 (2 ^ x) = ((2 ^ x : Nat) : Int) := by
    have : x = 0 ∨ x = 1 ∨ x = 2 ∨ x = 3 ∨ x = 4 ∨ x = 5 := by omega
    rcases this with rfl | rfl | rfl | rfl | rfl | rfl <;> decide +kernel
  rw [e]; exact h
/-- how many of the first m sets are drawn as often as each -/
def hitK (n k m : Nat) : Nat := ((List.range m).filter fun s => cntK n k (prodK n k) s == eachK k).length
theorem hitK_yes {n k m : Nat} (h : cntK n k (prodK n k) m = eachK k) : hitK n k (m + 1) = hitK n k m + 1 := by unfold hitK; rw [List.range_succ, List.filter_append]; simp [h]
theorem hitK_no {n k m : Nat} (h : cntK n k (prodK n k) m ≠ eachK k) : hitK n k (m + 1) = hitK n k m := by unfold hitK; rw [List.range_succ, List.filter_append]; simp [h]
theorem hitK_le (n k m : Nat) : hitK n k m ≤ m := by unfold hitK; exact Nat.le_trans (List.length_filter_le _ _) (by simp)
theorem fair_get {n k : Nat} (h1 : 1 ≤ n) (h2 : n ≤ 6) (hk : k ≤ min n 3) : (∀ s, s < 64 → cntK n k (prodK n k) s = eachK k ∨ cntK n k (prodK n k) s = 0) ∧ hitK n k 64 = ch n k := by
  have h := Mis.fair_all
  rw [List.all_eq_true] at h
  have h3 := h (n - 1) (List.mem_range.2 (by omega))
  rw [List.all_eq_true, show n - 1 + 1 = n by omega] at h3
  have h4 := h3 k (List.mem_range.2 (by omega))
  unfold fairB at h4
  rw [Bool.and_eq_true, List.all_eq_true] at h4
  refine ⟨fun s hs => ?_, by simpa [hitK] using h4.2⟩
  have := h4.1 s (List.mem_range.2 hs)
  simpa using this
theorem cnt_le (n k X s : Nat) : cntK n k X s ≤ X := by unfold cntK; exact Nat.le_trans (List.length_filter_le _ _) (by simp)

theorem KS.setOne {w W : World} {b : Nat} {cs : Array Value} {t : TypeId} (h : KS w [(b, cs, t)] W) (hb : w.heap.size ≤ b) (i : Nat) (v : Value) : KS w [(b, cs.setIfInBounds i v, t)] (W.setCell ⟨b, i, none⟩ v) :=
  ⟨fun x hx => by simp at hx; subst hx; exact (h.blkAt 0 rfl).set i v, h.2.setCell hb v⟩
theorem pair_lt {D : List Nat} (h : D.Pairwise (· < ·)) {t x y : Nat} (ht : 0 < t) (hx : D[t]? = some x) (hy : D[t - 1]? = some y) : y < x := by
  obtain ⟨h1, rfl⟩ := List.getElem?_eq_some_iff.1 hx
  obtain ⟨h2, rfl⟩ := List.getElem?_eq_some_iff.1 hy
  exact List.pairwise_iff_getElem.1 h (t - 1) t h2 h1 (by omega)
set_option maxRecDepth 100000 in
set_option maxHeartbeats 8000000 in
theorem MissFair_nk (a b : Int) (n k : Nat) (w : World) (ha : 0 ≤ a ∧ a ≤ 255) (hb : 0 ≤ b ∧ b ≤ 255) (e1 : a % 6 = (n : Int) - 1) (e2 : b % (min (n : Int) 3 + 1) = k) (h1 : 1 ≤ n) (h6 : n ≤ 6) (hk3 : k ≤ 3) (hkn : k ≤ n) :
    Calls Try.prog 13 #[.int .u8 a, .int .u8 b] w fun e w' => e = .returned (.bool true) ∧ Below w.heap.size w w' := by
  obtain ⟨ha1, ha2⟩ := ha
  obtain ⟨hb1, hb2⟩ := hb
  obtain ⟨i0, hi, hz0, hz1, hz2⟩ := info_parts tInfo3
  have hn : ∃ p : Int, p = min (n : Int) 3 := ⟨_, rfl⟩
  have g1 : (1 : Int) + ((n : Int) - 1) = n := by omega
  have g2 : (0 : Int) < min (n : Int) 3 + 1 := by omega
  have g3 : min (n : Int) 3 + 1 ≤ 4 := by omega
  obtain ⟨p, hp⟩ := hn
  rw [← hp] at e2 g2 g3
  have hp' := hp.symm
  have hN := one_new w zeros64 79
  unfold zeros64 at hN
  obtain ⟨b1, b2, b3⟩ := hN
  have hs0 : KS w [(w.heap.size, fairArr n k 0, 79)] (w.alloc (.cells #[.int .i64 0, .int .i64 0, .int .i64 0, .int .i64 0, .int .i64 0, .int .i64 0, .int .i64 0, .int .i64 0, .int .i64 0, .int .i64 0, .int .i64 0, .int .i64 0, .int .i64 0, .int .i64 0, .int .i64 0, .int .i64 0, .int .i64 0, .int .i64 0, .int .i64 0, .int .i64 0, .int .i64 0, .int .i64 0, .int .i64 0, .int .i64 0, .int .i64 0, .int .i64 0, .int .i64 0, .int .i64 0, .int .i64 0, .int .i64 0, .int .i64 0, .int .i64 0, .int .i64 0, .int .i64 0, .int .i64 0, .int .i64 0, .int .i64 0, .int .i64 0, .int .i64 0, .int .i64 0, .int .i64 0, .int .i64 0, .int .i64 0, .int .i64 0, .int .i64 0, .int .i64 0, .int .i64 0, .int .i64 0, .int .i64 0, .int .i64 0, .int .i64 0, .int .i64 0, .int .i64 0, .int .i64 0, .int .i64 0, .int .i64 0, .int .i64 0, .int .i64 0, .int .i64 0, .int .i64 0, .int .i64 0, .int .i64 0, .int .i64 0, .int .i64 0] 79)) := (KS.start w).new (fairArr n k 0) 79
  have HS0 := Lib.hid hs0
  clear b1 b2 b3 hs0 hp
  go_enter Try.func13, Try.ntmps13
  go_wp2_with fail
  generalize (w.alloc (.cells #[.int .i64 0, .int .i64 0, .int .i64 0, .int .i64 0, .int .i64 0, .int .i64 0, .int .i64 0, .int .i64 0, .int .i64 0, .int .i64 0, .int .i64 0, .int .i64 0, .int .i64 0, .int .i64 0, .int .i64 0, .int .i64 0, .int .i64 0, .int .i64 0, .int .i64 0, .int .i64 0, .int .i64 0, .int .i64 0, .int .i64 0, .int .i64 0, .int .i64 0, .int .i64 0, .int .i64 0, .int .i64 0, .int .i64 0, .int .i64 0, .int .i64 0, .int .i64 0, .int .i64 0, .int .i64 0, .int .i64 0, .int .i64 0, .int .i64 0, .int .i64 0, .int .i64 0, .int .i64 0, .int .i64 0, .int .i64 0, .int .i64 0, .int .i64 0, .int .i64 0, .int .i64 0, .int .i64 0, .int .i64 0, .int .i64 0, .int .i64 0, .int .i64 0, .int .i64 0, .int .i64 0, .int .i64 0, .int .i64 0, .int .i64 0, .int .i64 0, .int .i64 0, .int .i64 0, .int .i64 0, .int .i64 0, .int .i64 0, .int .i64 0, .int .i64 0] 79)) = W0 at *
  go_loop [8, 9] (fun v x => ∃ i : Nat, i ≤ k ∧ x = .int .i64 (i : Int) ∧ v = .int .i64 (prodK n i : Nat)) (fun _ x => k - (intOf x).toNat)
  case atStart => exact ⟨0, Nat.zero_le _, rfl, rfl⟩
  case round =>
    obtain ⟨i, hi', rfl, rfl⟩ := hrel
    have q1 := prod_le n (by omega) i (by omega)
    by_cases hlt : i < k
    · have q2 := prod_le n (by omega) (i + 1) (by omega)
      have q3 : (prodK n i : Int) * ((n : Int) - (i : Int)) = (prodK n (i + 1) : Nat) := by
        rw [show prodK n (i + 1) = prodK n i * (n - i) from rfl, Int.natCast_mul, show ((n - i : Nat) : Int) = (n : Int) - (i : Int) by omega]
      go_wp2
      go_round
      case rel => exact ⟨i + 1, by omega, by go_num, rfl⟩
      case measure => simp [intOf]; omega
    · obtain rfl : i = k := by omega
      clear e1 e2 g1 g2 g3 hp' hlt hi'
      go_wp2_with fail
      go_loopw [10] (fun x wr => ∃ X : Nat, X ≤ prodK n i ∧ x = .int .i64 (X : Int) ∧ KS w [(w.heap.size, fairArr n i X, 79)] wr) (fun x _ => prodK n i - (intOf x).toNat)
      case atStart => exact ⟨0, Nat.zero_le _, rfl, HS0.out⟩
      case round =>
        clear HS0
        obtain ⟨X, hX, rfl, hS⟩ := hrel
        have HS := Lib.hid hS
        have hBs := hS.bel.size
        clear hS
        by_cases hXl : X < prodK n i
        · obtain ⟨B3, hB3⟩ : ∃ B, B = wr.heap.size := ⟨_, rfl⟩
          have HB3 := Lib.hid hB3
          have hwB3 : w.heap.size < B3 := by rw [hB3]; exact HS.out.lt 0 rfl
          clear hB3
          go_wp2_with fail
          go_loopw [11, 12, 13] (fun v r x W => ∃ j : Nat, j ≤ i ∧ x = .int .i64 (j : Int) ∧ r = .int .i64 (restOf n X j : Nat) ∧ W.ownsRow B3 3 1 v j ((intsL (lotsOf n X j)).map (Value.int .i64)) ∧ KS w [(w.heap.size, fairArr n i X, 79)] W ∧ B3 ≤ W.heap.size) (fun _ _ x _ => i - (intOf x).toNat)
          case atStart => exact ⟨0, Nat.zero_le _, rfl, rfl, World.ownsRow_nil _ _ _ _, HS.out, by rw [HB3.out]; exact Nat.le_refl _⟩
          case round =>
            clear HS HB3
            obtain ⟨j, hj, rfl, rfl, hrow, hS, hB⟩ := hrel
            have HR := Lib.hid hrow
            have HS := Lib.hid hS
            have r1 := rest_le n X j
            have r2 := rest_le n X (j + 1)
            clear hrow hS
            by_cases hjl : j < i
            · have g5 : (0 : Int) < (n : Int) - (j : Int) := by omega
              have m1 : (restOf n X j : Int) % ((n : Int) - (j : Int)) = (restOf n X j % (n - j) : Nat) := by
                rw [Int.natCast_emod, show ((n - j : Nat) : Int) = (n : Int) - (j : Int) by omega]
              have m2 : (restOf n X j : Int) / ((n : Int) - (j : Int)) = (restOf n X (j + 1) : Nat) := by
                rw [show restOf n X (j + 1) = restOf n X j / (n - j) from rfl, Int.natCast_ediv, show ((n - j : Nat) : Int) = (n : Int) - (j : Int) by omega]
              have HT := Lib.hid (lotsOf_succ n X j)
              generalize restOf n X j % (n - j) = d at *
              go_wp2_with (at_builtin; refine wpList_append_own _ rfl _ _ 40 rfl B3 3 i0 (.int .i64 0) 1 8 Try.underlying40 hi hz0 hz1 hz2 rfl (by decide) _ _ _ rfl (HR.out.alloc _) ⟨wr.heap.size, 0, none⟩ 1 1 [.int .i64 (d : Nat)] rfl rfl (cell_one_new _ _ _) (by simp [Value.oneCell']) (by unfold maxLen; omega) (by omega) (by simp; omega) ?_; intro v' w2 hown' hgrow _; have HO2 := Lib.hid hown'; have HG := Lib.hid hgrow; clear hown' hgrow)
              go_roundw
              case rel =>
                have hs2 := HG.out.size
                refine ⟨j + 1, by omega, by go_num, rfl, ?_, (HS.out.alloc _).kept HG.out (fun x e => (HR.out.lt x e).1) (fun x hx => by simp at hx; rw [hx]; exact hwB3) (by omega), by simp at hs2; omega⟩
                rw [HT.out]
                unfold intsL
                rw [List.map_append, List.map_append]
                exact HO2.out
              case measure => simp [intOf]; omega
            · obtain rfl : j = i := by omega
              have hys := row_is (ys := intsL (lotsOf n X j)) (by rw [intsL_len, lotsOf_len]; exact HR.out)
              obtain ⟨da, db, dc, rfl, hd1, hd2, hd3⟩ := hys
              have C40 := Lib.hid (Draw_ok n da db 0 dc (intsL (lotsOf n X j)) wr hd1 hd3 (by omega) (by rw [intsL_len, lotsOf_len]; exact hkn) hd2 (ints_ok _))
              unfold DrawPost at C40
              rw [nats_ints] at C40
              rw [show (intsL (lotsOf n X j)).length = j by rw [intsL_len, lotsOf_len]] at C40 ⊢
              clear hd1 hd2 hd3 r1 r2 hjl hj
              go_wp2_with fail
              refine C40.out.mono ?_
              rintro e w3 ⟨v, rfl, hrow, h3⟩
              have hDl : (intsL (drawn n (lotsOf n X j))).length = j := by rw [intsL_len, Mis.drawn_len, lotsOf_len]; rw [lotsOf_len]; exact hkn
              have hys2 := row_is (ys := intsL (drawn n (lotsOf n X j))) (by rw [hDl]; exact hrow)
              obtain ⟨la, lb, lc, rfl, hl1, hl2, hl3⟩ := hys2
              rw [hDl]
              have HDL := Lib.hid hDl
              have HL1 := Lib.hid hl1
              have HL2 := Lib.hid hl2
              have HS3 := Lib.hid (HS.out.below h3)
              have HLT := Lib.hid (fun x (hx : x ∈ drawn n (lotsOf n X j)) => Mis.drawn_lt hx)
              have HPW := Lib.hid (Mis.drawn_sorted n (lotsOf n X j))
              have HSA : Hid (setOf (drawn n (lotsOf n X j)) = setAt n j X) := Lib.hid rfl
              have HS64 := Lib.hid (setOf_lt (drawn n (lotsOf n X j)) (fun x hx => by have := Mis.drawn_lt hx; omega))
              clear hrow h3 hl1 hl2 hl3 hDl
              generalize drawn n (lotsOf n X j) = D at *
              go_wp2_with fail
              go_loopw [16, 17] (fun v x W => ∃ t : Nat, t ≤ j ∧ x = .int .i64 (t : Int) ∧ v = .int .i64 (setOf (D.take t) : Nat) ∧ ∃ q, W = w3.drewN q) (fun _ x _ => j - (intOf x).toNat)
              case atStart => exact ⟨0, Nat.zero_le _, rfl, rfl, 0, rfl⟩
              case round =>
                obtain ⟨t, ht, rfl, rfl, q, rfl⟩ := hrel
                by_cases htl : t < j
                · obtain ⟨x, hxt⟩ : ∃ x, D[t]? = some x := ⟨D[t]'(by have := HDL.out; rw [intsL_len] at this; omega), by simp⟩
                  have hx6 := HLT.out x (List.mem_of_getElem? hxt)
                  have hne : intsL D ≠ [] := by intro e; have := HDL.out; rw [e] at this; simp at this; omega
                  have e1 := HL1.out hne
                  subst e1
                  have c0 : w3.cell? ⟨lb, t, none⟩ = some (.int .i64 (x : Nat)) := by
                    have := HL2.out t (x : Int) (by unfold intsL; rw [List.getElem?_map, hxt]; rfl)
                    rwa [Nat.zero_add] at this
                  have hst : setOf (D.take (t + 1)) = setOf (D.take t) ||| 2 ^ x := by rw [List.take_add_one, hxt, ← setOf_snoc]; rfl
                  have hS64 : setOf (D.take t) < 64 := setOf_lt _ (fun y hy => by have := HLT.out y (List.mem_of_mem_take hy); omega)
                  have hx6' : x < 6 := by omega
                  have t1 : decide ((x : Int) < 0) = false := by simp
                  have t2 : decide ((n : Int) ≤ (x : Int)) = false := by simp; omega
                  have t3 : decide (n ≤ x) = false := by simp; omega
                  have HST := Lib.hid hst
                  clear hst hne
                  generalize setOf (D.take t) = S at *
                  by_cases ht0 : t = 0
                  · have t4 : decide ((0 : Int) < (t : Int)) = false := by simp; omega
                    have t5 : decide (0 < t) = false := by simp; omega
                    clear ht0
                    have HX := Lib.hid hxt
                    clear hxt
                    go_wp2
                    go_quiet (fail)
                    go_wp2
                    go_roundw
                    case rel => exact ⟨t + 1, by omega, by go_num, by rw [HST.out, or_shl hS64 hx6'], _, rfl⟩
                    case measure => simp [intOf]; omega
                  · obtain ⟨y, hyt⟩ : ∃ y, D[t - 1]? = some y := ⟨D[t - 1]'(by have := HDL.out; rw [intsL_len] at this; omega), by simp⟩
                    have hyx := pair_lt HPW.out (by omega) hxt hyt
                    obtain ⟨t', rfl⟩ : ∃ t', t = t' + 1 := ⟨t - 1, by omega⟩
                    rw [Nat.add_sub_cancel] at hyt
                    have c1 : w3.cell? ⟨lb, t', none⟩ = some (.int .i64 (y : Nat)) := by
                      have := HL2.out t' (y : Int) (by unfold intsL; rw [List.getElem?_map, hyt]; rfl)
                      rwa [Nat.zero_add] at this
                    have t4 : decide ((0 : Int) < (t' : Int) + 1) = true := by rw [decide_eq_true_eq]; omega
                    have t5 : decide ((x : Int) ≤ (y : Int)) = false := by simp; omega
                    have t6 : decide (x ≤ y) = false := by simp; omega
                    have HX := Lib.hid hxt
                    have HY := Lib.hid hyt
                    clear hxt hyt ht0
                    go_wp2
                    go_quiet (fail)
                    go_wp2
                    go_roundw
                    case rel => exact ⟨t' + 1 + 1, by omega, by go_num, by rw [HST.out, or_shl hS64 hx6'], _, rfl⟩
                    case measure => simp [intOf]; omega
                · obtain rfl : t = j := by omega
                  have hfull : setOf (D.take t) = setAt n t X := by rw [← HSA.out, List.take_of_length_le (by have := HDL.out; rw [intsL_len] at this; omega)]
                  have hs64 : setAt n t X < 64 := by rw [← HSA.out]; exact HS64.out
                  rw [hfull]
                  have hks := HS3.out.drewN q
                  have c0 : (w3.drewN q).cell? ⟨w.heap.size, setAt n t X, none⟩ = some (.int .i64 (cntK n t X (setAt n t X) : Nat)) := by rw [(hks.blkAt 0 rfl).cell, fairArr_get _ _ _ hs64]
                  have c1 : (w3.drewN q).frozen? ⟨w.heap.size, setAt n t X, none⟩ = false := (hks.blkAt 0 rfl).frozen _
                  have hcl := cnt_le n t X (setAt n t X)
                  have hpl := prod_le n (by omega) t (by omega)
                  have HFS := Lib.hid (fairArr_set n t X (s := setAt n t X) rfl)
                  have HKS := Lib.hid hks
                  clear hfull hks
                  generalize setAt n t X = S at *
                  go_wp2_with fail
                  go_roundw
                  case rel => exact ⟨X + 1, by omega, by go_num, by rw [← HFS.out]; exact HKS.out.setOne (Nat.le_refl _) _ _⟩
                  case measure => simp [intOf]; omega
        · obtain rfl : X = prodK n i := by omega
          obtain ⟨hfair, hend⟩ := fair_get (n := n) (k := i) h1 h6 (by omega)
          have hks := HS.out.alloc (.cells #[.int .i64 1, .int .i64 1, .int .i64 2, .int .i64 6] 3)
          have hbl := Blk.new wr #[.int .i64 1, .int .i64 1, .int .i64 2, .int .i64 6] 3
          have ce : (wr.alloc (.cells #[.int .i64 1, .int .i64 1, .int .i64 2, .int .i64 6] 3)).cell? ⟨wr.heap.size, i, none⟩ = some (.int .i64 (eachK i : Nat)) := by
            rw [hbl.cell]
            have : i = 0 ∨ i = 1 ∨ i = 2 ∨ i = 3 := by omega
            rcases this with rfl | rfl | rfl | rfl <;> rfl
          have hpl := prod_le n (by omega) i (by omega)
          have HE := Lib.hid hend
          have HF := Lib.hid hfair
          have HKS := Lib.hid hks
          have hk4 : (i : Int) < 4 := by omega
          clear hfair hend hks hbl hXl hX
          go_wp2_with fail
          clear ce
          generalize wr.alloc (.cells #[.int .i64 1, .int .i64 1, .int .i64 2, .int .i64 6] 3) = W5 at *
          go_loop [19, 20] (fun v x => ∃ m : Nat, m ≤ 64 ∧ x = .int .i64 (m : Int) ∧ v = .int .i64 (hitK n i m : Nat)) (fun _ x => 64 - (intOf x).toNat)
          case atStart => exact ⟨0, Nat.zero_le _, rfl, rfl⟩
          case round =>
            obtain ⟨m, hm, rfl, rfl⟩ := hrel
            have hh := hitK_le n i m
            by_cases hml : m < 64
            · have c0 : W5.cell? ⟨w.heap.size, m, none⟩ = some (.int .i64 (cntK n i (prodK n i) m : Nat)) := by rw [(HKS.out.blkAt 0 rfl).cell, fairArr_get _ _ _ hml]
              have hcl := cnt_le n i (prodK n i) m
              have hml2 : (m : Int) < 64 := by omega
              by_cases hce : cntK n i (prodK n i) m = eachK i
              · have HH := Lib.hid (hitK_yes hce)
                have t1 : ((cntK n i (prodK n i) m : Int) == (eachK i : Int)) = true := by rw [hce]; simp
                have t2 : (cntK n i (prodK n i) m == eachK i) = true := by simpa using hce
                clear hce
                go_wp2
                go_round
                case rel => exact ⟨m + 1, by omega, by go_num, by rw [HH.out]; go_num⟩
                case measure => simp [intOf]; omega
              · have HH := Lib.hid (hitK_no hce)
                have h0 := (HF.out m hml).resolve_left hce
                have t1 : ((cntK n i (prodK n i) m : Int) == (eachK i : Int)) = false := by simp; omega
                have t2 : (cntK n i (prodK n i) m == eachK i) = false := by simpa using hce
                have t3 : ((cntK n i (prodK n i) m : Int) != 0) = false := by simp; exact h0
                have t4 : (cntK n i (prodK n i) m != 0) = false := by simpa using h0
                clear hce h0
                generalize cntK n i (prodK n i) m = c at *
                go_wp2
                go_round
                case rel => exact ⟨m + 1, by omega, by go_num, by rw [HH.out]⟩
                case measure => simp [intOf]; omega
            · obtain rfl : m = 64 := by omega
              rw [HE.out]
              have C48 := Lib.hid (fun w => rWays_any n i w (by omega))
              have S5 := Lib.hid HKS.out
              clear hh
              go_wp2_with (first | (go_at_call 48; (with_reducible refine (C48.out _).mono ?_); rintro e w' ⟨rfl, q, rfl⟩) | (go_at_call 24; (with_reducible refine (awake_any _).mono ?_); rintro e w99 ⟨rfl, h99⟩; have S99 := Lib.hid ((S5.out.drewN _).below h99); clear h99))
              go_ret
              exact ⟨rfl, S99.out.bel⟩

theorem MissFair_walk (a b : Int) (w : World) (ha : (Lit.int .u8 a).wf = true) (hb : (Lit.int .u8 b).wf = true) : Calls Try.prog 13 #[.int .u8 a, .int .u8 b] w fun e w' => e = .returned (.bool true) ∧ Below w.heap.size w w' := by
  have ha2 : 0 ≤ a ∧ a ≤ 255 := by simp [Lit.wf] at ha; exact ha
  have hb2 : 0 ≤ b ∧ b ≤ 255 := by simp [Lit.wf] at hb; exact hb
  obtain ⟨n, hn⟩ : ∃ n : Nat, a % 6 = (n : Int) - 1 := ⟨(a % 6 + 1).toNat, by omega⟩
  have hn1 : 1 ≤ n := by omega
  have hn6 : n ≤ 6 := by omega
  have p1 : 0 ≤ b % (min (n : Int) 3 + 1) := Int.emod_nonneg _ (by omega)
  have p2 : b % (min (n : Int) 3 + 1) < min (n : Int) 3 + 1 := Int.emod_lt_of_pos _ (by omega)
  obtain ⟨k, hk⟩ : ∃ k : Nat, b % (min (n : Int) 3 + 1) = k := ⟨(b % (min (n : Int) 3 + 1)).toNat, by omega⟩
  exact MissFair_nk a b n k w ha2 hb2 hn hk hn1 hn6 (by omega) (by omega)
end Go.Proofs.Ytkfobnhnehbkeaa
