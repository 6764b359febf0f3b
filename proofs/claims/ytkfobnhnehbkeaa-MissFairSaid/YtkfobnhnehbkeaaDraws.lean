/- The walk of the statement on draws. -/
import Derived.Test.YtkfobnhnehbkeaaDrawn
import Derived.Test.YtkfobnhnehbkeaaAwake
import Derived.Laws.AppendOwnNone
namespace Go.Proofs.Ytkfobnhnehbkeaa
open Go.RowKit Go.Shelf
open Mis (dl drawn)

set_option maxRecDepth 100000 in
set_option maxHeartbeats 1000000 in
theorem MissDraws_long (n : Int) (ad : Option Addr) (cap : Nat) (xs : List Int) (w : World) (h : 60 < xs.length) : Calls Try.prog 7 #[.int .i64 n, .slice ad xs.length cap] w fun e w' => e = .returned (.bool true) ∧ Below w.heap.size w w' := by
  generalize xs.length = k at *
  have t1 : decide ((60 : Int) < (k : Int)) = true := by simp; omega
  have t2 : decide (60 < k) = true := by simp; omega
  go_enter Try.func7, Try.ntmps7
  go_wp2_with (go_at_call 24; (with_reducible refine (awake_any _).mono ?_); rintro e w4 ⟨rfl, h4⟩; have S4 := Lib.hid h4; clear h4)
  go_ret
  exact ⟨rfl, S4.out⟩

/-- what is known when the lots are laid down anew -/
def Laid (w : World) (xs : List Int) (g cap b o : Nat) (W : World) : Prop := W.ownsRow w.heap.size 3 1 (.slice (some ⟨g, 0, none⟩) xs.length cap) xs.length (xs.map (Value.int .i64)) ∧ IntsAt W b o xs ∧ (xs ≠ [] → b < w.heap.size) ∧ Below w.heap.size w W
theorem Laid.draw {w W : World} {xs : List Int} {g cap b o : Nat} (h : Laid w xs g cap b o W) (n : Int) (hl : xs.length ≤ 1000) :
    Calls Try.prog 40 #[.int .i64 n, .slice (some ⟨g, 0, none⟩) xs.length cap] W fun e w' => (drawB n xs = false ∧ e = .returned (.tuple #[.slice none 0 0, .int .i64 2]) ∧ Below W.heap.size W w') ∨ (drawB n xs = true ∧ DrawPost n.toNat xs W e w') :=
  Draw_any n (some ⟨g, 0, none⟩) g 0 cap xs W (fun _ => rfl) (fun _ => (h.1.lt g rfl).2) hl (ownsRow_ints h.1)
theorem Laid.drawF {w W : World} {xs : List Int} {g cap b o : Nat} (h : Laid w xs g cap b o W) {n : Int} (hl : xs.length ≤ 1000) (hd : drawB n xs = false) {k : Nat} (hk : k = xs.length) :
    Calls Try.prog 40 #[.int .i64 n, .slice (some ⟨g, 0, none⟩) k cap] W fun e w' => e = .returned (.tuple #[.slice none 0 0, .int .i64 2]) ∧ Below w.heap.size w w' := by
  subst hk
  refine (h.draw n hl).mono ?_
  rintro e w' (⟨_, h1, h2⟩ | ⟨h1, _⟩)
  · exact ⟨h1, h.2.2.2.trans (h2.mono h.2.2.2.size)⟩
  · rw [hd] at h1; cases h1
/-- an owned row as a slice: nil or not -/
def RowIs (W : World) (v : Value) (ys : List Int) : Prop := ∃ a b c, v = .slice a ys.length c ∧ (ys ≠ [] → a = some ⟨b, 0, none⟩) ∧ IntsAt W b 0 ys ∧ (ys ≠ [] → b < W.heap.size)
theorem row_is {W : World} {base : Nat} {v : Value} {ys : List Int} (h : W.ownsRow base 3 1 v ys.length (ys.map (Value.int .i64))) : RowIs W v ys := by
  by_cases hne : ys = []
  · subst hne
    rcases Joins.ownsRow_forms h with ⟨rfl, _⟩ | ⟨g, cap, rfl⟩
    · exact ⟨none, 0, 0, rfl, fun h => absurd rfl h, fun i a h => by simp at h, fun h => absurd rfl h⟩
    · exact ⟨_, 0, cap, rfl, fun h => absurd rfl h, fun i a h => by simp at h, fun h => absurd rfl h⟩
  · rcases Joins.ownsRow_forms h with ⟨rfl, h0⟩ | ⟨g, cap, rfl⟩
    · exact absurd (List.eq_nil_of_length_eq_zero h0) hne
    · exact ⟨_, g, cap, rfl, fun _ => rfl, ownsRow_ints h, fun _ => (h.lt g rfl).2⟩
theorem Laid.drawT {w W : World} {xs : List Int} {g cap b o : Nat} (h : Laid w xs g cap b o W) {n : Nat} (hl : xs.length ≤ 1000) (hd : drawB n xs = true) {k : Nat} (hk : k = xs.length) :
    Calls Try.prog 40 #[.int .i64 n, .slice (some ⟨g, 0, none⟩) k cap] W fun e w' => ∃ v, e = .returned (.tuple #[v, .int .i64 0]) ∧ RowIs w' v (intsL (drawn n (natsOf xs))) ∧ Below w.heap.size w w' := by
  subst hk
  refine (h.draw n hl).mono ?_
  rintro e w' (⟨h1, _⟩ | ⟨h1, v, h2, h3, h4⟩)
  · rw [hd] at h1; cases h1
  · refine ⟨v, h2, row_is (base := W.heap.size) ?_, h.2.2.2.trans (h4.mono h.2.2.2.size)⟩
    have e1 : (intsL (drawn n (natsOf xs))).length = xs.length := by
      rw [intsL_len, Mis.drawn_len, natsOf_len]
      rw [natsOf_len]
      unfold drawB at hd
      rw [Bool.and_eq_true, Bool.and_eq_true] at hd
      have h5 : (xs.length : Int) ≤ n := by simpa using hd.2.1
      omega
    rw [e1]; rw [Int.toNat_natCast] at h3; exact h3
theorem Laid.of {w W W1 : World} {xs : List Int} {b o : Nat} {v v' : Value} (h0 : Below w.heap.size w W) (hw : W.ownsRow w.heap.size 3 1 v 0 []) (hv : v ≠ .slice none 0 0) (hi : IntsAt w b o xs) (hb : xs ≠ [] → b < w.heap.size)
    (h1 : W1.ownsRow w.heap.size 3 1 v' (0 + xs.length) ([] ++ xs.map (Value.int .i64))) (h2 : W.grownBy W1 v.ownBlock) (h3 : v' = .slice none 0 0 ↔ v = .slice none 0 0 ∧ xs.length = 0) : ∃ g cap, v' = .slice (some ⟨g, 0, none⟩) xs.length cap ∧ Laid w xs g cap b o W1 := by
  rw [Nat.zero_add, List.nil_append] at h1
  have hB : Below w.heap.size w W1 := h0.grown h2 h0.size (fun j e => (hw.lt j e).1)
  rcases Joins.ownsRow_forms h1 with ⟨rfl, _⟩ | ⟨g, cap, rfl⟩
  · exact absurd (h3.1 rfl).1 hv
  · refine ⟨g, cap, rfl, h1, ?_, hb, hB⟩
    by_cases hne : xs = []
    · subst hne; intro i a h; simp at h
    · exact hi.below hB (hb hne)
/-- a slice of numbers that came in -/
theorem ints_src {w : World} {ad : Option Addr} {b o : Nat} {xs : List Int} {a : Addr} (had : xs ≠ [] → ad = some ⟨b, o, none⟩) (ha : ad = some a) (hi : IntsAt w b o xs) : ∀ j u, (xs.map (Value.int .i64))[j]? = some u → w.cell? (a.add j) = some u := by
  intro j u h
  rw [List.getElem?_map] at h
  cases hx : xs[j]? with
  | none => rw [hx] at h; cases h
  | some x =>
    rw [hx] at h
    have hne : xs ≠ [] := by rintro rfl; simp at hx
    rw [had hne] at ha
    cases ha
    rw [← Option.some.inj h]
    have h1 := hi j x hx
    by_cases hj : j = 0
    · subst hj; simpa [Addr.add] using h1
    · simpa [Addr.add, hj] using h1

set_option maxRecDepth 100000 in
set_option maxHeartbeats 2000000 in
theorem MissDraws_bad (n : Int) (ad : Option Addr) (b o cap : Nat) (xs : List Int) (w : World) (had : xs ≠ [] → ad = some ⟨b, o, none⟩) (hnil : ad = none → cap = 0) (hb : xs ≠ [] → b < w.heap.size) (hl : xs.length ≤ 60) (ha : IntsAt w b o xs) (hdb : drawB n xs = false) :
    Calls Try.prog 7 #[.int .i64 n, .slice ad xs.length cap] w fun e w' => e = .returned (.bool true) ∧ Below w.heap.size w w' := by
  obtain ⟨i0, hi, hz0, hz1, hz2⟩ := info_parts tInfo3
  have HA := Lib.hid ha
  have HAD := Lib.hid had
  have HBL := Lib.hid hb
  have HNI := Lib.hid hnil
  have C23 := Lib.hid (fun w => In_any n 0 50 w)
  have ROW := Lib.hid (show (w.alloc (.cells #[] 3)).ownsRow w.heap.size 3 1 (.slice (some ⟨w.heap.size, 0, none⟩) 0 0) 0 [] from World.ownsRow_lit w #[] 0 (Nat.le_refl _) (by unfold maxLen; omega) rfl)
  have B0 := Lib.hid ((Below.refl w.heap.size w).alloc (Nat.le_refl _) (.cells #[] 3))
  have HLL := Lib.hid hl
  have HDB := Lib.hid hdb

  obtain ⟨m, hN⟩ : ∃ k, k = xs.length := ⟨_, rfl⟩
  have HN := Lib.hid hN
  rw [← hN] at hl ⊢
  have t1 : decide ((60 : Int) < (m : Int)) = false := by simp; omega
  have t2 : decide (60 < m) = false := by simp; omega
  have hSRC : Hid (∀ a, ad = some a → ∀ j u, (xs.map (Value.int .i64))[j]? = some u → (w.alloc (.cells #[] 3)).cell? (a.add j) = some u) := Lib.hid fun a h => ints_src had h (by
    by_cases hne : xs = []
    · subst hne; intro i a h; simp at h
    · exact ha.below B0.out (hb hne))
  clear had hb ha hnil hN hdb
  cases ad with
  | none =>
    have hx0 : xs = [] := by
      by_cases h : xs = []
      · exact h
      · cases HAD.out h
    have HM0 : Hid (m = 0) := Lib.hid (by rw [HN.out, hx0]; rfl)
    have HC0 := Lib.hid (HNI.out rfl)
    have hLaid : Laid w xs w.heap.size 0 b o (w.alloc (.cells #[] 3)) := by rw [hx0]; exact ⟨ROW.out, fun i a h => by simp at h, fun h => absurd rfl h, B0.out⟩
    have C40 := Lib.hid (hLaid.drawF (by have := HLL.out; omega) HDB.out (k := 0) (by rw [hx0]; rfl))
    have HI := Lib.hid hLaid.2.1
    clear hLaid hx0
    go_enter Try.func7, Try.ntmps7
    go_wp2_with (at_builtin; refine wpList_append_own_none rfl _ _ 40 rfl w.heap.size 3 i0 1 Try.underlying40 hi _ _ _ rfl ROW.out (by show Value.slice none m cap = _; rw [HM0.out, HC0.out]) ?_)
    go_wp2_with fail
    refine C40.out.mono ?_
    rintro e w3 ⟨rfl, h3⟩
    have HB3 := Lib.hid h3
    clear h3 t1 t2
    cases hq : inB n 0 50 with
    | false =>
      rw [hq] at C23
      clear hq
      go_wp2_with (go_at_call 23; (with_reducible refine (C23.out _).mono ?_); rintro e w' ⟨rfl, rfl⟩)
      go_loop [7, 8] (fun v x => ∃ i : Nat, i ≤ m ∧ x = .int .i64 (i : Int) ∧ v = .bool false) (fun _ x => m - (intOf x).toNat)
      case atStart => exact ⟨0, Nat.zero_le _, rfl, rfl⟩
      case round =>
        obtain ⟨i, hi', rfl, rfl⟩ := hrel
        by_cases hlt : i < m
        · go_wp2
          go_round
          case rel => exact ⟨i + 1, by omega, by go_num, rfl⟩
          case measure => simp [intOf]; omega
        · obtain rfl : i = m := by omega
          go_wp2_with (go_at_call 24; (with_reducible refine (awake_any _).mono ?_); rintro e w4 ⟨rfl, h4⟩; have S4 := Lib.hid h4; clear h4)
          go_ret
          exact ⟨rfl, HB3.out.trans (S4.out.mono HB3.out.size)⟩
    | true =>
      rw [hq] at C23
      by_cases hmn : (m : Int) ≤ n
      · have t3 : decide ((m : Int) ≤ n) = true := by simpa using hmn
        have hall : xs.all lotB = false := by
          have h := HDB.out
          unfold drawB at h
          rw [← HN.out, hq, t3] at h
          simpa using h
        have HALL := Lib.hid hall
        clear hq hmn hall
        go_wp2_with (go_at_call 23; (with_reducible refine (C23.out _).mono ?_); rintro e w' ⟨rfl, rfl⟩)
        go_loop [7, 8] (fun v x => ∃ i : Nat, i ≤ m ∧ x = .int .i64 (i : Int) ∧ v = .bool ((xs.take i).all lotB)) (fun _ x => m - (intOf x).toNat)
        case atStart => exact ⟨0, Nat.zero_le _, rfl, by simp⟩
        case round =>
          obtain ⟨i, hi', rfl, rfl⟩ := hrel
          by_cases hlt : i < m
          · have := HM0.out
            omega
          · obtain rfl : i = m := by omega
            have hf : (xs.take i).all lotB = false := by rw [HN.out, List.take_length]; exact HALL.out
            rw [hf]
            clear hf
            go_wp2_with (go_at_call 24; (with_reducible refine (awake_any _).mono ?_); rintro e w4 ⟨rfl, h4⟩; have S4 := Lib.hid h4; clear h4)
            go_ret
            exact ⟨rfl, HB3.out.trans (S4.out.mono HB3.out.size)⟩
      · have t3 : decide ((m : Int) ≤ n) = false := by simpa using hmn
        clear hq hmn
        go_wp2_with (go_at_call 23; (with_reducible refine (C23.out _).mono ?_); rintro e w' ⟨rfl, rfl⟩)
        go_loop [7, 8] (fun v x => ∃ i : Nat, i ≤ m ∧ x = .int .i64 (i : Int) ∧ v = .bool false) (fun _ x => m - (intOf x).toNat)
        case atStart => exact ⟨0, Nat.zero_le _, rfl, rfl⟩
        case round =>
          obtain ⟨i, hi', rfl, rfl⟩ := hrel
          by_cases hlt : i < m
          · go_wp2
            go_round
            case rel => exact ⟨i + 1, by omega, by go_num, rfl⟩
            case measure => simp [intOf]; omega
          · obtain rfl : i = m := by omega
            go_wp2_with (go_at_call 24; (with_reducible refine (awake_any _).mono ?_); rintro e w4 ⟨rfl, h4⟩; have S4 := Lib.hid h4; clear h4)
            go_ret
            exact ⟨rfl, HB3.out.trans (S4.out.mono HB3.out.size)⟩
  | some a =>
    go_enter Try.func7, Try.ntmps7
    go_wp2_with (at_builtin; refine wpList_append_own _ rfl _ _ 40 rfl w.heap.size 3 i0 (.int .i64 0) 1 8 Try.underlying40 hi hz0 hz1 hz2 rfl (by decide) _ _ _ rfl ROW.out a m _ (xs.map (Value.int .i64)) rfl (by rw [HN.out]; simp) (hSRC.out a rfl) (by intro u hu; simp at hu; obtain ⟨y, _, rfl⟩ := hu; rfl) (by unfold maxLen; omega) (by omega) (by simp) ?_; intro v' w2 hown' hgrow hnil'; have HO2 := Lib.hid hown'; have HG := Lib.hid hgrow; have HV := Lib.hid hnil'; clear hown' hgrow hnil')
    obtain ⟨g, cap2, rfl, hLaid⟩ := Laid.of B0.out ROW.out (by simp) HA.out HBL.out (by rw [← HN.out]; exact HO2.out) HG.out (by rw [← HN.out]; exact HV.out)
    have C40 := Lib.hid (hLaid.drawF (by have := HLL.out; omega) HDB.out HN.out)
    have HI := Lib.hid hLaid.2.1
    rw [← HN.out]
    clear hLaid HO2 HG HV
    go_wp2_with fail
    refine C40.out.mono ?_
    rintro e w3 ⟨rfl, h3⟩
    have HB3 := Lib.hid h3
    clear h3 t1 t2
    cases hq : inB n 0 50 with
    | false =>
      rw [hq] at C23
      clear hq
      go_wp2_with (go_at_call 23; (with_reducible refine (C23.out _).mono ?_); rintro e w' ⟨rfl, rfl⟩)
      go_loop [7, 8] (fun v x => ∃ i : Nat, i ≤ m ∧ x = .int .i64 (i : Int) ∧ v = .bool false) (fun _ x => m - (intOf x).toNat)
      case atStart => exact ⟨0, Nat.zero_le _, rfl, rfl⟩
      case round =>
        obtain ⟨i, hi', rfl, rfl⟩ := hrel
        by_cases hlt : i < m
        · go_wp2
          go_round
          case rel => exact ⟨i + 1, by omega, by go_num, rfl⟩
          case measure => simp [intOf]; omega
        · obtain rfl : i = m := by omega
          go_wp2_with (go_at_call 24; (with_reducible refine (awake_any _).mono ?_); rintro e w4 ⟨rfl, h4⟩; have S4 := Lib.hid h4; clear h4)
          go_ret
          exact ⟨rfl, HB3.out.trans (S4.out.mono HB3.out.size)⟩
    | true =>
      rw [hq] at C23
      by_cases hmn : (m : Int) ≤ n
      · have t3 : decide ((m : Int) ≤ n) = true := by simpa using hmn
        have hall : xs.all lotB = false := by
          have h := HDB.out
          unfold drawB at h
          rw [← HN.out, hq, t3] at h
          simpa using h
        have HALL := Lib.hid hall
        clear hq hmn hall
        go_wp2_with (go_at_call 23; (with_reducible refine (C23.out _).mono ?_); rintro e w' ⟨rfl, rfl⟩)
        go_loop [7, 8] (fun v x => ∃ i : Nat, i ≤ m ∧ x = .int .i64 (i : Int) ∧ v = .bool ((xs.take i).all lotB)) (fun _ x => m - (intOf x).toNat)
        case atStart => exact ⟨0, Nat.zero_le _, rfl, by simp⟩
        case round =>
          obtain ⟨i, hi', rfl, rfl⟩ := hrel
          by_cases hlt : i < m
          · obtain ⟨x, hxi⟩ : ∃ x, xs[i]? = some x := ⟨xs[i]'(by rw [← HN.out]; exact hlt), by simp⟩
            have hne : xs ≠ [] := by rintro rfl; simp at hxi
            have e1 := HAD.out hne
            cases e1
            have k0 : w3.cell? ⟨b, o + i, none⟩ = some (.int .i64 x) := (HB3.out.cell (p := ⟨b, _, none⟩) (HBL.out hne)).trans (HA.out i x hxi)
            have hst : (xs.take (i + 1)).all lotB = ((xs.take i).all lotB && lotB x) := by rw [List.take_add_one, hxi, List.all_append]; simp
            have HST := Lib.hid hst
            clear hst hxi hne
            cases ht : (xs.take i).all lotB with
            | false =>
              rw [ht] at HST
              clear ht
              go_wp2
              go_round
              case rel => exact ⟨i + 1, by omega, by go_num, by rw [HST.out]; rfl⟩
              case measure => simp [intOf]; omega
            | true =>
              rw [ht] at HST
              clear ht
              have hlx : decide (0 ≤ x) = lotB x := rfl
              cases hx : lotB x with
              | false =>
                rw [hx] at HST hlx
                clear hx
                go_wp2
                go_round
                case rel => exact ⟨i + 1, by omega, by go_num, by rw [HST.out]; rfl⟩
                case measure => simp [intOf]; omega
              | true =>
                rw [hx] at HST hlx
                clear hx
                go_wp2
                go_round
                case rel => exact ⟨i + 1, by omega, by go_num, by rw [HST.out]; rfl⟩
                case measure => simp [intOf]; omega
          · obtain rfl : i = m := by omega
            have hf : (xs.take i).all lotB = false := by rw [HN.out, List.take_length]; exact HALL.out
            rw [hf]
            clear hf
            go_wp2_with (go_at_call 24; (with_reducible refine (awake_any _).mono ?_); rintro e w4 ⟨rfl, h4⟩; have S4 := Lib.hid h4; clear h4)
            go_ret
            exact ⟨rfl, HB3.out.trans (S4.out.mono HB3.out.size)⟩
      · have t3 : decide ((m : Int) ≤ n) = false := by simpa using hmn
        clear hq hmn
        go_wp2_with (go_at_call 23; (with_reducible refine (C23.out _).mono ?_); rintro e w' ⟨rfl, rfl⟩)
        go_loop [7, 8] (fun v x => ∃ i : Nat, i ≤ m ∧ x = .int .i64 (i : Int) ∧ v = .bool false) (fun _ x => m - (intOf x).toNat)
        case atStart => exact ⟨0, Nat.zero_le _, rfl, rfl⟩
        case round =>
          obtain ⟨i, hi', rfl, rfl⟩ := hrel
          by_cases hlt : i < m
          · go_wp2
            go_round
            case rel => exact ⟨i + 1, by omega, by go_num, rfl⟩
            case measure => simp [intOf]; omega
          · obtain rfl : i = m := by omega
            go_wp2_with (go_at_call 24; (with_reducible refine (awake_any _).mono ?_); rintro e w4 ⟨rfl, h4⟩; have S4 := Lib.hid h4; clear h4)
            go_ret
            exact ⟨rfl, HB3.out.trans (S4.out.mono HB3.out.size)⟩
set_option maxRecDepth 100000 in
set_option maxHeartbeats 2000000 in
theorem MissDraws_good (n : Int) (ad : Option Addr) (b o cap : Nat) (xs : List Int) (w : World) (had : xs ≠ [] → ad = some ⟨b, o, none⟩) (hnil : ad = none → cap = 0) (hb : xs ≠ [] → b < w.heap.size) (hl : xs.length ≤ 60) (ha : IntsAt w b o xs) (hdb : drawB n xs = true) :
    Calls Try.prog 7 #[.int .i64 n, .slice ad xs.length cap] w fun e w' => e = .returned (.bool true) ∧ Below w.heap.size w w' := by
  obtain ⟨i0, hi, hz0, hz1, hz2⟩ := info_parts tInfo3
  have HA := Lib.hid ha
  have HAD := Lib.hid had
  have HBL := Lib.hid hb
  have HNI := Lib.hid hnil
  have C23 := Lib.hid (fun w => In_any n 0 50 w)
  have ROW := Lib.hid (show (w.alloc (.cells #[] 3)).ownsRow w.heap.size 3 1 (.slice (some ⟨w.heap.size, 0, none⟩) 0 0) 0 [] from World.ownsRow_lit w #[] 0 (Nat.le_refl _) (by unfold maxLen; omega) rfl)
  have B0 := Lib.hid ((Below.refl w.heap.size w).alloc (Nat.le_refl _) (.cells #[] 3))
  have HLL := Lib.hid hl
  have HDB := Lib.hid hdb
  obtain ⟨hq, hmx, hal⟩ : inB n 0 50 = true ∧ (xs.length : Int) ≤ n ∧ xs.all lotB = true := by
    unfold drawB at hdb
    rw [Bool.and_eq_true, Bool.and_eq_true] at hdb
    exact ⟨hdb.1, by simpa using hdb.2.1, hdb.2.2⟩
  have HALL := Lib.hid (List.all_eq_true.1 hal)
  rw [hq] at C23
  obtain ⟨hn0, hn50⟩ := inB_iff.1 hq
  obtain ⟨nn, rfl⟩ : ∃ nn : Nat, n = nn := ⟨n.toNat, by omega⟩
  have HY0 := Lib.hid (show (intsL (drawn nn (natsOf xs))).length = xs.length by rw [intsL_len, Mis.drawn_len, natsOf_len]; rw [natsOf_len]; omega)
  have hmn : xs.length ≤ nn := by omega
  have hn50 : nn ≤ 50 := by omega
  clear hq hal hmx hn0
  obtain ⟨m, hN⟩ : ∃ k, k = xs.length := ⟨_, rfl⟩
  have HN := Lib.hid hN
  rw [← hN] at hl hmn ⊢
  have t1 : decide ((60 : Int) < (m : Int)) = false := by simp; omega
  have t2 : decide (60 < m) = false := by simp; omega
  have hSRC : Hid (∀ a, ad = some a → ∀ j u, (xs.map (Value.int .i64))[j]? = some u → (w.alloc (.cells #[] 3)).cell? (a.add j) = some u) := Lib.hid fun a h => ints_src had h (by
    by_cases hne : xs = []
    · subst hne; intro i a h; simp at h
    · exact ha.below B0.out (hb hne))
  clear had hb ha hnil hN hdb
  cases ad with
  | none =>
    have hx0 : xs = [] := by
      by_cases h : xs = []
      · exact h
      · cases HAD.out h
    have HM0 : Hid (m = 0) := Lib.hid (by rw [HN.out, hx0]; rfl)
    have HC0 := Lib.hid (HNI.out rfl)
    have hLaid : Laid w xs w.heap.size 0 b o (w.alloc (.cells #[] 3)) := by rw [hx0]; exact ⟨ROW.out, fun i a h => by simp at h, fun h => absurd rfl h, B0.out⟩
    have C40 := Lib.hid (hLaid.drawT (by have := HLL.out; omega) HDB.out (k := 0) (by rw [hx0]; rfl))
    have HI := Lib.hid hLaid.2.1
    clear hLaid hx0
    go_enter Try.func7, Try.ntmps7
    go_wp2_with (at_builtin; refine wpList_append_own_none rfl _ _ 40 rfl w.heap.size 3 i0 1 Try.underlying40 hi _ _ _ rfl ROW.out (by show Value.slice none m cap = _; rw [HM0.out, HC0.out]) ?_)
    go_wp2_with fail
    refine C40.out.mono ?_
    rintro e w3 ⟨lv, rfl, hrow, h3⟩
    obtain ⟨la, lb, lc, rfl, hl1, hl2, hl3⟩ := hrow
    have HB3 := Lib.hid h3
    have HL1 := Lib.hid hl1
    have HL2 := Lib.hid hl2
    have HL3 := Lib.hid hl3
    clear h3 hl1 hl2 hl3 t1 t2
    go_wp2_with (go_at_call 23; (with_reducible refine (C23.out _).mono ?_); rintro e w' ⟨rfl, rfl⟩)
    go_loop [7, 8] (fun v x => ∃ i : Nat, i ≤ m ∧ x = .int .i64 (i : Int) ∧ v = .bool true) (fun _ x => m - (intOf x).toNat)
    case atStart => exact ⟨0, Nat.zero_le _, rfl, rfl⟩
    case round =>
      obtain ⟨i, hi', rfl, rfl⟩ := hrel
      by_cases hlt : i < m
      · have := HM0.out
        omega
      · obtain rfl : i = m := by omega
        have C41 := Lib.hid (show ∀ W, Below w.heap.size w W → Calls Try.prog 41 #[.int .i64 (nn : Int), .slice none i cap] W fun e w' => ∃ v, e = .returned v ∧ RowIs w' v (intsL (drawn nn (natsOf xs))) ∧ Below W.heap.size W w' from fun W hW => by
          have h := rDrawn_any nn none b o cap xs W HAD.out (fun h => Nat.lt_of_lt_of_le (HBL.out h) hW.size) hn50 (by rw [← HN.out]; exact hmn) (by
            by_cases hne : xs = []
            · rw [hne]; intro i a h; simp at h
            · exact HA.out.below hW (HBL.out hne)) (List.all_eq_true.2 HALL.out)
          rw [← HN.out] at h
          refine h.mono ?_
          rintro e w' ⟨v, h1, h2, h3⟩
          exact ⟨v, h1, row_is (by rw [intsL_len]; exact h2), h3⟩)
        generalize intsL (drawn nn (natsOf xs)) = ys at *
        go_wp2_with fail
        refine (C41.out _ HB3.out).mono ?_
        rintro e w5 ⟨v5, rfl, hrow5, h5⟩
        obtain ⟨da, db, dc, rfl, hd1, hd2, hd3⟩ := hrow5
        have C30 := Lib.hid (ints_any la da lb 0 db 0 lc dc ys ys w5 HL1.out hd1 (by rw [HY0.out]; have := HLL.out; omega) (by
            by_cases hne : ys = []
            · rw [hne]; intro i a h; simp at h
            · exact HL2.out.below h5 (HL3.out hne)) hd2)
        have H5 := Lib.hid h5
        clear h5 hd1 hd2 hd3
        rw [decide_eq_true rfl] at C30
        go_wp2_with fail
        refine C30.out.mono ?_
        rintro e w6 ⟨rfl, q, rfl⟩
        go_wp2_with (go_at_call 24; (with_reducible refine (awake_any _).mono ?_); rintro e w4 ⟨rfl, h4⟩; have S4 := Lib.hid h4; clear h4)
        go_ret
        have hz : Below w.heap.size w (w5.drewN q) := (HB3.out.trans (H5.out.mono HB3.out.size)).drewN' q
        exact ⟨rfl, hz.trans (S4.out.mono hz.size)⟩
  | some a =>
    go_enter Try.func7, Try.ntmps7
    go_wp2_with (at_builtin; refine wpList_append_own _ rfl _ _ 40 rfl w.heap.size 3 i0 (.int .i64 0) 1 8 Try.underlying40 hi hz0 hz1 hz2 rfl (by decide) _ _ _ rfl ROW.out a m _ (xs.map (Value.int .i64)) rfl (by rw [HN.out]; simp) (hSRC.out a rfl) (by intro u hu; simp at hu; obtain ⟨y, _, rfl⟩ := hu; rfl) (by unfold maxLen; omega) (by omega) (by simp) ?_; intro v' w2 hown' hgrow hnil'; have HO2 := Lib.hid hown'; have HG := Lib.hid hgrow; have HV := Lib.hid hnil'; clear hown' hgrow hnil')
    obtain ⟨g, cap2, rfl, hLaid⟩ := Laid.of B0.out ROW.out (by simp) HA.out HBL.out (by rw [← HN.out]; exact HO2.out) HG.out (by rw [← HN.out]; exact HV.out)
    have C40 := Lib.hid (hLaid.drawT (by have := HLL.out; omega) HDB.out HN.out)
    have HI := Lib.hid hLaid.2.1
    rw [← HN.out]
    clear hLaid HO2 HG HV
    go_wp2_with fail
    refine C40.out.mono ?_
    rintro e w3 ⟨lv, rfl, hrow, h3⟩
    obtain ⟨la, lb, lc, rfl, hl1, hl2, hl3⟩ := hrow
    have HB3 := Lib.hid h3
    have HL1 := Lib.hid hl1
    have HL2 := Lib.hid hl2
    have HL3 := Lib.hid hl3
    clear h3 hl1 hl2 hl3 t1 t2
    go_wp2_with (go_at_call 23; (with_reducible refine (C23.out _).mono ?_); rintro e w' ⟨rfl, rfl⟩)
    go_loop [7, 8] (fun v x => ∃ i : Nat, i ≤ m ∧ x = .int .i64 (i : Int) ∧ v = .bool true) (fun _ x => m - (intOf x).toNat)
    case atStart => exact ⟨0, Nat.zero_le _, rfl, rfl⟩
    case round =>
      obtain ⟨i, hi', rfl, rfl⟩ := hrel
      by_cases hlt : i < m
      · obtain ⟨x, hxi⟩ : ∃ x, xs[i]? = some x := ⟨xs[i]'(by rw [← HN.out]; exact hlt), by simp⟩
        have hne : xs ≠ [] := by rintro rfl; simp at hxi
        have e1 := HAD.out hne
        cases e1
        have k0 : w3.cell? ⟨b, o + i, none⟩ = some (.int .i64 x) := (HB3.out.cell (p := ⟨b, _, none⟩) (HBL.out hne)).trans (HA.out i x hxi)
        have hlx : decide (0 ≤ x) = true := HALL.out x (List.mem_of_getElem? hxi)
        clear hxi hne
        go_wp2
        go_round
        case rel => exact ⟨i + 1, by omega, by go_num, rfl⟩
        case measure => simp [intOf]; omega
      · obtain rfl : i = m := by omega
        have C41 := Lib.hid (show ∀ W, Below w.heap.size w W → Calls Try.prog 41 #[.int .i64 (nn : Int), .slice (some a) i cap] W fun e w' => ∃ v, e = .returned v ∧ RowIs w' v (intsL (drawn nn (natsOf xs))) ∧ Below W.heap.size W w' from fun W hW => by
          have h := rDrawn_any nn (some a) b o cap xs W HAD.out (fun h => Nat.lt_of_lt_of_le (HBL.out h) hW.size) hn50 (by rw [← HN.out]; exact hmn) (by
            by_cases hne : xs = []
            · rw [hne]; intro i a h; simp at h
            · exact HA.out.below hW (HBL.out hne)) (List.all_eq_true.2 HALL.out)
          rw [← HN.out] at h
          refine h.mono ?_
          rintro e w' ⟨v, h1, h2, h3⟩
          exact ⟨v, h1, row_is (by rw [intsL_len]; exact h2), h3⟩)
        generalize intsL (drawn nn (natsOf xs)) = ys at *
        go_wp2_with fail
        refine (C41.out _ HB3.out).mono ?_
        rintro e w5 ⟨v5, rfl, hrow5, h5⟩
        obtain ⟨da, db, dc, rfl, hd1, hd2, hd3⟩ := hrow5
        have C30 := Lib.hid (ints_any la da lb 0 db 0 lc dc ys ys w5 HL1.out hd1 (by rw [HY0.out]; have := HLL.out; omega) (by
            by_cases hne : ys = []
            · rw [hne]; intro i a h; simp at h
            · exact HL2.out.below h5 (HL3.out hne)) hd2)
        have H5 := Lib.hid h5
        clear h5 hd1 hd2 hd3
        rw [decide_eq_true rfl] at C30
        go_wp2_with fail
        refine C30.out.mono ?_
        rintro e w6 ⟨rfl, q, rfl⟩
        go_wp2_with (go_at_call 24; (with_reducible refine (awake_any _).mono ?_); rintro e w4 ⟨rfl, h4⟩; have S4 := Lib.hid h4; clear h4)
        go_ret
        have hz : Below w.heap.size w (w5.drewN q) := (HB3.out.trans (H5.out.mono HB3.out.size)).drewN' q
        exact ⟨rfl, hz.trans (S4.out.mono hz.size)⟩

theorem MissDraws_walk (n : Int) (ad : Option Addr) (b o cap : Nat) (xs : List Int) (w : World) (had : xs ≠ [] → ad = some ⟨b, o, none⟩) (hnil : ad = none → cap = 0) (hb : xs ≠ [] → b < w.heap.size) (ha : IntsAt w b o xs) :
    Calls Try.prog 7 #[.int .i64 n, .slice ad xs.length cap] w fun e w' => e = .returned (.bool true) ∧ Below w.heap.size w w' := by
  by_cases hl : 60 < xs.length
  · exact MissDraws_long n ad cap xs w hl
  · cases hd : drawB n xs with
    | false => exact MissDraws_bad n ad b o cap xs w had hnil hb (by omega) ha hd
    | true => exact MissDraws_good n ad b o cap xs w had hnil hb (by omega) ha hd
end Go.Proofs.Ytkfobnhnehbkeaa
