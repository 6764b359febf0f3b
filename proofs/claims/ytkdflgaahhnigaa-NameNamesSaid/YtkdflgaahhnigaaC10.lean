/- Texts of package name, for this seat. -/
import Derived.Test.YtkdflgaahhnigaaC9
set_option linter.unusedVariables false
set_option linter.unusedSimpArgs false
namespace Go.Proofs.Ytkdflgaahhnigaa
open Go.RowKit Go.Shelf

/-- the search for the lowest limit: the code's own steps -/
def brS (p : Nat → Bool) : Nat → Int → Int → Int
  | 0, _, high => high
  | k+1, low, high => if high - low > 1 then (if p ((low + high) / 2).toNat then brS p k low ((low + high) / 2) else brS p k ((low + high) / 2) high) else high
theorem brS_done (p : Nat → Bool) (k : Nat) (low high : Int) (h : ¬ high - low > 1) : brS p k low high = high := by
  cases k with
  | zero => rfl
  | succ k => rw [brS, if_neg h]
def oneG (R : RB) (ys : List ByteArray) (L : Nat) : Bool := decide ((grpL R ys L).length = 1)
def brN (R : RB) (ys : List ByteArray) : Int := brS (oneG R ys) 5000 (-1) 5000
theorem lenV {w : World} {B : Nat} {v : Value} {tab : List (List Nat)} (h : TabK w B v tab) : ∃ q c, v = .slice q tab.length c := by
  obtain ⟨vs, h1, _⟩ := h
  rcases Joins.ownsRow_forms h1 with ⟨e, e2⟩ | ⟨g, c, e⟩
  · exact ⟨none, 0, by rw [e, e2]⟩
  · exact ⟨_, _, e⟩
set_option maxRecDepth 100000 in
set_option maxHeartbeats 2000000 in
theorem Bridge_bad (a : Option Addr) (g o c n : Nat) (R : RB) (w : World) (hN : R.cls.length = n) (hk : SK w a g o R.cls) (hc : n ≤ c) (ht : Thn R) (an : Option Addr) (gn on cn m : Nat) (ys : List ByteArray) (hkn : SKn w an gn on cn m ys) (hcm : m ≤ cn) (hm : m ≤ 900) (hl : ∀ y, y ∈ ys → y.size ≤ 1000) (v : Nat) (hv : someN R ys = v) (h0 : v ≠ 0) :
    Calls Try.prog 13 #[rulesV a n c R.soft R.al R.ot R.sk R.ss R.db, .slice an m cn] w fun e w' => e = .returned (.tuple #[.int .i64 0, .int .i64 (v : Nat)]) ∧ Below w.heap.size w w' := by
  have CS := Lib.hid (fun W (hW : Below w.heap.size w W) => some_any a g o c n R W hN (hk.below hW) hc ht an gn on cn m ys (hkn.below hW) hm hl)
  rw [hv] at CS
  have t0 : ((v : Int) == 0) = false := by simp; omega
  have t1 : ((v : Int) != 0) = true := by simp; omega
  clear hv h0
  have s0 := (KS.start w).new (rulesC a n c R.soft R.al R.ot R.sk R.ss R.db) 27
  have S0 := Lib.hid s0
  obtain ⟨kb0_0, kb0_1, kb0_2, kb0_3, kb0_4, kb0_5, kb0_6⟩ := (s0.blkAt 0 rfl).c7
  clear s0 hk ht hN hkn hl
  go_enter Try.func13, Try.ntmps13
  go_wp2_with (go_at_call 33; (refine (CS.out _ S0.out.bel).mono ?_); rintro e w1 ⟨rfl, hb⟩; have S1 := Lib.hid (S0.out.below hb); obtain ⟨kc0, kc1, kc2, kc3, kc4, kc5, kc6⟩ := (S1.out.blkAt 0 rfl).c7; clear hb)
  go_ret2
  exact ⟨rfl, S1.out.bel⟩
set_option maxRecDepth 100000 in
set_option maxHeartbeats 2000000 in
theorem Bridge_good (a : Option Addr) (g o c n : Nat) (R : RB) (w : World) (hN : R.cls.length = n) (hk : SK w a g o R.cls) (hc : n ≤ c) (ht : Thn R) (an : Option Addr) (gn on cn m : Nat) (ys : List ByteArray) (hkn : SKn w an gn on cn m ys) (hcm : m ≤ cn) (hm : m ≤ 900) (hl : ∀ y, y ∈ ys → y.size ≤ 1000) (hv : someN R ys = 0) :
    Calls Try.prog 13 #[rulesV a n c R.soft R.al R.ot R.sk R.ss R.db, .slice an m cn] w fun e w' => e = .returned (.tuple #[.int .i64 (brN R ys), .int .i64 0]) ∧ Below w.heap.size w w' := by
  have CS := Lib.hid (fun W (hW : Below w.heap.size w W) => some_any a g o c n R W hN (hk.below hW) hc ht an gn on cn m ys (hkn.below hW) hm hl)
  rw [hv] at CS
  have hv1 := hv
  unfold someN at hv1
  have hv : lstN R ys [] = 0 := by
    rcases Classical.em (lstN R ys [] = 0) with h | h
    · exact h
    · rw [if_neg h] at hv1; exact absurd hv1 h
  rw [if_pos hv] at hv1
  have h0 : 0 < ys.length := by
    rcases Nat.eq_zero_or_pos ys.length with h | h
    · rw [if_pos h] at hv1; cases hv1
    · exact h
  have hv2 := hv
  unfold lstN at hv2
  split at hv2
  · cases hv2
  rename_i h12
  rw [List.append_nil] at hv2
  obtain ⟨hg, hall⟩ := chkN_ok hv2
  have CT := Lib.hid (fun W (hW : Below w.heap.size w W) => table_any a g o c n R W hN (hk.below hW) hc ht an gn on cn m ys hkn.1 (hkn.below hW).2.1 hcm (by omega) hall hg)
  have CG := Lib.hid (fun tv W Bt (L : Nat) (h : TabK W Bt tv (tabL R ys ys)) => groups_any tv L R ys W h (by omega))
  clear hv hv2 h12 hg hall hv1 h0
  have HBR := Lib.hid (show brN R ys = brS (oneG R ys) 5000 (-1) 5000 from rfl)
  have HONE := Lib.hid (fun L => show oneG R ys L = decide ((grpL R ys L).length = 1) from rfl)
  generalize brN R ys = B at *
  have s0 := (KS.start w).new (rulesC a n c R.soft R.al R.ot R.sk R.ss R.db) 27
  have S0 := Lib.hid s0
  obtain ⟨kb0_0, kb0_1, kb0_2, kb0_3, kb0_4, kb0_5, kb0_6⟩ := (s0.blkAt 0 rfl).c7
  clear s0 hk ht hN hkn hl
  go_enter Try.func13, Try.ntmps13
  go_wp2_with (first | (go_at_call 33; (refine (CS.out _ S0.out.bel).mono ?_); rintro e w1 ⟨rfl, hb⟩; have S1 := Lib.hid (S0.out.below hb); obtain ⟨kc0, kc1, kc2, kc3, kc4, kc5, kc6⟩ := (S1.out.blkAt 0 rfl).c7; clear hb) | (go_at_call 24; (refine (CT.out _ S1.out.bel).mono ?_); rintro e w2 ⟨v2, rfl, ht2, hb2⟩; have S2 := Lib.hid (S1.out.below hb2); have HT := Lib.hid ht2; clear ht2 hb2))
  clear kb0_0 kb0_1 kb0_2 kb0_3 kb0_4 kb0_5 kb0_6 kc0 kc1 kc2 kc3 kc4 kc5 kc6
  go_loopw [8, 9] (fun x y wr => ∃ (low high : Int) (k : Nat), x = .int .i64 low ∧ y = .int .i64 high ∧ -1 ≤ low ∧ low < high ∧ high ≤ 5000 ∧ high - low ≤ k + 1 ∧ B = brS (oneG R ys) k low high ∧ TabK wr (w1.heap.size + 1) v2 (tabL R ys ys) ∧ Below w.heap.size w wr) (fun x y _ => (intOf y - intOf x).toNat)
  case atStart => exact ⟨-1, 5000, 5000, rfl, rfl, by omega, by omega, by omega, by omega, HBR.out, HT.out, S2.out.bel⟩
  case round =>
    clear HBR HT S2 S1 S0
    obtain ⟨low, high, k, rfl, rfl, hl1, hl2, hl3, hk, hB, hT, hbel⟩ := hrel
    have HBB := Lib.hid hB
    have HT := Lib.hid hT
    have HW := Lib.hid hbel
    clear hB hT hbel
    have w1' : IntKind.i64.wrap (high - low) = high - low := IntWalk.i64_in _ (by omega)
    by_cases hd : high - low > 1
    · have hd' : 1 < high - low := hd
      have w2' : IntKind.i64.wrap (low + high) = low + high := IntWalk.i64_in _ (by omega)
      obtain ⟨mid, hmid⟩ : ∃ mid : Nat, (low + high) / 2 = (mid : Int) := ⟨((low + high) / 2).toNat, by omega⟩
      have hq : Int.tdiv (low + high) 2 = (mid : Int) := by rw [← hmid, Int.tdiv_eq_ediv_of_nonneg (by omega)]
      obtain ⟨k', rfl⟩ : ∃ k', k = k' + 1 := ⟨k - 1, by omega⟩
      have HST := Lib.hid (show brS (oneG R ys) (k' + 1) low high = if oneG R ys mid then brS (oneG R ys) k' low mid else brS (oneG R ys) k' mid high by
        rw [brS, if_pos hd, hmid]; rfl)
      have hm1 : low < (mid : Int) := by omega
      have hm2 : (mid : Int) < high := by omega
      have w3' : IntKind.i64.wrap (mid : Int) = (mid : Int) := IntWalk.i64_in _ (by omega)
      clear hmid hd
      by_cases hone : (grpL R ys mid).length = 1
      · have HO2 := Lib.hid (show oneG R ys mid = true by rw [HONE.out]; simpa using hone)
        go_wp2_with (go_at_call 23; (refine (CG.out _ _ _ mid HT.out).mono ?_); rintro e w3 ⟨v3, rfl, hv3, hb3⟩; obtain ⟨q3, c3, rfl⟩ := lenV hv3; have HB3 := Lib.hid hb3; clear hv3 hb3)
        go_roundw
        case rel => exact ⟨low, mid, k', rfl, rfl, by omega, by omega, by omega, by omega, by rw [HBB.out, HST.out, HO2.out]; rfl, HT.out.below HB3.out, HW.out.trans (HB3.out.mono HW.out.size)⟩
        case measure => simp [intOf]; omega
      · have HO2 := Lib.hid (show oneG R ys mid = false by rw [HONE.out]; simpa using hone)
        have hone' : ¬ ((grpL R ys mid).length : Int) = 1 := by omega
        go_wp2_with (go_at_call 23; (refine (CG.out _ _ _ mid HT.out).mono ?_); rintro e w3 ⟨v3, rfl, hv3, hb3⟩; obtain ⟨q3, c3, rfl⟩ := lenV hv3; have HB3 := Lib.hid hb3; clear hv3 hb3)
        go_roundw
        case rel => exact ⟨mid, high, k', rfl, rfl, by omega, by omega, by omega, by omega, by rw [HBB.out, HST.out, HO2.out]; rfl, HT.out.below HB3.out, HW.out.trans (HB3.out.mono HW.out.size)⟩
        case measure => simp [intOf]; omega
    · have hd' : ¬ 1 < high - low := hd
      have HE := Lib.hid (show B = high by rw [HBB.out, brS_done _ _ _ _ hd])
      have he := HE.out
      clear hd HBB HE
      subst he
      go_wp2_with fail
      go_ret2
      exact ⟨rfl, HW.out⟩
theorem Bridge_any (a : Option Addr) (g o c n : Nat) (R : RB) (w : World) (hN : R.cls.length = n) (hk : SK w a g o R.cls) (hc : n ≤ c) (ht : Thn R) (an : Option Addr) (gn on cn m : Nat) (ys : List ByteArray) (hkn : SKn w an gn on cn m ys) (hcm : m ≤ cn) (hm : m ≤ 900) (hl : ∀ y, y ∈ ys → y.size ≤ 1000) : Calls Try.prog 13 #[rulesV a n c R.soft R.al R.ot R.sk R.ss R.db, .slice an m cn] w fun e w' => e = .returned (.tuple #[.int .i64 (if someN R ys = 0 then brN R ys else 0), .int .i64 (someN R ys : Nat)]) ∧ Below w.heap.size w w' := by
  by_cases h : someN R ys = 0
  · rw [if_pos h, h]; exact Bridge_good a g o c n R w hN hk hc ht an gn on cn m ys hkn hcm hm hl h
  · rw [if_neg h]; exact Bridge_bad a g o c n R w hN hk hc ht an gn on cn m ys hkn hcm hm hl _ rfl h
end Go.Proofs.Ytkdflgaahhnigaa

namespace Go.Proofs.Ytkdflgaahhnigaa
open Go.RowKit Go.Shelf

/-- the total of a name -/
def totN (R : RB) (ys : List ByteArray) (i : Nat) : Nat := ((tabL R ys ys).getD i []).sum
def ctN (R : RB) (ys : List ByteArray) : Nat := Nm.best (totN R ys) ys.length
theorem sum_take_succ (l : List Nat) (k x : Nat) (h : l[k]? = some x) : (l.take (k + 1)).sum = (l.take k).sum + x := by
  rw [List.take_add_one, h]; simp
theorem sum_take_le (l : List Nat) (b : Nat) (hb : ∀ x, x ∈ l → x ≤ b) : ∀ k, (l.take k).sum ≤ b * k
  | 0 => by simp
  | k+1 => by
    have ih := sum_take_le l b hb k
    cases h : l[k]? with
    | none => rw [List.take_add_one, h]; simp [Nat.mul_add]; omega
    | some x =>
      have := hb x (List.mem_of_getElem? h)
      rw [sum_take_succ l k x h, Nat.mul_add]; omega
set_option maxRecDepth 100000 in
set_option maxHeartbeats 2000000 in
theorem Center_bad (a : Option Addr) (g o c n : Nat) (R : RB) (w : World) (hN : R.cls.length = n) (hk : SK w a g o R.cls) (hc : n ≤ c) (ht : Thn R) (an : Option Addr) (gn on cn m : Nat) (ys : List ByteArray) (hkn : SKn w an gn on cn m ys) (hcm : m ≤ cn) (hm : m ≤ 900) (hl : ∀ y, y ∈ ys → y.size ≤ 1000) (v : Nat) (hv : someN R ys = v) (h0 : v ≠ 0) :
    Calls Try.prog 40 #[rulesV a n c R.soft R.al R.ot R.sk R.ss R.db, .slice an m cn] w fun e w' => e = .returned (.tuple #[.int .i64 0, .int .i64 0, .int .i64 (v : Nat)]) ∧ Below w.heap.size w w' := by
  have CS := Lib.hid (fun W (hW : Below w.heap.size w W) => some_any a g o c n R W hN (hk.below hW) hc ht an gn on cn m ys (hkn.below hW) hm hl)
  rw [hv] at CS
  have t0 : ((v : Int) == 0) = false := by simp; omega
  have t1 : ((v : Int) != 0) = true := by simp; omega
  clear hv h0
  have s0 := (KS.start w).new (rulesC a n c R.soft R.al R.ot R.sk R.ss R.db) 27
  have S0 := Lib.hid s0
  obtain ⟨kb0_0, kb0_1, kb0_2, kb0_3, kb0_4, kb0_5, kb0_6⟩ := (s0.blkAt 0 rfl).c7
  clear s0 hk ht hN hkn hl
  go_enter Try.func40, Try.ntmps40
  go_wp2_with (go_at_call 33; (refine (CS.out _ S0.out.bel).mono ?_); rintro e w1 ⟨rfl, hb⟩; have S1 := Lib.hid (S0.out.below hb); obtain ⟨kc0, kc1, kc2, kc3, kc4, kc5, kc6⟩ := (S1.out.blkAt 0 rfl).c7; clear hb)
  go_ret3
  exact ⟨rfl, S1.out.bel⟩
set_option maxRecDepth 100000 in
set_option maxHeartbeats 2000000 in
theorem Center_good (a : Option Addr) (g o c n : Nat) (R : RB) (w : World) (hN : R.cls.length = n) (hk : SK w a g o R.cls) (hc : n ≤ c) (ht : Thn R) (an : Option Addr) (gn on cn m : Nat) (ys : List ByteArray) (hkn : SKn w an gn on cn m ys) (hcm : m ≤ cn) (hm : m ≤ 900) (hl : ∀ y, y ∈ ys → y.size ≤ 1000) (hv : someN R ys = 0) :
    Calls Try.prog 40 #[rulesV a n c R.soft R.al R.ot R.sk R.ss R.db, .slice an m cn] w fun e w' => e = .returned (.tuple #[.int .i64 (ctN R ys : Nat), .int .i64 (totN R ys (ctN R ys) : Nat), .int .i64 0]) ∧ Below w.heap.size w w' := by
  have CS := Lib.hid (fun W (hW : Below w.heap.size w W) => some_any a g o c n R W hN (hk.below hW) hc ht an gn on cn m ys (hkn.below hW) hm hl)
  rw [hv] at CS
  have hv1 := hv
  unfold someN at hv1
  have hv : lstN R ys [] = 0 := by
    rcases Classical.em (lstN R ys [] = 0) with h | h
    · exact h
    · rw [if_neg h] at hv1; exact absurd hv1 h
  rw [if_pos hv] at hv1
  have h0 : 0 < ys.length := by
    rcases Nat.eq_zero_or_pos ys.length with h | h
    · rw [if_pos h] at hv1; cases hv1
    · exact h
  have hv2 := hv
  unfold lstN at hv2
  split at hv2
  · cases hv2
  rename_i h12
  rw [List.append_nil] at hv2
  obtain ⟨hg, hall⟩ := chkN_ok hv2
  have CT := Lib.hid (fun W (hW : Below w.heap.size w W) => table_any a g o c n R W hN (hk.below hW) hc ht an gn on cn m ys hkn.1 (hkn.below hW).2.1 hcm (by omega) hall hg)
  have hM := hkn.1
  have hm0 : 0 < m := by omega
  have hm12 : m ≤ 12 := by omega
  have hct : ctN R ys = Nm.best (totN R ys) m := by unfold ctN; rw [hM]
  have hrow : ∀ r, r ∈ tabL R ys ys → r.length = m := fun r hr => by
    unfold tabL at hr
    rw [List.mem_map] at hr
    obtain ⟨x, _, rfl⟩ := hr
    rw [costsL, List.length_map, hM]
  have hval : ∀ i x, x ∈ (tabL R ys ys).getD i [] → x ≤ 2400 := fun i x hx => by
    rw [List.getD_eq_getElem?_getD] at hx
    unfold tabL at hx
    rw [List.getElem?_map] at hx
    cases hy : ys[i]? with
    | none => rw [hy] at hx; simp at hx
    | some y =>
      rw [hy] at hx
      simp only [Option.map_some, Option.getD_some] at hx
      unfold costsL at hx
      rw [List.mem_map] at hx
      obtain ⟨z, hz, rfl⟩ := hx
      exact cR_le hg (hall y (List.mem_of_getElem? hy)).1 (hall z hz).1 0 0
  have htl : (tabL R ys ys).length = m := by unfold tabL; rw [List.length_map, hM]
  have HTO := Lib.hid (fun i => show totN R ys i = ((tabL R ys ys).getD i []).sum from rfl)
  rw [hct]
  have CT2 := Lib.hid (fun W hW => (CT.out W hW).mono (R' := fun e w' => ∃ v, e = .returned v ∧ (∃ tg tc, v = .slice (some ⟨tg, 0, none⟩) m tc ∧ ∀ i, i < m → ∃ ug uc, ∀ W2, Below w'.heap.size w' W2 → W2.cell? ⟨tg, i, none⟩ = some (.slice (some ⟨ug, 0, none⟩) m uc) ∧ ∀ k, k < m → W2.cell? ⟨ug, k, none⟩ = some (.int .i64 ((((tabL R ys ys).getD i []).getD k 0 : Nat) : Int))) ∧ Below W.heap.size W w') fun e w' h => by
    obtain ⟨v, h1, h2, h3⟩ := h
    exact ⟨v, h1, h2.reads htl hm0 hrow, h3⟩)
  have HROW := Lib.hid (fun i (hi : i < m) => show ((tabL R ys ys).getD i []).length = m from hrow _ (by
    rw [List.getD_eq_getElem?_getD, List.getElem?_eq_getElem (by omega)]; exact List.getElem_mem _))
  have HVAL := Lib.hid hval
  generalize totN R ys = t at *
  generalize tabL R ys ys = tab at *
  clear hv hv2 h12 hg hall hv1 h0 CT hct hrow hval hM htl
  have s0 := (KS.start w).new (rulesC a n c R.soft R.al R.ot R.sk R.ss R.db) 27
  have S0 := Lib.hid s0
  obtain ⟨kb0_0, kb0_1, kb0_2, kb0_3, kb0_4, kb0_5, kb0_6⟩ := (s0.blkAt 0 rfl).c7
  clear s0 hk ht hN hkn hl
  go_enter Try.func40, Try.ntmps40
  go_wp2_with (first | (go_at_call 33; (refine (CS.out _ S0.out.bel).mono ?_); rintro e w1 ⟨rfl, hb⟩; have S1 := Lib.hid (S0.out.below hb); obtain ⟨kc0, kc1, kc2, kc3, kc4, kc5, kc6⟩ := (S1.out.blkAt 0 rfl).c7; clear hb) | (go_at_call 24; (refine (CT2.out _ S1.out.bel).mono ?_); rintro e w2 ⟨v2, rfl, ⟨tg, tc, rfl, hrd⟩, hb2⟩; have S2 := Lib.hid (S1.out.below hb2); have HRD := Lib.hid hrd; clear hrd hb2))
  clear kb0_0 kb0_1 kb0_2 kb0_3 kb0_4 kb0_5 kb0_6 kc0 kc1 kc2 kc3 kc4 kc5 kc6
  go_loopw [23, 4, 5] (fun y p q wr => wr = w2 ∧ ∃ i b Q : Nat, i ≤ m ∧ y = .int .i64 (i : Int) ∧ p = .int .i64 (b : Int) ∧ q = .int .i64 (Q : Int) ∧ Hid (b = Nm.best t i ∧ Q = if i = 0 then 0 else t (Nm.best t i))) (fun y _ _ _ => m - (intOf y).toNat)
  case atStart => exact ⟨rfl, 0, 0, 0, Nat.zero_le _, rfl, rfl, rfl, rfl, rfl⟩
  case round =>
    obtain ⟨hw, i, b, Q, hi', rfl, rfl, rfl, HQ⟩ := hrel
    replace hw := hw.symm
    subst hw
    by_cases him : i < m
    · obtain ⟨ug, uc, hr2⟩ := HRD.out i him
      obtain ⟨kt, kk⟩ := hr2 w2 (Below.refl _ _)
      have HKK := Lib.hid kk
      have HL := HROW.out i him
      have HV := HVAL.out i
      have HT := HTO.out i
      generalize tab.getD i [] = row at *
      have HSL := Lib.hid (sum_take_le row 2400 HV)
      have hsm : row.sum ≤ 2400 * m := by
        have := HSL.out m
        rwa [List.take_of_length_le (by omega)] at this
      clear hr2 kk
      go_wp2_with fail
      go_loopw [30, 10] (fun y s wr => wr = w2 ∧ ∃ k : Nat, k ≤ m ∧ y = .int .i64 (k : Int) ∧ s = .int .i64 ((row.take k).sum : Nat)) (fun y _ _ => m - (intOf y).toNat)
      case atStart => exact ⟨rfl, 0, Nat.zero_le _, rfl, by simp⟩
      case round =>
        obtain ⟨hw, k, hk', rfl, rfl⟩ := hrel
        replace hw := hw.symm
        subst hw
        have hsk := HSL.out k
        by_cases hkm : k < m
        · have kx := HKK.out k hkm
          have hx : row[k]? = some (row.getD k 0) := by rw [List.getD_eq_getElem?_getD, List.getElem?_eq_getElem (by omega)]; rfl
          have hsx := HSL.out (k + 1)
          have HST := Lib.hid (sum_take_succ row k _ hx)
          rw [HST.out] at hsx
          generalize row.getD k 0 = x at *
          generalize (row.take k).sum = s at *
          have ws : IntKind.i64.wrap ((s : Int) + (x : Int)) = (s : Int) + (x : Int) := IntWalk.i64_in _ (by omega)
          clear hx
          go_wp2_with fail
          go_roundw
          case rel => exact ⟨by trivial, k + 1, by omega, by go_num, by rw [HST.out]; go_num⟩
          case measure => simp [intOf]; omega
        · obtain rfl : k = m := by omega
          have HSM : (row.take k).sum = row.sum := by rw [List.take_of_length_le (by omega)]
          rw [HSM]
          have HTT := Lib.hid HT
          generalize row.sum = T at *
          have HBS := Lib.hid (show Nm.best t (i + 1) = if t i < t (Nm.best t i) then i else Nm.best t i from rfl)
          clear HSM HT hsk
          by_cases hi0 : i = 0
          · have HI0 := Lib.hid hi0
            have p0 : (i : Int) = 0 := by omega
            clear hi0
            go_wp2_with fail
            go_roundw
            case rel =>
              refine ⟨by trivial, i + 1, i, T, by omega, by go_num, by go_num, by go_num, ?_⟩
              have e0 : Nm.best t (i + 1) = i := by rw [HI0.out]; simp [Nm.best]
              exact ⟨e0.symm, by rw [if_neg (by omega), e0]; exact HTT.out.symm⟩
            case measure => simp [intOf]; omega
          · have p0 : ¬ (i : Int) = 0 := by omega
            have HQ2 := HQ.out
            rw [if_neg hi0] at HQ2
            have HQ2' := Lib.hid HQ2
            clear HQ2
            by_cases hlt : T < Q
            · have p1 : (T : Int) < (Q : Int) := by omega
              go_wp2_with fail
              go_roundw
              case rel =>
                refine ⟨by trivial, i + 1, i, T, by omega, by go_num, by go_num, by go_num, ?_⟩
                have e0 : Nm.best t (i + 1) = i := by rw [HBS.out, if_pos (by rw [HTT.out, ← HQ2'.out.2]; exact hlt)]
                exact ⟨e0.symm, by rw [if_neg (by omega), e0]; exact HTT.out.symm⟩
              case measure => simp [intOf]; omega
            · have p1 : ¬ (T : Int) < (Q : Int) := by omega
              go_wp2_with fail
              go_roundw
              case rel =>
                refine ⟨by trivial, i + 1, b, Q, by omega, by go_num, by go_num, by go_num, ?_⟩
                have e0 : Nm.best t (i + 1) = Nm.best t i := by rw [HBS.out, if_neg (by rw [HTT.out, ← HQ2'.out.2]; exact hlt)]
                exact ⟨by rw [e0]; exact HQ2'.out.1, by rw [if_neg (by omega), e0]; exact HQ2'.out.2⟩
              case measure => simp [intOf]; omega
    · obtain rfl : i = m := by omega
      have hne : ¬ i = 0 := by omega
      have HQ2 := HQ.out
      rw [if_neg hne] at HQ2
      obtain ⟨q1, q2⟩ := HQ2
      rw [← q1] at q2
      have HQ3 := Lib.hid (And.intro q1 q2)
      clear q1 q2 HQ
      go_wp2_with fail
      go_ret3
      exact ⟨by rw [← HQ3.out.1, ← HQ3.out.2]; rfl, S2.out.bel⟩
theorem Center_any (a : Option Addr) (g o c n : Nat) (R : RB) (w : World) (hN : R.cls.length = n) (hk : SK w a g o R.cls) (hc : n ≤ c) (ht : Thn R) (an : Option Addr) (gn on cn m : Nat) (ys : List ByteArray) (hkn : SKn w an gn on cn m ys) (hcm : m ≤ cn) (hm : m ≤ 900) (hl : ∀ y, y ∈ ys → y.size ≤ 1000) : Calls Try.prog 40 #[rulesV a n c R.soft R.al R.ot R.sk R.ss R.db, .slice an m cn] w fun e w' => e = .returned (.tuple #[.int .i64 ((if someN R ys = 0 then ctN R ys else 0 : Nat) : Int), .int .i64 ((if someN R ys = 0 then totN R ys (ctN R ys) else 0 : Nat) : Int), .int .i64 (someN R ys : Nat)]) ∧ Below w.heap.size w w' := by
  by_cases h : someN R ys = 0
  · rw [if_pos h, if_pos h, h]; exact Center_good a g o c n R w hN hk hc ht an gn on cn m ys hkn hcm hm hl h
  · rw [if_neg h, if_neg h]; exact Center_bad a g o c n R w hN hk hc ht an gn on cn m ys hkn hcm hm hl _ rfl h
end Go.Proofs.Ytkdflgaahhnigaa

namespace Go.Proofs.Ytkdflgaahhnigaa
open Go.RowKit Go.Shelf

theorem bytes_app (x z : ByteArray) : (x ++ z).data.toList = x.data.toList ++ z.data.toList := by simp
theorem getD_app_lt {x z : List UInt8} {i : Nat} (h : i < x.length) : (x ++ z).getD i 0 = x.getD i 0 := by
  simp [List.getD_eq_getElem?_getD, List.getElem?_append_left h]
theorem getD_sz (x : ByteArray) {i : Nat} (h : i < x.size) : i < x.data.toList.length := by simpa using h
theorem SW_app (sn : UInt8 → UInt8) (al ot : Nat) (x y z u : ByteArray) {i j : Nat} (hi : i < x.size) (hj : j < y.size) : SW sn al ot (x ++ z) (y ++ u) i j = SW sn al ot x y i j := by
  unfold SW
  rw [bytes_app, bytes_app, getD_app_lt (getD_sz x hi), getD_app_lt (getD_sz y hj)]
theorem SW_appL (sn : UInt8 → UInt8) (al ot : Nat) (x y z : ByteArray) {i j : Nat} (hi : i < x.size) : SW sn al ot (x ++ z) y i j = SW sn al ot x y i j := by
  unfold SW
  rw [bytes_app, getD_app_lt (getD_sz x hi)]
theorem SA_app (s : ByteArray) (sk ss db : Nat) (x z : ByteArray) {i : Nat} (hi : i < x.size) : SA s sk ss db (x ++ z) i = SA s sk ss db x i := by
  unfold SA skN
  rw [bytes_app, getD_app_lt (getD_sz x hi), getD_app_lt (getD_sz x (by omega : i - 1 < x.size))]
theorem size_app1 (x z : ByteArray) (hz : z.size = 1) : (x ++ z).size = x.size + 1 := by
  rw [ByteArray.size_append, hz]
/-- a letter appended to one name -/
theorem cR_longer (R : RB) (x y z : ByteArray) (hz : z.size = 1) : cR R (x ++ z) y 0 0 ≤ cR R x y 0 0 + SA R.soft R.sk.toNat R.ss.toNat R.db.toNat (x ++ z) x.size := by
  rw [cR_pf, cR_pf, size_app1 x z hz]
  refine Nat.le_trans (Nm.pf_sa _ _) ?_
  rw [Nm.pf_congr x.size y.size (sw' := SW (sndR R) R.al.toNat R.ot.toNat x y) (sa' := SA R.soft R.sk.toNat R.ss.toNat R.db.toNat x) (sb' := SA R.soft R.sk.toNat R.ss.toNat R.db.toNat y) (fun i j hi _ => SW_appL _ _ _ _ _ _ hi) (fun i hi => SA_app _ _ _ _ _ _ hi) (fun _ _ => rfl)]
  exact Nat.le_refl _
theorem getD_last (x z : ByteArray) : (x ++ z).data.toList.getD x.size 0 = z.data.toList.getD 0 0 := by
  rw [bytes_app, List.getD_eq_getElem?_getD, List.getElem?_append_right (by simp)]
  simp [List.getD_eq_getElem?_getD]
/-- the same letter appended to both -/
theorem cR_both (R : RB) (x y z : ByteArray) (hz : z.size = 1) : cR R (x ++ z) (y ++ z) 0 0 ≤ cR R x y 0 0 := by
  rw [cR_pf, cR_pf, size_app1 x z hz, size_app1 y z hz]
  refine Nat.le_trans (Nm.pf_sw _ _) ?_
  rw [Nm.pf_congr x.size y.size (sw' := SW (sndR R) R.al.toNat R.ot.toNat x y) (sa' := SA R.soft R.sk.toNat R.ss.toNat R.db.toNat x) (sb' := SA R.soft R.sk.toNat R.ss.toNat R.db.toNat y) (fun i j hi hj => SW_app _ _ _ _ _ _ _ hi hj) (fun i hi => SA_app _ _ _ _ _ _ hi) (fun i hi => SA_app _ _ _ _ _ _ hi)]
  have h : SW (sndR R) R.al.toNat R.ot.toNat (x ++ z) (y ++ z) x.size y.size = 0 := by
    unfold SW swN
    rw [getD_last, getD_last, if_pos rfl]
  rw [h]; exact Nat.le_refl _
/-- no cost is higher -/
theorem cR_mono (R R' : RB) (hc : R'.cls = R.cls) (hs : R'.soft = R.soft) (h1 : R'.al.toNat ≤ R.al.toNat) (h2 : R'.ot.toNat ≤ R.ot.toNat) (h3 : R'.sk.toNat ≤ R.sk.toNat) (h4 : R'.ss.toNat ≤ R.ss.toNat) (h5 : R'.db.toNat ≤ R.db.toNat) (x y : ByteArray) :
    cR R' x y 0 0 ≤ cR R x y 0 0 := by
  have hsn : sndR R' = sndR R := by funext b; unfold sndR; rw [hc]
  have ha : ∀ (t : ByteArray) i, SA R'.soft R'.sk.toNat R'.ss.toNat R'.db.toNat t i ≤ SA R.soft R.sk.toNat R.ss.toNat R.db.toNat t i := fun t i => by
    unfold SA skN
    rw [hs]
    split
    · exact h5
    · split
      · exact h4
      · exact h3
  rw [cR_pf, cR_pf, hsn]
  refine Nm.pf_mono (fun i j => ?_) (fun i => ha x i) (fun i => ha y i) _ _
  unfold SW swN
  split
  · exact Nat.le_refl _
  · split
    · exact h1
    · exact h2
def difN (x y : List UInt8) : Nat → Nat
  | 0 => 0
  | k+1 => difN x y k + if x.getD k 0 = y.getD k 0 then 0 else 1
theorem difN_le (x y : List UInt8) : ∀ k, difN x y k ≤ k
  | 0 => Nat.le_refl _
  | k+1 => by
    have := difN_le x y k
    rw [difN]; split <;> omega
/-- names of one length -/
theorem cR_differ (R : RB) (h : R.al.toNat ≤ R.ot.toNat) (x y : ByteArray) (hs : x.size = y.size) : cR R x y 0 0 ≤ difN x.data.toList y.data.toList x.size * R.ot.toNat := by
  rw [cR_pf, ← hs]
  refine Nm.pf_diag _ _ _ (fun k => difN x.data.toList y.data.toList k * R.ot.toNat) (fun i => ?_) (fun i => ?_) (by simp [difN]) _
  · unfold SW swN
    rw [difN]
    split
    · exact Nat.zero_le _
    · rw [Nat.add_mul, Nat.one_mul, Nat.add_sub_cancel_left]
      split
      · exact h
      · exact Nat.le_refl _
  · rw [difN, Nat.add_mul]; exact Nat.le_add_right _ _

/-! ### totals -/
def toX (R : RB) (x : ByteArray) (ys : List ByteArray) : Nat := (ys.map fun y => cR R x y 0 0).sum
theorem totN_get {R : RB} {ys : List ByteArray} {i : Nat} {x : ByteArray} (h : ys[i]? = some x) : totN R ys i = toX R x ys := by
  unfold totN tabL
  rw [List.getD_eq_getElem?_getD, List.getElem?_map, h]; rfl
theorem toX_perm {R : RB} {x : ByteArray} {ys zs : List ByteArray} (h : ys.Perm zs) : toX R x ys = toX R x zs := (h.map _).sum_nat
theorem ctN_lt {R : RB} {ys : List ByteArray} (h : ys ≠ []) : ctN R ys < ys.length := Nm.best_lt _ _ (List.length_pos_iff.2 h)
theorem ctN_le {R : RB} {ys : List ByteArray} {x : ByteArray} (h : x ∈ ys) : totN R ys (ctN R ys) ≤ toX R x ys := by
  obtain ⟨i, hi, e⟩ := List.mem_iff_getElem.1 h
  rw [← totN_get (i := i) (by rw [List.getElem?_eq_getElem hi, e])]
  exact Nm.best_le _ _ _ hi
theorem ctN_is {R : RB} {ys : List ByteArray} (h : ys ≠ []) : ∃ x, x ∈ ys ∧ totN R ys (ctN R ys) = toX R x ys :=
  ⟨ys[ctN R ys]'(ctN_lt h), List.getElem_mem _, totN_get (List.getElem?_eq_getElem (ctN_lt h))⟩
theorem tot_perm {R : RB} {ys zs : List ByteArray} (h : ys.Perm zs) (hn : ys ≠ []) : totN R ys (ctN R ys) = totN R zs (ctN R zs) := by
  have hz : zs ≠ [] := fun e => hn (by rw [e] at h; exact h.eq_nil)
  obtain ⟨x, hx, ex⟩ := ctN_is (R := R) hn
  obtain ⟨y, hy, ey⟩ := ctN_is (R := R) hz
  have h1 := ctN_le (R := R) (h.mem_iff.1 hx)
  have h2 := ctN_le (R := R) (h.mem_iff.2 hy)
  rw [← toX_perm h] at h1
  rw [toX_perm h] at h2
  omega

/-! ### groups -/
def wjR (R : RB) (ys : List ByteArray) (L : Nat) : Nat → Nat → Bool := Nm.wj (rT (tabL R ys ys) L) ys.length
theorem grpL_classes (R : RB) (ys : List ByteArray) (L : Nat) : grpL R ys L = Nm.classes (wjR R ys L) ys.length :=
  (Nm.outer_inv (r := rT (tabL R ys ys) L) (n := ys.length) (fun i => rT_refl R ys L i) (fun i k => rT_comm R ys L i k) ys.length (Nat.le_refl _)).2.2
theorem wjR_refl (R : RB) (ys : List ByteArray) (L i : Nat) : wjR R ys L i i = true := Nm.wj_refl (fun i => rT_refl R ys L i) _ i
theorem wjR_symm (R : RB) (ys : List ByteArray) (L i k : Nat) : wjR R ys L i k = wjR R ys L k i := Nm.wj_symm (fun i k => rT_comm R ys L i k) _ i k
theorem wjR_trans (R : RB) (ys : List ByteArray) (L : Nat) {i m k : Nat} (hm : m < ys.length) (h : wjR R ys L i m = true) (h2 : wjR R ys L m k = true) : wjR R ys L i k = true := Nm.wj_trans _ _ _ _ hm h h2
theorem rT_mono {tab : List (List Nat)} {L L' : Nat} (h : L ≤ L') (i k : Nat) (e : rT tab L i k = true) : rT tab L' i k = true := by
  unfold rT at *
  simp only [decide_eq_true_eq] at *
  omega
theorem wjR_mono (R : RB) (ys : List ByteArray) {L L' : Nat} (h : L ≤ L') {i k : Nat} (e : wjR R ys L i k = true) : wjR R ys L' i k = true := Nm.wj_mono (fun i k => rT_mono h i k) _ _ _ e
theorem wjR_base (R : RB) (ys : List ByteArray) (L : Nat) {i k : Nat} (e : rT (tabL R ys ys) L i k = true) : wjR R ys L i k = true := Nm.wj_base _ _ _ e
theorem rT_cost {R : RB} {ys : List ByteArray} {i k : Nat} {x y : ByteArray} (hi : ys[i]? = some x) (hk : ys[k]? = some y) (L : Nat) : rT (tabL R ys ys) L i k = decide (cR R x y 0 0 ≤ L) := by
  unfold rT
  rw [tabL_get, hi, hk]
/-- one group: all names hang together with the first -/
theorem classes_one (c : Nat → Nat → Bool) (n : Nat) (hr : ∀ i, c i i = true) (hs : ∀ i k, c i k = c k i) (ht : ∀ i m k, m < n → c i m = true → c m k = true → c i k = true) (h0 : 0 < n) :
    (Nm.classes c n).length = 1 ↔ ∀ k, k < n → c 0 k = true := by
  unfold Nm.classes
  rw [List.length_map]
  have hz : (List.range n).filter (fun i => (List.range i).all fun k => !c i k) = 0 :: ((List.range n).tail.filter fun i => (List.range i).all fun k => !c i k) := by
    obtain ⟨m, rfl⟩ : ∃ m, n = m + 1 := ⟨n - 1, by omega⟩
    rw [List.range_succ_eq_map, List.tail_cons, List.filter_cons_of_pos (by simp)]
  rw [hz, List.length_cons]
  constructor
  · intro h k hk
    have he : ((List.range n).tail.filter fun i => (List.range i).all fun k => !c i k) = [] := List.eq_nil_of_length_eq_zero (by omega)
    rw [List.filter_eq_nil_iff] at he
    -- the least member of k's class
    have hmin : ∀ m, ∀ k, k ≤ m → k < n → c 0 k = true := by
      intro m
      induction m with
      | zero => intro k hk _; obtain rfl : k = 0 := by omega
                exact hr 0
      | succ m ih =>
        intro k hkm hkn
        by_cases hk0 : k = 0
        · subst hk0; exact hr 0
        · have := he k (by
            obtain ⟨q, rfl⟩ : ∃ q, n = q + 1 := ⟨n - 1, by omega⟩
            rw [List.range_succ_eq_map, List.tail_cons, List.mem_map]
            exact ⟨k - 1, by rw [List.mem_range]; omega, by simp; omega⟩)
          rw [Bool.not_eq_true] at this
          obtain ⟨j, hj, hjk⟩ := List.all_eq_false.1 this
          rw [List.mem_range] at hj
          have hjk : c k j = true := by simpa using hjk
          rw [hs] at hjk
          exact ht 0 j k (by omega) (ih j (by omega) (by omega)) hjk
    exact hmin k k (Nat.le_refl _) hk
  · intro h
    have he : ((List.range n).tail.filter fun i => (List.range i).all fun k => !c i k) = [] := by
      rw [List.filter_eq_nil_iff]
      intro k hk
      obtain ⟨q, rfl⟩ : ∃ q, n = q + 1 := ⟨n - 1, by omega⟩
      rw [List.range_succ_eq_map, List.tail_cons, List.mem_map] at hk
      obtain ⟨a, ha, rfl⟩ := hk
      rw [List.mem_range] at ha
      have : ((List.range a.succ).all fun k => !c a.succ k) = false := List.all_eq_false.2 ⟨0, by simp, by rw [hs, h _ (by simp; omega)]; simp⟩
      rw [this]; simp
    rw [he]; rfl
theorem oneG_iff (R : RB) (ys : List ByteArray) (L : Nat) (h0 : ys ≠ []) : oneG R ys L = true ↔ ∀ k, k < ys.length → wjR R ys L 0 k = true := by
  unfold oneG
  rw [decide_eq_true_eq, grpL_classes]
  exact classes_one _ _ (wjR_refl R ys L) (wjR_symm R ys L) (fun i m k hm => wjR_trans R ys L hm) (List.length_pos_iff.2 h0)
theorem oneG_mono (R : RB) (ys : List ByteArray) (h0 : ys ≠ []) {L L' : Nat} (h : L ≤ L') (e : oneG R ys L = true) : oneG R ys L' = true := by
  rw [oneG_iff R ys _ h0] at *
  exact fun k hk => wjR_mono R ys h (e k hk)
theorem oneG_all {R : RB} {ys : List ByteArray} (hg : Good R) (hn : NmsOk ys) (h0 : ys ≠ []) {L : Nat} (hL : 2400 ≤ L) : oneG R ys L = true := by
  rw [oneG_iff R ys _ h0]
  intro k hk
  refine wjR_base R ys L ?_
  have h00 : 0 < ys.length := List.length_pos_iff.2 h0
  rw [rT_cost (List.getElem?_eq_getElem h00) (List.getElem?_eq_getElem hk), decide_eq_true_eq]
  exact Nat.le_trans (cR_le hg (hn _ (List.getElem_mem _)).1 (hn _ (List.getElem_mem _)).1 0 0) hL
/-- groups of a list that is not empty: at least one -/
theorem grpL_pos (R : RB) (ys : List ByteArray) (L : Nat) (h0 : ys ≠ []) : 0 < (grpL R ys L).length := by
  rw [grpL_classes]
  unfold Nm.classes
  rw [List.length_map]
  obtain ⟨m, hm⟩ : ∃ m, ys.length = m + 1 := ⟨ys.length - 1, by have := List.length_pos_iff.2 h0; omega⟩
  rw [hm, List.range_succ_eq_map]; simp
/-- the search's answer -/
theorem brS_spec (p : Nat → Bool) : ∀ (k : Nat) (low high : Int), -1 ≤ low → low < high → high - low ≤ k + 1 → p high.toNat = true → (low = -1 ∨ p low.toNat = false) →
    0 ≤ brS p k low high ∧ p (brS p k low high).toNat = true ∧ (brS p k low high = 0 ∨ p ((brS p k low high) - 1).toNat = false)
  | 0, low, high, h1, h2, h3, h4, h5 => by
    rw [brS]
    obtain rfl : high = low + 1 := by omega
    refine ⟨by omega, h4, ?_⟩
    rcases h5 with rfl | h5
    · exact .inl rfl
    · right; rwa [Int.add_sub_cancel]
  | k+1, low, high, h1, h2, h3, h4, h5 => by
    rw [brS]
    by_cases hg : high - low > 1
    · rw [if_pos hg]
      have hm1 : low < (low + high) / 2 := by omega
      have hm2 : (low + high) / 2 < high := by omega
      cases hp : p ((low + high) / 2).toNat with
      | true =>
        rw [if_pos rfl]
        exact brS_spec p k low _ h1 hm1 (by omega) hp h5
      | false =>
        rw [if_neg (by simp)]
        exact brS_spec p k _ high (by omega) hm2 (by omega) h4 (.inr hp)
    · rw [if_neg hg]
      obtain rfl : high = low + 1 := by omega
      refine ⟨by omega, h4, ?_⟩
      rcases h5 with rfl | h5
      · exact .inl rfl
      · right; rwa [Int.add_sub_cancel]
theorem brN_spec {R : RB} {ys : List ByteArray} (hg : Good R) (hn : NmsOk ys) (h0 : ys ≠ []) :
    ∃ b : Nat, brN R ys = (b : Int) ∧ b ≤ 2400 ∧ oneG R ys b = true ∧ ∀ L, L < b → oneG R ys L = false := by
  obtain ⟨h1, h2, h3⟩ := brS_spec (oneG R ys) 5000 (-1) 5000 (by omega) (by omega) (by omega) (oneG_all hg hn h0 (by decide)) (.inl rfl)
  change 0 ≤ brN R ys at h1
  change oneG R ys (brN R ys).toNat = true at h2
  change brN R ys = 0 ∨ oneG R ys (brN R ys - 1).toNat = false at h3
  generalize brN R ys = v at *
  obtain ⟨b, rfl⟩ := Int.eq_ofNat_of_zero_le h1
  have hlow : ∀ L, L < b → oneG R ys L = false := by
    intro L hL
    rcases h3 with h3 | h3
    · omega
    · cases e : oneG R ys L with
      | false => rfl
      | true =>
        have := oneG_mono R ys h0 (by omega : L ≤ ((b : Int) - 1).toNat) e
        rw [h3] at this; cases this
  refine ⟨b, rfl, ?_, h2, hlow⟩
  rcases Nat.lt_or_ge 2400 b with h | h
  · have := hlow 2400 h
    rw [oneG_all hg hn h0 (Nat.le_refl _)] at this; cases this
  · exact h
end Go.Proofs.Ytkdflgaahhnigaa
