/- sheet: all, at pairs and at entries: whatever the test is. -/
import Derived.Test.YtdfebccmjbocjaaGreatDoorZf
set_option linter.unusedVariables false
set_option linter.unusedSimpArgs false
namespace Go.Proofs.YtdfebccmjbocjaaGreatDoor
open Go.RowKit Go.Shelf

def PairsAt (W : World) (b o : Nat) (xs : List (Nat × Nat)) : Prop := ∀ (i : Nat) (p : Nat × Nat), xs[i]? = some p → W.cell? ⟨b, o + i * 2, none⟩ = some (.int .i64 (p.1 : Int)) ∧ W.cell? ⟨b, o + i * 2 + 1, none⟩ = some (.int .i64 (p.2 : Int))
def EntsAt (W : World) (b o : Nat) (xs : List Ent) : Prop := ∀ (i : Nat) (e : Ent), xs[i]? = some e → W.cell? ⟨b, o + i * 5, none⟩ = some (.int .i64 (e.s : Int)) ∧ W.cell? ⟨b, o + i * 5 + 1, none⟩ = some (.int .i64 (e.x : Int)) ∧ W.cell? ⟨b, o + i * 5 + 2, none⟩ = some (.int .i64 (e.k : Int)) ∧ W.cell? ⟨b, o + i * 5 + 3, none⟩ = some (.int .i64 (e.lo : Int)) ∧ W.cell? ⟨b, o + i * 5 + 4, none⟩ = some (.int .i64 (e.hi : Int))
theorem PairsAt.below {W W' : World} {B b o : Nat} {xs : List (Nat × Nat)} (h : PairsAt W b o xs) (hb : Below B W W') (hlt : b < B) : PairsAt W' b o xs := fun i p hi => by
  obtain ⟨h0, h1⟩ := h i p hi
  exact ⟨(hb.cell (p := ⟨b, _, none⟩) hlt).trans h0, (hb.cell (p := ⟨b, _, none⟩) hlt).trans h1⟩
theorem EntsAt.below {W W' : World} {B b o : Nat} {xs : List Ent} (h : EntsAt W b o xs) (hb : Below B W W') (hlt : b < B) : EntsAt W' b o xs := fun i p hi => by
  obtain ⟨h0, h1, h2, h3, h4⟩ := h i p hi
  exact ⟨(hb.cell (p := ⟨b, _, none⟩) hlt).trans h0, (hb.cell (p := ⟨b, _, none⟩) hlt).trans h1, (hb.cell (p := ⟨b, _, none⟩) hlt).trans h2, (hb.cell (p := ⟨b, _, none⟩) hlt).trans h3, (hb.cell (p := ⟨b, _, none⟩) hlt).trans h4⟩
def ClosP (bx : Nat) (p : (Nat × Nat) → Bool) (xs : List (Nat × Nat)) (w : World) : Prop := ∀ x, x ∈ xs → ∀ W, Below w.heap.size w W → Calls Tryz.prog 77 #[prV x, .pointer (some ⟨bx, 0, none⟩)] W fun e w' => e = .returned (.bool (!p x)) ∧ Below W.heap.size W w'
set_option maxRecDepth 100000 in
set_option maxHeartbeats 800000 in
theorem indexP (ad : Option Addr) (b o bx cap n : Nat) (xs : List (Nat × Nat)) (p : (Nat × Nat) → Bool) (w : World) (hN : xs.length = n) (had : xs ≠ [] → ad = some ⟨b, o, none⟩) (hb : xs ≠ [] → b < w.heap.size) (hn : n ≤ 100000) (ha : PairsAt w b o xs) (hc : ClosP bx p xs w) :
    Calls Tryz.prog 109 #[.slice ad n cap, .func (.func 77) #[] #[.pointer (some ⟨bx, 0, none⟩)]] w fun e w' => (∃ r : Int, e = .returned (.int .i64 r) ∧ decide (0 ≤ r) = !(xs.all p) ∧ -1 ≤ r) ∧ Below w.heap.size w w' := by
  have HC := Lib.hid hc
  have HA := Lib.hid ha
  have HD := Lib.hid had
  have HB := Lib.hid hb
  have HN := Lib.hid hN
  clear hc ha had hb hN
  go_enter Tryz.func109, Tryz.ntmps109
  go_wp2
  go_loopw [8] (fun x wr => ∃ i : Nat, i ≤ n ∧ x = .int .i64 (i : Int) ∧ (∀ j a, j < i → xs[j]? = some a → p a = true) ∧ Below w.heap.size w wr) (fun x _ => n - (intOf x).toNat)
  case atStart => exact ⟨0, by omega, rfl, fun j a h => by omega, Below.refl _ _⟩
  case round =>
    obtain ⟨i, hi, rfl, hall, hbw⟩ := hrel
    have H := Lib.hid hall
    have HW := Lib.hid hbw
    by_cases hlt : i < n
    · obtain ⟨x, hai⟩ : ∃ a, xs[i]? = some a := ⟨xs[i]'(by rw [HN.out]; exact hlt), by simp⟩
      have hne : xs ≠ [] := by rintro rfl; simp at hai
      have e1 := HD.out hne
      subst e1
      obtain ⟨k0, k1⟩ := HA.out.below hbw (HB.out hne) i x hai
      have hgl := Nat.lt_of_lt_of_le (HB.out hne) hbw.size
      have HI := Lib.hid hai
      have p0 : (0 : Int) ≤ (i : Int) := by omega
      have p1 : (i : Int) < (n : Int) := by omega
      have C := Lib.hid (HC.out x (List.mem_of_getElem? hai) wr hbw)
      clear hall hbw hai hne
      cases hok : p x with
      | true =>
        rw [hok] at C
        have OK := Lib.hid hok
        clear hok
        go_wp2_with (go_at_call 77; (with_reducible refine C.out.mono ?_); rintro e w' ⟨rfl, hb⟩; have HB' := Lib.hid hb; clear hb)
        go_roundw
        case rel =>
          refine ⟨i + 1, by omega, by go_num, fun j a hj hja => ?_, HW.out.trans (HB'.out.mono HW.out.size)⟩
          rcases Nat.lt_succ_iff_lt_or_eq.1 hj with h | rfl
          · exact H.out j a h hja
          · rw [HI.out] at hja; cases hja; exact OK.out
        case measure => simp [intOf]; omega
      | false =>
        rw [hok] at C
        have OK := Lib.hid hok
        clear hok
        go_wp2_with (go_at_call 77; (with_reducible refine C.out.mono ?_); rintro e w' ⟨rfl, hb⟩; have HB' := Lib.hid hb; clear hb)
        go_ret
        refine ⟨⟨_, rfl, ?_, by omega⟩, HW.out.trans (HB'.out.mono HW.out.size)⟩
        have h1 : xs.all p = false := by
          rw [List.all_eq_false]
          exact ⟨_, List.mem_of_getElem? HI.out, by rw [OK.out]; simp⟩
        rw [h1]; simp
    · obtain rfl : i = n := by omega
      have h1 : xs.all p = true := by
        rw [List.all_eq_true]
        intro a ha
        obtain ⟨j, hj⟩ := List.getElem?_of_mem ha
        have hjl : j < xs.length := (List.getElem?_eq_some_iff.1 hj).1
        exact hall j a (by rw [← HN.out]; exact hjl) hj
      have H1 := Lib.hid h1
      clear hall hbw h1
      go_wp2
      go_ret
      exact ⟨⟨-1, rfl, by rw [H1.out]; rfl, by omega⟩, HW.out⟩
set_option maxRecDepth 100000 in
set_option maxHeartbeats 800000 in
theorem containsP (ad : Option Addr) (b o bx cap n : Nat) (xs : List (Nat × Nat)) (p : (Nat × Nat) → Bool) (w : World) (hN : xs.length = n) (had : xs ≠ [] → ad = some ⟨b, o, none⟩) (hb : xs ≠ [] → b < w.heap.size) (hn : n ≤ 100000) (ha : PairsAt w b o xs) (hc : ClosP bx p xs w) :
    Calls Tryz.prog 76 #[.slice ad n cap, .func (.func 77) #[] #[.pointer (some ⟨bx, 0, none⟩)]] w fun e w' => e = .returned (.bool (!(xs.all p))) ∧ Below w.heap.size w w' := by
  have C := Lib.hid (indexP ad b o bx cap n xs p w hN had hb hn ha hc)
  clear had hb hn ha hc hN
  go_enter Tryz.func76, Tryz.ntmps76
  go_wp2_with (go_at_call 109; (with_reducible refine C.out.mono ?_); rintro e w' ⟨⟨r, rfl, hr, hr1⟩, hb⟩; have HB := Lib.hid hb; have HR := Lib.hid hr; clear hb hr)
  go_ret
  exact ⟨by rw [← HR.out]; rfl, HB.out⟩
set_option maxRecDepth 100000 in
set_option maxHeartbeats 800000 in
theorem allP (f : Nat) (pre post : Array Value) (ad : Option Addr) (b o cap n : Nat) (xs : List (Nat × Nat)) (p : (Nat × Nat) → Bool) (w : World) (hN : xs.length = n) (had : xs ≠ [] → ad = some ⟨b, o, none⟩) (hb : xs ≠ [] → b < w.heap.size) (hn : n ≤ 100000) (ha : PairsAt w b o xs)
    (hc : ∀ bx W, Below w.heap.size w W → Blk W bx #[.func (.func f) pre post] 114 → ClosP bx p xs W) :
    Calls Tryz.prog 43 #[.slice ad n cap, .func (.func f) pre post] w fun e w' => e = .returned (.bool (xs.all p)) ∧ Below w.heap.size w w' := by
  obtain ⟨b1, b2, b3⟩ := one_new w #[.func (.func f) pre post] 114
  have ha' : PairsAt (w.alloc (.cells #[.func (.func f) pre post] 114)) b o xs := by
    by_cases hne : xs = []
    · subst hne; intro i a h; simp at h
    · exact ha.below b2 (hb hne)
  have C := Lib.hid (containsP ad b o w.heap.size cap n xs p _ hN had (fun h => Nat.lt_of_lt_of_le (hb h) b2.size) hn ha' (hc _ _ b2 b1))
  have B2 := Lib.hid b2
  clear had hb hn ha ha' b1 b2 b3 hc hN
  go_enter Tryz.func43, Tryz.ntmps43
  go_wp2_with (go_at_call 76; (with_reducible refine C.out.mono ?_); rintro e w' ⟨rfl, hb⟩; have HB := Lib.hid hb; clear hb)
  go_ret
  exact ⟨by simp, B2.out.trans (HB.out.mono B2.out.size)⟩
def ClosE (bx : Nat) (p : Ent → Bool) (xs : List Ent) (w : World) : Prop := ∀ x, x ∈ xs → ∀ W, Below w.heap.size w W → Calls Tryz.prog 108 #[entV x, .pointer (some ⟨bx, 0, none⟩)] W fun e w' => e = .returned (.bool (!p x)) ∧ Below W.heap.size W w'
set_option maxRecDepth 100000 in
set_option maxHeartbeats 800000 in
theorem indexE (ad : Option Addr) (b o bx cap n : Nat) (xs : List Ent) (p : Ent → Bool) (w : World) (hN : xs.length = n) (had : xs ≠ [] → ad = some ⟨b, o, none⟩) (hb : xs ≠ [] → b < w.heap.size) (hn : n ≤ 100000) (ha : EntsAt w b o xs) (hc : ClosE bx p xs w) :
    Calls Tryz.prog 146 #[.slice ad n cap, .func (.func 108) #[] #[.pointer (some ⟨bx, 0, none⟩)]] w fun e w' => (∃ r : Int, e = .returned (.int .i64 r) ∧ decide (0 ≤ r) = !(xs.all p) ∧ -1 ≤ r) ∧ Below w.heap.size w w' := by
  have HC := Lib.hid hc
  have HA := Lib.hid ha
  have HD := Lib.hid had
  have HB := Lib.hid hb
  have HN := Lib.hid hN
  clear hc ha had hb hN
  go_enter Tryz.func146, Tryz.ntmps146
  go_wp2
  go_loopw [8] (fun x wr => ∃ i : Nat, i ≤ n ∧ x = .int .i64 (i : Int) ∧ (∀ j a, j < i → xs[j]? = some a → p a = true) ∧ Below w.heap.size w wr) (fun x _ => n - (intOf x).toNat)
  case atStart => exact ⟨0, by omega, rfl, fun j a h => by omega, Below.refl _ _⟩
  case round =>
    obtain ⟨i, hi, rfl, hall, hbw⟩ := hrel
    have H := Lib.hid hall
    have HW := Lib.hid hbw
    by_cases hlt : i < n
    · obtain ⟨x, hai⟩ : ∃ a, xs[i]? = some a := ⟨xs[i]'(by rw [HN.out]; exact hlt), by simp⟩
      have hne : xs ≠ [] := by rintro rfl; simp at hai
      have e1 := HD.out hne
      subst e1
      obtain ⟨k0, k1, k2, k3, k4⟩ := HA.out.below hbw (HB.out hne) i x hai
      have hgl := Nat.lt_of_lt_of_le (HB.out hne) hbw.size
      have HI := Lib.hid hai
      have p0 : (0 : Int) ≤ (i : Int) := by omega
      have p1 : (i : Int) < (n : Int) := by omega
      have C := Lib.hid (HC.out x (List.mem_of_getElem? hai) wr hbw)
      clear hall hbw hai hne
      cases hok : p x with
      | true =>
        rw [hok] at C
        have OK := Lib.hid hok
        clear hok
        go_wp2_with (go_at_call 108; (with_reducible refine C.out.mono ?_); rintro e w' ⟨rfl, hb⟩; have HB' := Lib.hid hb; clear hb)
        go_roundw
        case rel =>
          refine ⟨i + 1, by omega, by go_num, fun j a hj hja => ?_, HW.out.trans (HB'.out.mono HW.out.size)⟩
          rcases Nat.lt_succ_iff_lt_or_eq.1 hj with h | rfl
          · exact H.out j a h hja
          · rw [HI.out] at hja; cases hja; exact OK.out
        case measure => simp [intOf]; omega
      | false =>
        rw [hok] at C
        have OK := Lib.hid hok
        clear hok
        go_wp2_with (go_at_call 108; (with_reducible refine C.out.mono ?_); rintro e w' ⟨rfl, hb⟩; have HB' := Lib.hid hb; clear hb)
        go_ret
        refine ⟨⟨_, rfl, ?_, by omega⟩, HW.out.trans (HB'.out.mono HW.out.size)⟩
        have h1 : xs.all p = false := by
          rw [List.all_eq_false]
          exact ⟨_, List.mem_of_getElem? HI.out, by rw [OK.out]; simp⟩
        rw [h1]; simp
    · obtain rfl : i = n := by omega
      have h1 : xs.all p = true := by
        rw [List.all_eq_true]
        intro a ha
        obtain ⟨j, hj⟩ := List.getElem?_of_mem ha
        have hjl : j < xs.length := (List.getElem?_eq_some_iff.1 hj).1
        exact hall j a (by rw [← HN.out]; exact hjl) hj
      have H1 := Lib.hid h1
      clear hall hbw h1
      go_wp2
      go_ret
      exact ⟨⟨-1, rfl, by rw [H1.out]; rfl, by omega⟩, HW.out⟩
set_option maxRecDepth 100000 in
set_option maxHeartbeats 800000 in
theorem containsE (ad : Option Addr) (b o bx cap n : Nat) (xs : List Ent) (p : Ent → Bool) (w : World) (hN : xs.length = n) (had : xs ≠ [] → ad = some ⟨b, o, none⟩) (hb : xs ≠ [] → b < w.heap.size) (hn : n ≤ 100000) (ha : EntsAt w b o xs) (hc : ClosE bx p xs w) :
    Calls Tryz.prog 107 #[.slice ad n cap, .func (.func 108) #[] #[.pointer (some ⟨bx, 0, none⟩)]] w fun e w' => e = .returned (.bool (!(xs.all p))) ∧ Below w.heap.size w w' := by
  have C := Lib.hid (indexE ad b o bx cap n xs p w hN had hb hn ha hc)
  clear had hb hn ha hc hN
  go_enter Tryz.func107, Tryz.ntmps107
  go_wp2_with (go_at_call 146; (with_reducible refine C.out.mono ?_); rintro e w' ⟨⟨r, rfl, hr, hr1⟩, hb⟩; have HB := Lib.hid hb; have HR := Lib.hid hr; clear hb hr)
  go_ret
  exact ⟨by rw [← HR.out]; rfl, HB.out⟩
set_option maxRecDepth 100000 in
set_option maxHeartbeats 800000 in
theorem allE (f : Nat) (pre post : Array Value) (ad : Option Addr) (b o cap n : Nat) (xs : List Ent) (p : Ent → Bool) (w : World) (hN : xs.length = n) (had : xs ≠ [] → ad = some ⟨b, o, none⟩) (hb : xs ≠ [] → b < w.heap.size) (hn : n ≤ 100000) (ha : EntsAt w b o xs)
    (hc : ∀ bx W, Below w.heap.size w W → Blk W bx #[.func (.func f) pre post] 142 → ClosE bx p xs W) :
    Calls Tryz.prog 71 #[.slice ad n cap, .func (.func f) pre post] w fun e w' => e = .returned (.bool (xs.all p)) ∧ Below w.heap.size w w' := by
  obtain ⟨b1, b2, b3⟩ := one_new w #[.func (.func f) pre post] 142
  have ha' : EntsAt (w.alloc (.cells #[.func (.func f) pre post] 142)) b o xs := by
    by_cases hne : xs = []
    · subst hne; intro i a h; simp at h
    · exact ha.below b2 (hb hne)
  have C := Lib.hid (containsE ad b o w.heap.size cap n xs p _ hN had (fun h => Nat.lt_of_lt_of_le (hb h) b2.size) hn ha' (hc _ _ b2 b1))
  have B2 := Lib.hid b2
  clear had hb hn ha ha' b1 b2 b3 hc hN
  go_enter Tryz.func71, Tryz.ntmps71
  go_wp2_with (go_at_call 107; (with_reducible refine C.out.mono ?_); rintro e w' ⟨rfl, hb⟩; have HB := Lib.hid hb; clear hb)
  go_ret
  exact ⟨by simp, B2.out.trans (HB.out.mono B2.out.size)⟩
set_option maxRecDepth 100000 in
set_option maxHeartbeats 1000000 in
theorem clos_valid (x : Ent) (bx : Nat) (w : World) (hc : Blk w bx #[.func (.func 72) #[] #[]] 142) {q : Bool} (hf : ∀ W, Below w.heap.size w W → Calls Tryz.prog 72 #[entV x] W fun e w' => e = .returned (.bool q) ∧ Below W.heap.size W w') :
    Calls Tryz.prog 108 #[entV x, .pointer (some ⟨bx, 0, none⟩)] w fun e w' => e = .returned (.bool (!q)) ∧ Below w.heap.size w w' := by
  have B0 : Below w.heap.size w (w.alloc (.cells (entA x) 82)) := (Below.refl _ _).alloc (Nat.le_refl _) _
  have h0 := (hc.b B0).c1.1
  have hl := hc.lt
  have HF := Lib.hid (hf _ B0)
  have BB := Lib.hid B0
  clear hc hf B0
  go_enter Tryz.func108, Tryz.ntmps108
  go_wp2_with (go_at_call 72; (with_reducible refine HF.out.mono ?_); rintro e w' ⟨rfl, hb⟩; have HB := Lib.hid hb; clear hb)
  go_ret
  exact ⟨rfl, BB.out.trans (HB.out.mono BB.out.size)⟩
set_option maxRecDepth 100000 in
set_option maxHeartbeats 1000000 in
theorem clos_pair (c : Value) (x : (Nat × Nat)) (bx : Nat) (w : World) (hc : Blk w bx #[.func (.func 70) #[c] #[]] 114) {q : Bool} (hf : ∀ W, Below w.heap.size w W → Calls Tryz.prog 70 #[c, prV x] W fun e w' => e = .returned (.bool q) ∧ Below W.heap.size W w') :
    Calls Tryz.prog 77 #[prV x, .pointer (some ⟨bx, 0, none⟩)] w fun e w' => e = .returned (.bool (!q)) ∧ Below w.heap.size w w' := by
  have B0 : Below w.heap.size w (w.alloc (.cells (prA x) 113)) := (Below.refl _ _).alloc (Nat.le_refl _) _
  have h0 := (hc.b B0).c1.1
  have hl := hc.lt
  have HF := Lib.hid (hf _ B0)
  have BB := Lib.hid B0
  clear hc hf B0
  go_enter Tryz.func77, Tryz.ntmps77
  go_wp2_with (go_at_call 70; (with_reducible refine HF.out.mono ?_); rintro e w' ⟨rfl, hb⟩; have HB := Lib.hid hb; clear hb)
  go_ret
  exact ⟨rfl, BB.out.trans (HB.out.mono BB.out.size)⟩
set_option maxRecDepth 100000 in
set_option maxHeartbeats 1000000 in
theorem clos_apart (s : Nat) (x : (Nat × Nat)) (bx : Nat) (w : World) (hc : Blk w bx #[.func (.func 75) #[] #[.pointer (some ⟨s, 0, none⟩)]] 114) {q : Bool} (hf : ∀ W, Below w.heap.size w W → Calls Tryz.prog 75 #[prV x, .pointer (some ⟨s, 0, none⟩)] W fun e w' => e = .returned (.bool q) ∧ Below W.heap.size W w') :
    Calls Tryz.prog 77 #[prV x, .pointer (some ⟨bx, 0, none⟩)] w fun e w' => e = .returned (.bool (!q)) ∧ Below w.heap.size w w' := by
  have B0 : Below w.heap.size w (w.alloc (.cells (prA x) 113)) := (Below.refl _ _).alloc (Nat.le_refl _) _
  have h0 := (hc.b B0).c1.1
  have hl := hc.lt
  have HF := Lib.hid (hf _ B0)
  have BB := Lib.hid B0
  clear hc hf B0
  go_enter Tryz.func77, Tryz.ntmps77
  go_wp2_with (go_at_call 75; (with_reducible refine HF.out.mono ?_); rintro e w' ⟨rfl, hb⟩; have HB := Lib.hid hb; clear hb)
  go_ret
  exact ⟨rfl, BB.out.trans (HB.out.mono BB.out.size)⟩
set_option maxRecDepth 100000 in
set_option maxHeartbeats 1000000 in
theorem clos_same (s : Nat) (x : (Nat × Nat)) (bx : Nat) (w : World) (hc : Blk w bx #[.func (.func 44) #[] #[.pointer (some ⟨s, 0, none⟩)]] 114) {q : Bool} (hf : ∀ W, Below w.heap.size w W → Calls Tryz.prog 44 #[prV x, .pointer (some ⟨s, 0, none⟩)] W fun e w' => e = .returned (.bool q) ∧ Below W.heap.size W w') :
    Calls Tryz.prog 77 #[prV x, .pointer (some ⟨bx, 0, none⟩)] w fun e w' => e = .returned (.bool (!q)) ∧ Below w.heap.size w w' := by
  have B0 : Below w.heap.size w (w.alloc (.cells (prA x) 113)) := (Below.refl _ _).alloc (Nat.le_refl _) _
  have h0 := (hc.b B0).c1.1
  have hl := hc.lt
  have HF := Lib.hid (hf _ B0)
  have BB := Lib.hid B0
  clear hc hf B0
  go_enter Tryz.func77, Tryz.ntmps77
  go_wp2_with (go_at_call 44; (with_reducible refine HF.out.mono ?_); rintro e w' ⟨rfl, hb⟩; have HB := Lib.hid hb; clear hb)
  go_ret
  exact ⟨rfl, BB.out.trans (HB.out.mono BB.out.size)⟩
end Go.Proofs.YtdfebccmjbocjaaGreatDoor
