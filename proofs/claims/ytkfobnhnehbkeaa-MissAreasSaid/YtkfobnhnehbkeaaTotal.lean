/- The walks of Total and Missed of package miss. -/
import Derived.Test.YtkfobnhnehbkeaaEnough
namespace Go.Proofs.Ytkfobnhnehbkeaa
open Go.RowKit

def rangeA (n d : Nat) (a : A4) : Option (Nat × Nat) := rangeOf a.L.toNat a.M.toNat a.S.toNat a.F.toNat n d
def totStep (n d : Nat) (s : Option (Nat × Nat)) (a : A4) : Option (Nat × Nat) :=
  match s, rangeA n d a with
  | some s, some r => some (s.1 + r.1, s.2 + r.2)
  | _, _ => none
/-- the sum of the ranges -/
def totS (n d : Nat) (xs : List A4) : Option (Nat × Nat) := xs.foldl (totStep n d) (some (0, 0))
theorem totS_snoc (n d : Nat) (xs : List A4) (a : A4) : totS n d (xs ++ [a]) = totStep n d (totS n d xs) a := by simp [totS]
theorem foldl_none (n d : Nat) : ∀ xs : List A4, xs.foldl (totStep n d) none = none
  | [] => rfl
  | _ :: xs => foldl_none n d xs
theorem totStep_none {n d : Nat} {s : Option (Nat × Nat)} {a : A4} (h : rangeA n d a = none) : totStep n d s a = none := by
  unfold totStep
  rw [h]
  cases s <;> rfl
theorem totS_none {n d : Nat} {xs : List A4} {i : Nat} {a : A4} (h : xs[i]? = some a) (hr : rangeA n d a = none) : totS n d xs = none := by
  obtain ⟨hlt, rfl⟩ := List.getElem?_eq_some_iff.1 h
  have e : xs = xs.take i ++ (xs[i] :: xs.drop (i + 1)) := by rw [← List.drop_eq_getElem_cons hlt, List.take_append_drop]
  have t := totStep_none (s := List.foldl (totStep n d) (some (0, 0)) (xs.take i)) hr
  have e2 : totS n d (xs.take i ++ (xs[i] :: xs.drop (i + 1))) = none := by
    unfold totS
    rw [List.foldl_append, List.foldl_cons, t, foldl_none]
  rwa [← e] at e2
def totRes (xs : List A4) (n d : Int) : Nat × Nat × Nat :=
  if 6 < xs.length then (0, 0, 3)
  else if xs.all A4.ok = false then (0, 0, 1)
  else if levB n d = false then (0, 0, 2)
  else match totS n.toNat d.toNat xs with
    | none => (0, 0, 9)
    | some r => (r.1, r.2, 0)
def TotalPost (xs : List A4) (n d : Int) (w : World) (e : Ending) (w' : World) : Prop :=
  e = .returned (.tuple #[rangeV ((totRes xs n d).1 : Nat) ((totRes xs n d).2.1 : Nat), .int .i64 ((totRes xs n d).2.2 : Nat)]) ∧ Below w.heap.size w w'

set_option maxRecDepth 100000 in
set_option maxHeartbeats 1000000 in
theorem Total_limit (ad : Option Addr) (cap : Nat) (xs : List A4) (n d : Int) (w : World) (h : 6 < xs.length) : Calls Try.prog 31 #[.slice ad xs.length cap, fracV n d] w (TotalPost xs n d w) := by
  have HR := Lib.hid (show totRes xs n d = (0, 0, 3) by simp [totRes, h])
  have t1 : decide ((6 : Int) < (xs.length : Int)) = true := by simp; omega
  have HP := Lib.hid (show TotalPost xs n d w = fun e w' => e = .returned (.tuple #[rangeV ((totRes xs n d).1 : Nat) ((totRes xs n d).2.1 : Nat), .int .i64 ((totRes xs n d).2.2 : Nat)]) ∧ Below w.heap.size w w' from rfl)
  rw [HP.out, HR.out]
  clear HP
  generalize xs.length = k at *
  obtain ⟨b1, b2, hb0, hsz⟩ := two_new w #[.int .i64 n, .int .i64 d] #[.int .i64 0, .int .i64 0] 25 48
  have HB := Lib.hid hb0
  clear b1 b2 hb0 hsz
  go_enter Try.func31, Try.ntmps31
  go_wp2
  refine bodyPost_ret (v := .tuple #[rangeV 0 0, .int .i64 3]) (by simp [results, Try.results31, go_sem]) rfl ⟨rfl, ?_⟩
  exact HB.out

set_option maxRecDepth 100000 in
set_option maxHeartbeats 1000000 in
theorem Total_arg (ad : Option Addr) (b o cap : Nat) (xs : List A4) (n d : Int) (w : World) (had : xs ≠ [] → ad = some ⟨b, o, none⟩) (hb : xs ≠ [] → b < w.heap.size) (ha : AreasAt w b o xs) (h : xs.length ≤ 6) (h2 : xs.all A4.ok = false ∨ levB n d = false) :
    Calls Try.prog 31 #[.slice ad xs.length cap, fracV n d] w (TotalPost xs n d w) := by
  have HR := Lib.hid (show totRes xs n d = (0, 0, if xs.all A4.ok = false then 1 else 2) by
    unfold totRes
    rw [if_neg (by omega)]
    cases e : xs.all A4.ok with
    | false => simp
    | true =>
      rw [e] at h2
      rcases h2 with h2 | h2
      · cases h2
      · rw [h2]; simp)
  have t1 : decide ((6 : Int) < (xs.length : Int)) = false := by simp; omega
  have HP := Lib.hid (show TotalPost xs n d w = fun e w' => e = .returned (.tuple #[rangeV ((totRes xs n d).1 : Nat) ((totRes xs n d).2.1 : Nat), .int .i64 ((totRes xs n d).2.2 : Nat)]) ∧ Below w.heap.size w w' from rfl)
  rw [HP.out, HR.out]
  clear HP
  obtain ⟨b1, b2, hb0, hsz⟩ := two_new w #[.int .i64 n, .int .i64 d] #[.int .i64 0, .int .i64 0] 25 48
  have ha' : ∀ W', Below w.heap.size w W' → AreasAt W' b o xs := fun W' hB => by
    by_cases hne : xs = []
    · subst hne; intro i a h; simp at h
    · exact ha.below hB (hb hne)
  have C63 := Lib.hid (fun W' (hB : Below w.heap.size w W') => all_any ad b o cap xs W' had (fun h => Nat.lt_of_lt_of_le (hb h) hB.size) (by omega) (ha' W' hB))
  have C64 := Lib.hid (fun w => level_any n d w)
  clear had hb ha ha' h
  generalize xs.all A4.ok = q at *
  generalize xs.length = k at *
  generalize hlv : levB n d = lv at *
  clear hlv
  cases q with
  | false =>
    clear h2
    go_enter Try.func31, Try.ntmps31
    go_wp2_with fail
    generalize (w.alloc (.cells #[.int .i64 n, .int .i64 d] 25)).alloc (.cells #[.int .i64 0, .int .i64 0] 48) = W0 at *
    refine (C63.out _ hb0).mono ?_
    rintro e w1 ⟨rfl, hb1⟩
    have c2 := b2.below hb1 b2.lt
    obtain ⟨k0, k1, k2, k3⟩ := c2.c2
    have HB := Lib.hid (hb0.trans (hb1.mono hb0.size))
    clear b1 b2 hb0 hsz hb1 c2
    go_wp2
    refine bodyPost_ret (v := .tuple #[rangeV 0 0, .int .i64 1]) (by simp [results, Try.results31, go_sem, k0, k1]) rfl ⟨rfl, ?_⟩
    exact (HB.out.setCell (by show w.heap.size ≤ w.heap.size + 1; omega) _).setCell (by show w.heap.size ≤ w.heap.size + 1; omega) _
  | true =>
    obtain rfl : lv = false := by simpa using h2
    clear h2
    go_enter Try.func31, Try.ntmps31
    go_wp2_with fail
    generalize (w.alloc (.cells #[.int .i64 n, .int .i64 d] 25)).alloc (.cells #[.int .i64 0, .int .i64 0] 48) = W0 at *
    refine (C63.out _ hb0).mono ?_
    rintro e w1 ⟨rfl, hb1⟩
    have c1 := b1.below hb1 b1.lt
    have c2 := b2.below hb1 b2.lt
    obtain ⟨k0, k1, k2, k3⟩ := c1.c2
    have C2 := Lib.hid c2
    have HB := Lib.hid (hb0.trans (hb1.mono hb0.size))
    clear b1 b2 hb0 hsz hb1 c1 c2
    go_wp2_with fail
    refine (C64.out _).mono ?_
    rintro e w2 ⟨rfl, hb2⟩
    have c2 := C2.out.below hb2 C2.out.lt
    obtain ⟨k4, k5, k6, k7⟩ := c2.c2
    have HB2 := Lib.hid (HB.out.trans (hb2.mono HB.out.size))
    clear hb2 c2
    go_wp2
    refine bodyPost_ret (v := .tuple #[rangeV 0 0, .int .i64 2]) (by simp [results, Try.results31, go_sem, k4, k5]) rfl ⟨rfl, ?_⟩
    exact (HB2.out.setCell (by show w.heap.size ≤ w.heap.size + 1; omega) _).setCell (by show w.heap.size ≤ w.heap.size + 1; omega) _

theorem area_nat {L M S F : Int} (h : areaB L M S F = true) : L = (L.toNat : Int) ∧ M = (M.toNat : Int) ∧ S = (S.toNat : Int) ∧ F = (F.toNat : Int) ∧ L.toNat + M.toNat ≤ 50 ∧ S.toNat ≤ L.toNat ∧ F.toNat ≤ S.toNat := by
  simp [areaB, perB, inB] at h
  omega
theorem lev_nat {n d : Int} (h : levB n d = true) : n = (n.toNat : Int) ∧ d = (d.toNat : Int) ∧ 1 ≤ d.toNat ∧ d.toNat ≤ 1000 ∧ n.toNat ≤ d.toNat := by
  simp [levB, inB] at h
  omega
theorem range_le {n d : Nat} {a : A4} {r : Nat × Nat} (h : rangeA n d a = some r) (ha : a.ok = true) : r.1 ≤ 50 ∧ r.2 ≤ 50 := by
  obtain ⟨_, _, _, _, h5, _, _⟩ := area_nat ha
  unfold rangeA rangeOf at h
  obtain ⟨_, _, h1, h2, _⟩ := Mis.rng_some _ _ r.1 r.2 h
  omega
theorem missed_area {n d : Int} (hl : levB n d = true) {a : A4} (ha : a.ok = true) (w : World) :
    Calls Try.prog 65 #[areaV a.L a.M a.S a.F, fracV n d] w fun e w' => e = .returned (.tuple #[rangeV (loOf (rangeA n.toNat d.toNat a)) (hiOf (rangeA n.toNat d.toNat a)), .bool (rangeA n.toNat d.toNat a).isSome]) ∧ Below w.heap.size w w' := by
  obtain ⟨h1, h2, h3, h4, h5, h6, h7⟩ := area_nat ha
  obtain ⟨g1, g2, g3, g4, g5⟩ := lev_nat hl
  have := missed_any a.L.toNat a.M.toNat a.S.toNat a.F.toNat n.toNat d.toNat w h5 h6 h7 (by omega) g4
  rw [← h1, ← h2, ← h3, ← h4, ← g1, ← g2] at this
  exact this
theorem totS_le {n d : Nat} : ∀ (xs : List A4) (s : Nat × Nat) (r : Nat × Nat), (∀ a ∈ xs, a.ok = true) → xs.foldl (totStep n d) (some s) = some r → r.1 ≤ s.1 + 50 * xs.length ∧ r.2 ≤ s.2 + 50 * xs.length
  | [], s, r, _, h => by
    simp at h
    subst h
    simp
  | a :: xs, s, r, ha, h => by
    rw [List.foldl_cons] at h
    cases hr : rangeA n d a with
    | none => rw [totStep_none hr, foldl_none] at h; cases h
    | some q =>
      have e : totStep n d (some s) a = some (s.1 + q.1, s.2 + q.2) := by unfold totStep; rw [hr]
      rw [e] at h
      have ih := totS_le xs _ r (fun b hb => ha b (List.mem_cons_of_mem _ hb)) h
      have hq := range_le hr (ha a (List.mem_cons_self ..))
      simp only [List.length_cons]
      omega
theorem totS_take {n d : Nat} {xs : List A4} {i : Nat} {a : A4} (h : xs[i]? = some a) : totS n d (xs.take (i + 1)) = totStep n d (totS n d (xs.take i)) a := by
  obtain ⟨hlt, rfl⟩ := List.getElem?_eq_some_iff.1 h
  rw [List.take_succ_eq_append_getElem hlt, totS_snoc]

set_option maxRecDepth 100000 in
set_option maxHeartbeats 2000000 in
theorem Total_ok (ad : Option Addr) (b o cap : Nat) (xs : List A4) (n d : Int) (w : World) (had : xs ≠ [] → ad = some ⟨b, o, none⟩) (hb : xs ≠ [] → b < w.heap.size) (ha : AreasAt w b o xs) (h : xs.length ≤ 6) (h2 : xs.all A4.ok = true) (hlv : levB n d = true) :
    Calls Try.prog 31 #[.slice ad xs.length cap, fracV n d] w (TotalPost xs n d w) := by
  have t1 : decide ((6 : Int) < (xs.length : Int)) = false := by simp; omega
  have HR := Lib.hid (show totRes xs n d = (match totS n.toNat d.toNat xs with | none => (0, 0, 9) | some r => (r.1, r.2, 0)) by
    unfold totRes
    rw [if_neg (by omega), h2, hlv]
    rfl)
  have HP := Lib.hid (show TotalPost xs n d w = fun e w' => e = .returned (.tuple #[rangeV ((totRes xs n d).1 : Nat) ((totRes xs n d).2.1 : Nat), .int .i64 ((totRes xs n d).2.2 : Nat)]) ∧ Below w.heap.size w w' from rfl)
  obtain ⟨b1, b2, hb0, hsz⟩ := two_new w #[.int .i64 n, .int .i64 d] #[.int .i64 0, .int .i64 0] 25 48
  have ha' : ∀ W', Below w.heap.size w W' → AreasAt W' b o xs := fun W' hB => by
    by_cases hne : xs = []
    · subst hne; intro i a h; simp at h
    · exact ha.below hB (hb hne)
  have C63 := Lib.hid (fun W' (hB : Below w.heap.size w W') => all_any ad b o cap xs W' had (fun h => Nat.lt_of_lt_of_le (hb h) hB.size) (by omega) (ha' W' hB))
  rw [h2] at C63
  have C64 := Lib.hid (fun w => level_any n d w)
  rw [hlv] at C64
  have OK := Lib.hid (fun a (ha : a ∈ xs) => List.all_eq_true.1 h2 a ha)
  have C65 := Lib.hid (fun a (ha : a ∈ xs) w => missed_area hlv (List.all_eq_true.1 h2 a ha) w)
  have HA := Lib.hid ha'
  have HD := Lib.hid had
  have hN : ∃ k, k = xs.length := ⟨_, rfl⟩
  obtain ⟨k, hN⟩ := hN
  have HN := Lib.hid hN
  have HK := Lib.hid h
  rw [← hN] at h t1 C63
  rw [← hN, HP.out]
  clear hN had hb ha ha' HP h2 hlv
  go_enter Try.func31, Try.ntmps31
  go_wp2_with fail
  generalize (w.alloc (.cells #[.int .i64 n, .int .i64 d] 25)).alloc (.cells #[.int .i64 0, .int .i64 0] 48) = W0 at *
  refine (C63.out _ hb0).mono ?_
  rintro e w1 ⟨rfl, hb1⟩
  have c1 := b1.below hb1 b1.lt
  have c2 := b2.below hb1 b2.lt
  obtain ⟨k0, k1, k2, k3⟩ := c1.c2
  have C1 := Lib.hid c1
  have C2 := Lib.hid c2
  have HB := Lib.hid (hb0.trans (hb1.mono hb0.size))
  clear b1 b2 hb0 hsz hb1 c1 c2
  go_wp2_with fail
  refine (C64.out _).mono ?_
  rintro e w2 ⟨rfl, hb2⟩
  have c1 := (C1.out.below hb2 C1.out.lt).alloc (.cells #[.int .i64 0, .int .i64 0] 48)
  have c2 := (C2.out.below hb2 C2.out.lt).alloc (.cells #[.int .i64 0, .int .i64 0] 48)
  have c3 := Blk.new w2 #[.int .i64 0, .int .i64 0] 48
  have hw2 := HB.out.trans (hb2.mono HB.out.size)
  have HB2 := Lib.hid (hw2.alloc hw2.size (.cells #[.int .i64 0, .int .i64 0] 48))
  have lt2 := (C2.out.below hb2 C2.out.lt).lt
  have D1 := Lib.hid c1
  have D2 := Lib.hid c2
  have D3 := Lib.hid c3
  clear hb2 c1 c2 c3 hw2
  go_wp2_with fail
  generalize w2.alloc (.cells #[.int .i64 0, .int .i64 0] 48) = W2 at *
  generalize w2.heap.size = B6 at *
  go_loopw [28] (fun x wr => ∃ i lo hi : Nat, i ≤ k ∧ x = .int .i64 (i : Int) ∧ totS n.toNat d.toNat (xs.take i) = some (lo, hi) ∧ Blk wr w.heap.size #[.int .i64 n, .int .i64 d] 25 ∧ Blk wr (w.heap.size + 1) #[.int .i64 0, .int .i64 0] 48 ∧ Blk wr B6 #[.int .i64 (lo : Int), .int .i64 (hi : Int)] 48 ∧ Below w.heap.size w wr) (fun x _ => k - (intOf x).toNat)
  case atStart => exact ⟨0, 0, 0, by omega, rfl, rfl, D1.out, D2.out, D3.out, HB2.out⟩
  case round =>
    obtain ⟨i, lo, hi, hik, rfl, htot, g1, g2, g3, gB⟩ := hrel
    have lt3 := g3.lt
    have lt4 := g1.lt
    have G1 := Lib.hid g1
    have G2 := Lib.hid g2
    have G3 := Lib.hid g3
    have GB := Lib.hid gB
    have HT := Lib.hid htot
    clear g1 g2 g3 gB htot
    by_cases hlt : i < k
    · obtain ⟨a, hai⟩ : ∃ a, xs[i]? = some a := ⟨xs[i]'(by rw [← HN.out]; exact hlt), by simp⟩
      have hne : xs ≠ [] := by rintro rfl; simp at hai
      have e1 := HD.out hne
      subst e1
      obtain ⟨k0, k1, k2, k3⟩ := HA.out wr GB.out i a hai
      have hmem := List.mem_of_getElem? hai
      have hok := OK.out a hmem
      have c65 := C65.out a hmem
      have hstep := totS_take (n := n.toNat) (d := d.toNat) hai
      have hle := totS_le (xs.take i) (0, 0) (lo, hi) (fun a ha => OK.out a (List.mem_of_mem_take ha)) HT.out
      have hlen : (xs.take i).length ≤ 6 := Nat.le_trans (List.length_take_le ..) (by have := HK.out; have := HN.out; omega)
      have hrl := fun r (h : rangeA n.toNat d.toNat a = some r) => range_le h hok
      have hnon := fun (h : rangeA n.toNat d.toNat a = none) => totS_none (n := n.toNat) (d := d.toNat) hai h
      rw [HT.out] at hstep
      unfold totStep at hstep
      generalize rangeA n.toNat d.toNat a = r at *
      obtain ⟨L, M, S, F⟩ := a
      simp only [] at k0 k1 k2 k3 c65
      have C65' := Lib.hid c65
      have c1 := G1.out.alloc (.cells #[.int .i64 L, .int .i64 M, .int .i64 S, .int .i64 F] 29)
      obtain ⟨m0, m1, m2, m3⟩ := c1.c2
      have CA1 := Lib.hid c1
      have CA2 := Lib.hid (G2.out.alloc (.cells #[.int .i64 L, .int .i64 M, .int .i64 S, .int .i64 F] 29))
      have CA3 := Lib.hid (G3.out.alloc (.cells #[.int .i64 L, .int .i64 M, .int .i64 S, .int .i64 F] 29))
      have CB := Lib.hid (GB.out.alloc GB.out.size (.cells #[.int .i64 L, .int .i64 M, .int .i64 S, .int .i64 F] 29))
      clear c65 c1 hai hne hmem hok
      obtain ⟨h1, h2⟩ := hle
      have HS := Lib.hid hstep
      have HL := Lib.hid hrl
      have HNo := Lib.hid hnon
      clear hstep hrl hnon
      cases r with
      | none =>
        go_wp2_with (go_at_call 65; (with_reducible refine (C65'.out _).mono ?_); rintro e w3 ⟨rfl, hb⟩; have c2 := (CA2.out.below hb CA2.out.lt).alloc (.cells #[.int .i64 (loOf none : Nat), .int .i64 (hiOf none : Nat)] 48); obtain ⟨q0, q1, q2, q3⟩ := c2.c2; have E2 := Lib.hid c2; have EB0 := CB.out.trans (hb.mono CB.out.size); have EB := Lib.hid (EB0.alloc EB0.size (.cells #[.int .i64 (loOf none : Nat), .int .i64 (hiOf none : Nat)] 48)); clear hb c2 EB0)
        have f2 := (E2.out.set 0 (.int .i64 0)).set 1 (.int .i64 0)
        obtain ⟨p0, p1, p2, p3⟩ := f2.c2
        refine bodyPost_ret (v := .tuple #[rangeV 0 0, .int .i64 9]) (by simp [results, Try.results31, go_sem, p0, p1]) rfl ⟨?_, ?_⟩
        · rw [HR.out, show totS n.toNat d.toNat xs = none from HNo.out trivial]; rfl
        · exact (EB.out.setCell (by show w.heap.size ≤ w.heap.size + 1; omega) _).setCell (by show w.heap.size ≤ w.heap.size + 1; omega) _
      | some q =>
        have hq := HL.out q rfl
        have hq1 : loOf (some q) ≤ 50 := hq.1
        have hq2 : hiOf (some q) ≤ 50 := hq.2
        have e0 : IntKind.i64.wrap ((lo : Int) + (loOf (some q) : Nat)) = ((lo + loOf (some q) : Nat) : Int) := by
          rw [IntWalk.i64_in _ (by simp only [] at h1 h2; omega)]; omega
        have e1 : IntKind.i64.wrap ((hi : Int) + (hiOf (some q) : Nat)) = ((hi + hiOf (some q) : Nat) : Int) := by
          rw [IntWalk.i64_in _ (by simp only [] at h1 h2; omega)]; omega
        go_wp2_with (go_at_call 65; (with_reducible refine (C65'.out _).mono ?_); rintro e w3 ⟨rfl, hb⟩; have c3 := (CA3.out.below hb CA3.out.lt).alloc (.cells #[.int .i64 (loOf (some q) : Nat), .int .i64 (hiOf (some q) : Nat)] 48); have c4 := Blk.new w3 #[.int .i64 (loOf (some q) : Nat), .int .i64 (hiOf (some q) : Nat)] 48; obtain ⟨q0, q1, q2, q3⟩ := c3.c2; obtain ⟨q4, q5, q6, q7⟩ := c4.c2; have E1 := Lib.hid ((CA1.out.below hb CA1.out.lt).alloc (.cells #[.int .i64 (loOf (some q) : Nat), .int .i64 (hiOf (some q) : Nat)] 48)); have E2 := Lib.hid ((CA2.out.below hb CA2.out.lt).alloc (.cells #[.int .i64 (loOf (some q) : Nat), .int .i64 (hiOf (some q) : Nat)] 48)); have E3 := Lib.hid c3; have EB0 := CB.out.trans (hb.mono CB.out.size); have EB := Lib.hid (EB0.alloc EB0.size (.cells #[.int .i64 (loOf (some q) : Nat), .int .i64 (hiOf (some q) : Nat)] 48)); clear hb c3 c4 EB0)
        go_roundw
        case rel =>
          refine ⟨i + 1, lo + loOf (some q), hi + hiOf (some q), by omega, by go_num, HS.out, (E1.out.other (by simp; omega) _).other (by simp; omega) _, (E2.out.other (by simp; omega) _).other (by simp; omega) _, ?_, (EB.out.setCell (by simp; omega) _).setCell (by simp; omega) _⟩
          exact (E3.out.set 0 (.int .i64 ((lo + loOf (some q) : Nat) : Int))).set 1 (.int .i64 ((hi + hiOf (some q) : Nat) : Int))
        case measure => simp [intOf]; omega
    · obtain rfl : i = k := by omega
      obtain ⟨q0, q1, q2, q3⟩ := G3.out.c2
      obtain ⟨q4, q5, q6, q7⟩ := G2.out.c2
      have htt : totS n.toNat d.toNat xs = some (lo, hi) := by
        have h := HT.out
        rwa [HN.out, List.take_length] at h
      have HTT := Lib.hid htt
      clear htt
      go_wp2
      have f2 := (G2.out.set 0 (.int .i64 (lo : Int))).set 1 (.int .i64 (hi : Int))
      obtain ⟨p0, p1, p2, p3⟩ := f2.c2
      refine bodyPost_ret (v := .tuple #[rangeV (lo : Int) (hi : Int), .int .i64 0]) (by simp [results, Try.results31, go_sem, p0, p1]) rfl ⟨?_, ?_⟩
      · rw [HR.out, HTT.out]; rfl
      · exact (GB.out.setCell (by show w.heap.size ≤ w.heap.size + 1; omega) _).setCell (by show w.heap.size ≤ w.heap.size + 1; omega) _
end Go.Proofs.Ytkfobnhnehbkeaa
