/- Texts of this seat, merged. -/
import Derived.Test.YtdfebccmjbocjaaGreatDoorMiG5
import Derived.Scope
import Derived.Test.YtdfebccmjbocjaaGreatDoorZs
import Derived.Lib.OwnBridge
import Derived.Shelf.SortM.SortNone
import Derived.Sort.OwnSortedInts
set_option linter.unusedVariables false
set_option linter.unusedSimpArgs false
namespace Go.Proofs.YtdfebccmjbocjaaGreatDoor.Mi
open Go.RowKit

def rangeA (n d : Nat) (a : A4) : Option (Nat × Nat) := rangeOf a.L.toNat a.M.toNat a.S.toNat a.F.toNat n d
def totStep (n d : Nat) (s : Option (Nat × Nat)) (a : A4) : Option (Nat × Nat) :=
  match s, rangeA n d a with
  | some s, some r => some (s.1 + r.1, s.2 + r.2)
  | _, _ => none
/-- the sum of the ranges -/
def totS (n d : Nat) (xs : List A4) : Option (Nat × Nat) := xs.foldl (totStep n d) (some (0, 0))
theorem totS_snoc (n d : Nat) (xs : List A4) (a : A4) : totS n d (xs ++ [a]) = totStep n d (totS n d xs) a := by simp [totS]
theorem foldl_none (n d : Nat) : ∀ xs : List A4, xs.foldl (totStep n d) none = none
  | [] => rfl
  | _ :: xs => foldl_none n d xs
theorem totStep_none {n d : Nat} {s : Option (Nat × Nat)} {a : A4} (h : rangeA n d a = none) : totStep n d s a = none := by
  unfold totStep
  rw [h]
  cases s <;> rfl
theorem totS_none {n d : Nat} {xs : List A4} {i : Nat} {a : A4} (h : xs[i]? = some a) (hr : rangeA n d a = none) : totS n d xs = none := by
  obtain ⟨hlt, rfl⟩ := List.getElem?_eq_some_iff.1 h
  have e : xs = xs.take i ++ (xs[i] :: xs.drop (i + 1)) := by rw [← List.drop_eq_getElem_cons hlt, List.take_append_drop]
  have t := totStep_none (s := List.foldl (totStep n d) (some (0, 0)) (xs.take i)) hr
  have e2 : totS n d (xs.take i ++ (xs[i] :: xs.drop (i + 1))) = none := by
    unfold totS
    rw [List.foldl_append, List.foldl_cons, t, foldl_none]
  rwa [← e] at e2
def totRes (xs : List A4) (n d : Int) : Nat × Nat × Nat :=
  if 6 < xs.length then (0, 0, 3)
  else if xs.all A4.ok = false then (0, 0, 1)
  else if levB n d = false then (0, 0, 2)
  else match totS n.toNat d.toNat xs with
    | none => (0, 0, 9)
    | some r => (r.1, r.2, 0)
def TotalPost (xs : List A4) (n d : Int) (w : World) (e : Ending) (w' : World) : Prop :=
  e = .returned (.tuple #[rangeV ((totRes xs n d).1 : Nat) ((totRes xs n d).2.1 : Nat), .int .i64 ((totRes xs n d).2.2 : Nat)]) ∧ Below w.heap.size w w'

set_option maxRecDepth 100000 in
set_option maxHeartbeats 1000000 in
theorem Total_limit (ad : Option Addr) (cap : Nat) (xs : List A4) (n d : Int) (w : World) (h : 6 < xs.length) : Calls Tryz.prog 60 #[.slice ad xs.length cap, fracV n d] w (TotalPost xs n d w) := by
  have HR := Lib.hid (show totRes xs n d = (0, 0, 3) by simp [totRes, h])
  have t1 : decide ((6 : Int) < (xs.length : Int)) = true := by simp; omega
  have HP := Lib.hid (show TotalPost xs n d w = fun e w' => e = .returned (.tuple #[rangeV ((totRes xs n d).1 : Nat) ((totRes xs n d).2.1 : Nat), .int .i64 ((totRes xs n d).2.2 : Nat)]) ∧ Below w.heap.size w w' from rfl)
  rw [HP.out, HR.out]
  clear HP
  generalize xs.length = k at *
  obtain ⟨b1, b2, hb0, hsz⟩ := two_new w #[.int .i64 n, .int .i64 d] #[.int .i64 0, .int .i64 0] 70 73
  have HB := Lib.hid hb0
  clear b1 b2 hb0 hsz
  go_enter Tryz.func60, Tryz.ntmps60
  go_wp2
  refine bodyPost_ret (v := .tuple #[rangeV 0 0, .int .i64 3]) (by simp [results, Tryz.results60, go_sem]) rfl ⟨rfl, ?_⟩
  exact HB.out

set_option maxRecDepth 100000 in
set_option maxHeartbeats 1000000 in
theorem Total_arg (ad : Option Addr) (b o cap : Nat) (xs : List A4) (n d : Int) (w : World) (had : xs ≠ [] → ad = some ⟨b, o, none⟩) (hb : xs ≠ [] → b < w.heap.size) (ha : AreasAt w b o xs) (h : xs.length ≤ 6) (h2 : xs.all A4.ok = false ∨ levB n d = false) :
    Calls Tryz.prog 60 #[.slice ad xs.length cap, fracV n d] w (TotalPost xs n d w) := by
  have HR := Lib.hid (show totRes xs n d = (0, 0, if xs.all A4.ok = false then 1 else 2) by
    unfold totRes
    rw [if_neg (by omega)]
    cases e : xs.all A4.ok with
    | false => simp
    | true =>
      rw [e] at h2
      rcases h2 with h2 | h2
      · cases h2
      · rw [h2]; simp)
  have t1 : decide ((6 : Int) < (xs.length : Int)) = false := by simp; omega
  have HP := Lib.hid (show TotalPost xs n d w = fun e w' => e = .returned (.tuple #[rangeV ((totRes xs n d).1 : Nat) ((totRes xs n d).2.1 : Nat), .int .i64 ((totRes xs n d).2.2 : Nat)]) ∧ Below w.heap.size w w' from rfl)
  rw [HP.out, HR.out]
  clear HP
  obtain ⟨b1, b2, hb0, hsz⟩ := two_new w #[.int .i64 n, .int .i64 d] #[.int .i64 0, .int .i64 0] 70 73
  have ha' : ∀ W', Below w.heap.size w W' → AreasAt W' b o xs := fun W' hB => by
    by_cases hne : xs = []
    · subst hne; intro i a h; simp at h
    · exact ha.below hB (hb hne)
  have C63 := Lib.hid (fun W' (hB : Below w.heap.size w W') => all_any ad b o cap xs W' had (fun h => Nat.lt_of_lt_of_le (hb h) hB.size) (by omega) (ha' W' hB))
  have C64 := Lib.hid (fun w => level_any n d w)
  clear had hb ha ha' h
  generalize xs.all A4.ok = q at *
  generalize xs.length = k at *
  generalize hlv : levB n d = lv at *
  clear hlv
  cases q with
  | false =>
    clear h2
    go_enter Tryz.func60, Tryz.ntmps60
    go_wp2_with fail
    generalize (w.alloc (.cells #[.int .i64 n, .int .i64 d] 70)).alloc (.cells #[.int .i64 0, .int .i64 0] 73) = W0 at *
    refine (C63.out _ hb0).mono ?_
    rintro e w1 ⟨rfl, hb1⟩
    have c2 := b2.below hb1 b2.lt
    obtain ⟨k0, k1, k2, k3⟩ := c2.c2
    have HB := Lib.hid (hb0.trans (hb1.mono hb0.size))
    clear b1 b2 hb0 hsz hb1 c2
    go_wp2
    refine bodyPost_ret (v := .tuple #[rangeV 0 0, .int .i64 1]) (by simp [results, Tryz.results60, go_sem, k0, k1]) rfl ⟨rfl, ?_⟩
    exact (HB.out.setCell (by show w.heap.size ≤ w.heap.size + 1; omega) _).setCell (by show w.heap.size ≤ w.heap.size + 1; omega) _
  | true =>
    obtain rfl : lv = false := by simpa using h2
    clear h2
    go_enter Tryz.func60, Tryz.ntmps60
    go_wp2_with fail
    generalize (w.alloc (.cells #[.int .i64 n, .int .i64 d] 70)).alloc (.cells #[.int .i64 0, .int .i64 0] 73) = W0 at *
    refine (C63.out _ hb0).mono ?_
    rintro e w1 ⟨rfl, hb1⟩
    have c1 := b1.below hb1 b1.lt
    have c2 := b2.below hb1 b2.lt
    obtain ⟨k0, k1, k2, k3⟩ := c1.c2
    have C2 := Lib.hid c2
    have HB := Lib.hid (hb0.trans (hb1.mono hb0.size))
    clear b1 b2 hb0 hsz hb1 c1 c2
    go_wp2_with fail
    refine (C64.out _).mono ?_
    rintro e w2 ⟨rfl, hb2⟩
    have c2 := C2.out.below hb2 C2.out.lt
    obtain ⟨k4, k5, k6, k7⟩ := c2.c2
    have HB2 := Lib.hid (HB.out.trans (hb2.mono HB.out.size))
    clear hb2 c2
    go_wp2
    refine bodyPost_ret (v := .tuple #[rangeV 0 0, .int .i64 2]) (by simp [results, Tryz.results60, go_sem, k4, k5]) rfl ⟨rfl, ?_⟩
    exact (HB2.out.setCell (by show w.heap.size ≤ w.heap.size + 1; omega) _).setCell (by show w.heap.size ≤ w.heap.size + 1; omega) _

theorem area_nat {L M S F : Int} (h : areaB L M S F = true) : L = (L.toNat : Int) ∧ M = (M.toNat : Int) ∧ S = (S.toNat : Int) ∧ F = (F.toNat : Int) ∧ L.toNat + M.toNat ≤ 50 ∧ S.toNat ≤ L.toNat ∧ F.toNat ≤ S.toNat := by
  simp [areaB, perB, inB] at h
  omega
theorem lev_nat {n d : Int} (h : levB n d = true) : n = (n.toNat : Int) ∧ d = (d.toNat : Int) ∧ 1 ≤ d.toNat ∧ d.toNat ≤ 1000 ∧ n.toNat ≤ d.toNat := by
  simp [levB, inB] at h
  omega
theorem range_le {n d : Nat} {a : A4} {r : Nat × Nat} (h : rangeA n d a = some r) (ha : a.ok = true) : r.1 ≤ 50 ∧ r.2 ≤ 50 := by
  obtain ⟨_, _, _, _, h5, _, _⟩ := area_nat ha
  unfold rangeA rangeOf at h
  obtain ⟨_, _, h1, h2, _⟩ := Mis.rng_some _ _ r.1 r.2 h
  omega
theorem missed_area {n d : Int} (hl : levB n d = true) {a : A4} (ha : a.ok = true) (w : World) :
    Calls Tryz.prog 92 #[areaV a.L a.M a.S a.F, fracV n d] w fun e w' => e = .returned (.tuple #[rangeV (loOf (rangeA n.toNat d.toNat a)) (hiOf (rangeA n.toNat d.toNat a)), .bool (rangeA n.toNat d.toNat a).isSome]) ∧ Below w.heap.size w w' := by
  obtain ⟨h1, h2, h3, h4, h5, h6, h7⟩ := area_nat ha
  obtain ⟨g1, g2, g3, g4, g5⟩ := lev_nat hl
  have := missed_any a.L.toNat a.M.toNat a.S.toNat a.F.toNat n.toNat d.toNat w h5 h6 h7 (by omega) g4
  rw [← h1, ← h2, ← h3, ← h4, ← g1, ← g2] at this
  exact this
theorem totS_le {n d : Nat} : ∀ (xs : List A4) (s : Nat × Nat) (r : Nat × Nat), (∀ a ∈ xs, a.ok = true) → xs.foldl (totStep n d) (some s) = some r → r.1 ≤ s.1 + 50 * xs.length ∧ r.2 ≤ s.2 + 50 * xs.length
  | [], s, r, _, h => by
    simp at h
    subst h
    simp
  | a :: xs, s, r, ha, h => by
    rw [List.foldl_cons] at h
    cases hr : rangeA n d a with
    | none => rw [totStep_none hr, foldl_none] at h; cases h
    | some q =>
      have e : totStep n d (some s) a = some (s.1 + q.1, s.2 + q.2) := by unfold totStep; rw [hr]
      rw [e] at h
      have ih := totS_le xs _ r (fun b hb => ha b (List.mem_cons_of_mem _ hb)) h
      have hq := range_le hr (ha a (List.mem_cons_self ..))
      simp only [List.length_cons]
      omega
theorem totS_take {n d : Nat} {xs : List A4} {i : Nat} {a : A4} (h : xs[i]? = some a) : totS n d (xs.take (i + 1)) = totStep n d (totS n d (xs.take i)) a := by
  obtain ⟨hlt, rfl⟩ := List.getElem?_eq_some_iff.1 h
  rw [List.take_succ_eq_append_getElem hlt, totS_snoc]

set_option maxRecDepth 100000 in
set_option maxHeartbeats 2000000 in
theorem Total_ok (ad : Option Addr) (b o cap : Nat) (xs : List A4) (n d : Int) (w : World) (had : xs ≠ [] → ad = some ⟨b, o, none⟩) (hb : xs ≠ [] → b < w.heap.size) (ha : AreasAt w b o xs) (h : xs.length ≤ 6) (h2 : xs.all A4.ok = true) (hlv : levB n d = true) :
    Calls Tryz.prog 60 #[.slice ad xs.length cap, fracV n d] w (TotalPost xs n d w) := by
  have t1 : decide ((6 : Int) < (xs.length : Int)) = false := by simp; omega
  have HR := Lib.hid (show totRes xs n d = (match totS n.toNat d.toNat xs with | none => (0, 0, 9) | some r => (r.1, r.2, 0)) by
    unfold totRes
    rw [if_neg (by omega), h2, hlv]
    rfl)
  have HP := Lib.hid (show TotalPost xs n d w = fun e w' => e = .returned (.tuple #[rangeV ((totRes xs n d).1 : Nat) ((totRes xs n d).2.1 : Nat), .int .i64 ((totRes xs n d).2.2 : Nat)]) ∧ Below w.heap.size w w' from rfl)
  obtain ⟨b1, b2, hb0, hsz⟩ := two_new w #[.int .i64 n, .int .i64 d] #[.int .i64 0, .int .i64 0] 70 73
  have ha' : ∀ W', Below w.heap.size w W' → AreasAt W' b o xs := fun W' hB => by
    by_cases hne : xs = []
    · subst hne; intro i a h; simp at h
    · exact ha.below hB (hb hne)
  have C63 := Lib.hid (fun W' (hB : Below w.heap.size w W') => all_any ad b o cap xs W' had (fun h => Nat.lt_of_lt_of_le (hb h) hB.size) (by omega) (ha' W' hB))
  rw [h2] at C63
  have C64 := Lib.hid (fun w => level_any n d w)
  rw [hlv] at C64
  have OK := Lib.hid (fun a (ha : a ∈ xs) => List.all_eq_true.1 h2 a ha)
  have C65 := Lib.hid (fun a (ha : a ∈ xs) w => missed_area hlv (List.all_eq_true.1 h2 a ha) w)
  have HA := Lib.hid ha'
  have HD := Lib.hid had
  have hN : ∃ k, k = xs.length := ⟨_, rfl⟩
  obtain ⟨k, hN⟩ := hN
  have HN := Lib.hid hN
  have HK := Lib.hid h
  rw [← hN] at h t1 C63
  rw [← hN, HP.out]
  clear hN had hb ha ha' HP h2 hlv
  go_enter Tryz.func60, Tryz.ntmps60
  go_wp2_with fail
  generalize (w.alloc (.cells #[.int .i64 n, .int .i64 d] 70)).alloc (.cells #[.int .i64 0, .int .i64 0] 73) = W0 at *
  refine (C63.out _ hb0).mono ?_
  rintro e w1 ⟨rfl, hb1⟩
  have c1 := b1.below hb1 b1.lt
  have c2 := b2.below hb1 b2.lt
  obtain ⟨k0, k1, k2, k3⟩ := c1.c2
  have C1 := Lib.hid c1
  have C2 := Lib.hid c2
  have HB := Lib.hid (hb0.trans (hb1.mono hb0.size))
  clear b1 b2 hb0 hsz hb1 c1 c2
  go_wp2_with fail
  refine (C64.out _).mono ?_
  rintro e w2 ⟨rfl, hb2⟩
  have c1 := (C1.out.below hb2 C1.out.lt).alloc (.cells #[.int .i64 0, .int .i64 0] 73)
  have c2 := (C2.out.below hb2 C2.out.lt).alloc (.cells #[.int .i64 0, .int .i64 0] 73)
  have c3 := Blk.new w2 #[.int .i64 0, .int .i64 0] 73
  have hw2 := HB.out.trans (hb2.mono HB.out.size)
  have HB2 := Lib.hid (hw2.alloc hw2.size (.cells #[.int .i64 0, .int .i64 0] 73))
  have lt2 := (C2.out.below hb2 C2.out.lt).lt
  have D1 := Lib.hid c1
  have D2 := Lib.hid c2
  have D3 := Lib.hid c3
  clear hb2 c1 c2 c3 hw2
  go_wp2_with fail
  generalize w2.alloc (.cells #[.int .i64 0, .int .i64 0] 73) = W2 at *
  generalize w2.heap.size = B6 at *
  go_loopw [28] (fun x wr => ∃ i lo hi : Nat, i ≤ k ∧ x = .int .i64 (i : Int) ∧ totS n.toNat d.toNat (xs.take i) = some (lo, hi) ∧ Blk wr w.heap.size #[.int .i64 n, .int .i64 d] 70 ∧ Blk wr (w.heap.size + 1) #[.int .i64 0, .int .i64 0] 73 ∧ Blk wr B6 #[.int .i64 (lo : Int), .int .i64 (hi : Int)] 73 ∧ Below w.heap.size w wr) (fun x _ => k - (intOf x).toNat)
  case atStart => exact ⟨0, 0, 0, by omega, rfl, rfl, D1.out, D2.out, D3.out, HB2.out⟩
  case round =>
    obtain ⟨i, lo, hi, hik, rfl, htot, g1, g2, g3, gB⟩ := hrel
    have lt3 := g3.lt
    have lt4 := g1.lt
    have G1 := Lib.hid g1
    have G2 := Lib.hid g2
    have G3 := Lib.hid g3
    have GB := Lib.hid gB
    have HT := Lib.hid htot
    clear g1 g2 g3 gB htot
    by_cases hlt : i < k
    · obtain ⟨a, hai⟩ : ∃ a, xs[i]? = some a := ⟨xs[i]'(by rw [← HN.out]; exact hlt), by simp⟩
      have hne : xs ≠ [] := by rintro rfl; simp at hai
      have e1 := HD.out hne
      subst e1
      obtain ⟨k0, k1, k2, k3⟩ := HA.out wr GB.out i a hai
      have hmem := List.mem_of_getElem? hai
      have hok := OK.out a hmem
      have c65 := C65.out a hmem
      have hstep := totS_take (n := n.toNat) (d := d.toNat) hai
      have hle := totS_le (xs.take i) (0, 0) (lo, hi) (fun a ha => OK.out a (List.mem_of_mem_take ha)) HT.out
      have hlen : (xs.take i).length ≤ 6 := Nat.le_trans (List.length_take_le ..) (by have := HK.out; have := HN.out; omega)
      have hrl := fun r (h : rangeA n.toNat d.toNat a = some r) => range_le h hok
      have hnon := fun (h : rangeA n.toNat d.toNat a = none) => totS_none (n := n.toNat) (d := d.toNat) hai h
      rw [HT.out] at hstep
      unfold totStep at hstep
      generalize rangeA n.toNat d.toNat a = r at *
      obtain ⟨L, M, S, F⟩ := a
      simp only [] at k0 k1 k2 k3 c65
      have C65' := Lib.hid c65
      have c1 := G1.out.alloc (.cells #[.int .i64 L, .int .i64 M, .int .i64 S, .int .i64 F] 69)
      obtain ⟨m0, m1, m2, m3⟩ := c1.c2
      have CA1 := Lib.hid c1
      have CA2 := Lib.hid (G2.out.alloc (.cells #[.int .i64 L, .int .i64 M, .int .i64 S, .int .i64 F] 69))
      have CA3 := Lib.hid (G3.out.alloc (.cells #[.int .i64 L, .int .i64 M, .int .i64 S, .int .i64 F] 69))
      have CB := Lib.hid (GB.out.alloc GB.out.size (.cells #[.int .i64 L, .int .i64 M, .int .i64 S, .int .i64 F] 69))
      clear c65 c1 hai hne hmem hok
      obtain ⟨h1, h2⟩ := hle
      have HS := Lib.hid hstep
      have HL := Lib.hid hrl
      have HNo := Lib.hid hnon
      clear hstep hrl hnon
      cases r with
      | none =>
        go_wp2_with (go_at_call 92; (with_reducible refine (C65'.out _).mono ?_); rintro e w3 ⟨rfl, hb⟩; have c2 := (CA2.out.below hb CA2.out.lt).alloc (.cells #[.int .i64 (loOf none : Nat), .int .i64 (hiOf none : Nat)] 73); obtain ⟨q0, q1, q2, q3⟩ := c2.c2; have E2 := Lib.hid c2; have EB0 := CB.out.trans (hb.mono CB.out.size); have EB := Lib.hid (EB0.alloc EB0.size (.cells #[.int .i64 (loOf none : Nat), .int .i64 (hiOf none : Nat)] 73)); clear hb c2 EB0)
        have f2 := (E2.out.set 0 (.int .i64 0)).set 1 (.int .i64 0)
        obtain ⟨p0, p1, p2, p3⟩ := f2.c2
        refine bodyPost_ret (v := .tuple #[rangeV 0 0, .int .i64 9]) (by simp [results, Tryz.results60, go_sem, p0, p1]) rfl ⟨?_, ?_⟩
        · rw [HR.out, show totS n.toNat d.toNat xs = none from HNo.out trivial]; rfl
        · exact (EB.out.setCell (by show w.heap.size ≤ w.heap.size + 1; omega) _).setCell (by show w.heap.size ≤ w.heap.size + 1; omega) _
      | some q =>
        have hq := HL.out q rfl
        have hq1 : loOf (some q) ≤ 50 := hq.1
        have hq2 : hiOf (some q) ≤ 50 := hq.2
        have e0 : IntKind.i64.wrap ((lo : Int) + (loOf (some q) : Nat)) = ((lo + loOf (some q) : Nat) : Int) := by
          rw [IntWalk.i64_in _ (by simp only [] at h1 h2; omega)]; omega
        have e1 : IntKind.i64.wrap ((hi : Int) + (hiOf (some q) : Nat)) = ((hi + hiOf (some q) : Nat) : Int) := by
          rw [IntWalk.i64_in _ (by simp only [] at h1 h2; omega)]; omega
        go_wp2_with (go_at_call 92; (with_reducible refine (C65'.out _).mono ?_); rintro e w3 ⟨rfl, hb⟩; have c3 := (CA3.out.below hb CA3.out.lt).alloc (.cells #[.int .i64 (loOf (some q) : Nat), .int .i64 (hiOf (some q) : Nat)] 73); have c4 := Blk.new w3 #[.int .i64 (loOf (some q) : Nat), .int .i64 (hiOf (some q) : Nat)] 73; obtain ⟨q0, q1, q2, q3⟩ := c3.c2; obtain ⟨q4, q5, q6, q7⟩ := c4.c2; have E1 := Lib.hid ((CA1.out.below hb CA1.out.lt).alloc (.cells #[.int .i64 (loOf (some q) : Nat), .int .i64 (hiOf (some q) : Nat)] 73)); have E2 := Lib.hid ((CA2.out.below hb CA2.out.lt).alloc (.cells #[.int .i64 (loOf (some q) : Nat), .int .i64 (hiOf (some q) : Nat)] 73)); have E3 := Lib.hid c3; have EB0 := CB.out.trans (hb.mono CB.out.size); have EB := Lib.hid (EB0.alloc EB0.size (.cells #[.int .i64 (loOf (some q) : Nat), .int .i64 (hiOf (some q) : Nat)] 73)); clear hb c3 c4 EB0)
        go_roundw
        case rel =>
          refine ⟨i + 1, lo + loOf (some q), hi + hiOf (some q), by omega, by go_num, HS.out, (E1.out.other (by simp; omega) _).other (by simp; omega) _, (E2.out.other (by simp; omega) _).other (by simp; omega) _, ?_, (EB.out.setCell (by simp; omega) _).setCell (by simp; omega) _⟩
          exact (E3.out.set 0 (.int .i64 ((lo + loOf (some q) : Nat) : Int))).set 1 (.int .i64 ((hi + hiOf (some q) : Nat) : Int))
        case measure => simp [intOf]; omega
    · obtain rfl : i = k := by omega
      obtain ⟨q0, q1, q2, q3⟩ := G3.out.c2
      obtain ⟨q4, q5, q6, q7⟩ := G2.out.c2
      have htt : totS n.toNat d.toNat xs = some (lo, hi) := by
        have h := HT.out
        rwa [HN.out, List.take_length] at h
      have HTT := Lib.hid htt
      clear htt
      go_wp2
      have f2 := (G2.out.set 0 (.int .i64 (lo : Int))).set 1 (.int .i64 (hi : Int))
      obtain ⟨p0, p1, p2, p3⟩ := f2.c2
      refine bodyPost_ret (v := .tuple #[rangeV (lo : Int) (hi : Int), .int .i64 0]) (by simp [results, Tryz.results60, go_sem, p0, p1]) rfl ⟨?_, ?_⟩
      · rw [HR.out, HTT.out]; rfl
      · exact (GB.out.setCell (by show w.heap.size ≤ w.heap.size + 1; omega) _).setCell (by show w.heap.size ≤ w.heap.size + 1; omega) _
end Go.Proofs.YtdfebccmjbocjaaGreatDoor.Mi
namespace Go.Proofs.YtdfebccmjbocjaaGreatDoor.Mi
open Go.RowKit

theorem Total_any (ad : Option Addr) (b o cap : Nat) (xs : List A4) (n d : Int) (w : World) (had : xs ≠ [] → ad = some ⟨b, o, none⟩) (hb : xs ≠ [] → b < w.heap.size) (ha : AreasAt w b o xs) :
    Calls Tryz.prog 60 #[.slice ad xs.length cap, fracV n d] w (TotalPost xs n d w) := by
  by_cases h : 6 < xs.length
  · exact Total_limit ad cap xs n d w h
  · by_cases h2 : xs.all A4.ok = true ∧ levB n d = true
    · exact Total_ok ad b o cap xs n d w had hb ha (by omega) h2.1 h2.2
    · refine Total_arg ad b o cap xs n d w had hb ha (by omega) ?_
      cases h3 : xs.all A4.ok with
      | false => exact .inl rfl
      | true =>
        cases h4 : levB n d with
        | false => exact .inr rfl
        | true => exact absurd ⟨h3, h4⟩ h2

set_option maxRecDepth 100000 in
set_option maxHeartbeats 1000000 in
theorem Missed_any (L M S F n d : Int) (w : World) : Calls Tryz.prog 23 #[areaV L M S F, fracV n d] w (TotalPost [⟨L, M, S, F⟩] n d w) := by
  obtain ⟨b1, b2, b3, hb0, hsz⟩ := three_new w #[.int .i64 L, .int .i64 M, .int .i64 S, .int .i64 F] #[.int .i64 n, .int .i64 d] #[.int .i64 0, .int .i64 0] 69 70 73
  have C31 := Lib.hid (fun (W : World) (B : Nat) (hB : Blk W B #[.int .i64 L, .int .i64 M, .int .i64 S, .int .i64 F] 69) => Total_any (some ⟨B, 0, none⟩) B 0 1 [⟨L, M, S, F⟩] n d W (fun _ => rfl) (fun _ => hB.lt) (fun i a h => by
    match i, h with
    | 0, h =>
      simp at h
      subst h
      exact ⟨hB.cell 0, hB.cell 1, hB.cell 2, hB.cell 3⟩))
  unfold TotalPost at C31 ⊢
  generalize totRes [⟨L, M, S, F⟩] n d = r at *
  go_enter Tryz.func23, Tryz.ntmps23
  go_wp2_with fail
  have b4 := Blk.new (((w.alloc (.cells #[.int .i64 L, .int .i64 M, .int .i64 S, .int .i64 F] 69)).alloc (.cells #[.int .i64 n, .int .i64 d] 70)).alloc (.cells #[.int .i64 0, .int .i64 0] 73)) #[.int .i64 L, .int .i64 M, .int .i64 S, .int .i64 F] 69
  have b5 := b3.alloc (.cells #[.int .i64 L, .int .i64 M, .int .i64 S, .int .i64 F] 69)
  have hb4 := hb0.alloc (by rw [hsz]; omega) (.cells #[.int .i64 L, .int .i64 M, .int .i64 S, .int .i64 F] 69)
  rw [hsz] at b4
  generalize (((w.alloc (.cells #[.int .i64 L, .int .i64 M, .int .i64 S, .int .i64 F] 69)).alloc (.cells #[.int .i64 n, .int .i64 d] 70)).alloc (.cells #[.int .i64 0, .int .i64 0] 73)).alloc (.cells #[.int .i64 L, .int .i64 M, .int .i64 S, .int .i64 F] 69) = W0 at *
  refine (C31.out _ _ b4).mono ?_
  rintro e w1 ⟨rfl, hb1⟩
  have c5 := b5.below hb1 b5.lt
  obtain ⟨k0, k1, k2, k3⟩ := c5.c2
  have C5 := Lib.hid c5
  have HB := Lib.hid (hb4.trans (hb1.mono hb4.size))
  clear b1 b2 b3 b4 b5 hb0 hsz hb4 hb1 c5
  go_wp2
  have f2 := (C5.out.set 0 (.int .i64 (r.1 : Nat))).set 1 (.int .i64 (r.2.1 : Nat))
  obtain ⟨p0, p1, p2, p3⟩ := f2.c2
  refine bodyPost_ret (v := .tuple #[rangeV (r.1 : Nat) (r.2.1 : Nat), .int .i64 (r.2.2 : Nat)]) (by simp [results, Tryz.results23, go_sem, p0, p1]) rfl ⟨rfl, ?_⟩
  exact (HB.out.setCell (by show w.heap.size ≤ w.heap.size + 1 + 1; omega) _).setCell (by show w.heap.size ≤ w.heap.size + 1 + 1; omega) _
end Go.Proofs.YtdfebccmjbocjaaGreatDoor.Mi
namespace Go.Proofs.YtdfebccmjbocjaaGreatDoor.Mi
open Go.RowKit
open Mis (ch sets tot sm low up lower)

/-- are listed, most, missed and level right? -/
def enoB (L M u n d : Int) : Bool := perB L M && inB u 0 M && levB n d
end Go.Proofs.YtdfebccmjbocjaaGreatDoor.Mi
namespace Go.Proofs.YtdfebccmjbocjaaGreatDoor.Mi
open Go.RowKit Go.Shelf

def markOf (D : Nat) : Deferred := { target := .collected D, args := #[] }
/-- a list of open marks, above B -/
def Marks (B : Nat) (W : World) (Ds : List Nat) : Prop := Ds.Nodup ∧ ∀ D, D ∈ Ds → B ≤ D ∧ W.heap[D]? = some (.deferred (some []))
theorem Marks.nil (B : Nat) (W : World) : Marks B W [] := ⟨List.nodup_nil, fun _ h => by cases h⟩
theorem Marks.below {B n : Nat} {W W' : World} {Ds : List Nat} (h : Marks B W Ds) (hb : Below n W W') (hn : W.heap.size ≤ n) : Marks B W' Ds := by
  refine ⟨h.1, fun D hD => ⟨(h.2 D hD).1, ?_⟩⟩
  have h1 := (h.2 D hD).2
  have hlt : D < W.heap.size := (Array.getElem?_eq_some_iff.1 h1).1
  exact (hb.block D (by omega)).trans h1
theorem Marks.kept {B : Nat} {row : Option Nat} {W W' : World} {Ds : List Nat} (h : Marks B W Ds) (hg : W.grownBy W' row) (hr : ∀ D, D ∈ Ds → some D ≠ row) : Marks B W' Ds := by
  refine ⟨h.1, fun D hD => ⟨(h.2 D hD).1, ?_⟩⟩
  have h1 := (h.2 D hD).2
  have hlt : D < W.heap.size := (Array.getElem?_eq_some_iff.1 h1).1
  exact (hg.block D hlt (hr D hD)).trans h1
theorem Marks.cons {B D : Nat} {W : World} {Ds : List Nat} (h : Marks B W Ds) (hB : B ≤ D) (hD : W.heap[D]? = some (.deferred (some []))) (hn : D ∉ Ds) : Marks B W (D :: Ds) := by
  refine ⟨List.nodup_cons.2 ⟨hn, h.1⟩, fun D' hD' => ?_⟩
  rcases List.mem_cons.1 hD' with rfl | h'
  · exact ⟨hB, hD⟩
  · exact h.2 D' h'

theorem leaves_marks {F : Fence} {n : Nat} {P : Program} {fn : Func} {tmps : Array Value} {R : Ending → World → Prop} {B : Nat} {J : World → Prop}
    (hJ : ∀ (W : World) (D : Nat) (o' : Obj), B ≤ D → J W → W.heap[D]? = some (.deferred (some [])) → J (W.putObj D o'))
    (hend : ∀ W, J W → LeavesIn F n P fn tmps R [] .returning W) : ∀ (Ds : List Nat) (W : World), Marks B W Ds → J W → LeavesInM F n P fn tmps R (Ds.map markOf) .returning W
  | [], W, _, h => hend W h
  | D :: Ds, W, hm, h => by
    obtain ⟨hB, hD⟩ := hm.2 D (List.mem_cons_self ..)
    have hnd := List.nodup_cons.1 hm.1
    refine ⟨by simp, .inl ⟨D, _, rfl, run_takeDeferred hD, ?_⟩⟩
    refine leaves_marks hJ hend Ds _ ⟨hnd.2, fun D' hD' => ?_⟩ (hJ W D _ hB h hD)
    obtain ⟨h1, h2⟩ := hm.2 D' (List.mem_cons_of_mem _ hD')
    exact ⟨h1, (World.putObj_heap_other (fun e => hnd.1 (by rw [← e] at *; first | exact hD' | (rw [e]; exact hD')))).trans h2⟩
end Go.Proofs.YtdfebccmjbocjaaGreatDoor.Mi
namespace Go.Proofs.YtdfebccmjbocjaaGreatDoor.Mi
open Go.RowKit Go.Shelf
open Mis (ch sets tot sm low up lower)
attribute [local go_sem] Oper.semAt_some

/-- is a sample large enough, whatever number from u on is missed? -/
def sufB (l M u n d s : Nat) : Bool := (List.range (M + 1)).all fun x => decide (x < u) || enoughB l x s n d
def EnoughPost (l M u n d : Nat) (w : World) (e : Ending) (w' : World) : Prop :=
  (∃ v r : Nat, e = .returned (.tuple #[.int .i64 v, .int .i64 r]) ∧ (match Mis.first (sufB l M u n d) 0 (l + 1) with | some s => v = s ∧ r = 0 | none => v = 0 ∧ r = 9)) ∧ Below w.heap.size w w'

/-- what a round of Enough keeps -/
def EKeep (l M u n d s mb B N : Nat) (Ds : List Nat) (w W : World) : Prop := Blk W N #[.int .i64 u] 3 ∧ Blk W (N + 1) #[.int .i64 n, .int .i64 d] 70 ∧ Blk W B #[.int .i64 l, .int .i64 M, .int .i64 (s : Int), .int .i64 0, .map (some mb)] 151 ∧ Memo W mb ∧ Marks N W Ds ∧ Below N w W
theorem Marks.ne_memo {B mb : Nat} {W : World} {Ds : List Nat} (h : Marks B W Ds) (hm : Memo W mb) : ∀ D, D ∈ Ds → some D ≠ some mb := fun D hD e => by
  cases e
  obtain ⟨es, clock, hb, _⟩ := hm
  rw [(h.2 _ hD).2] at hb
  cases hb
theorem EKeep.own {β : Type} {l M u n d s mb B N B0 : Nat} {Ds : List Nat} {w : World} (Z : β → Prop) (_h1 : N < B0) (h2 : N + 1 < B0) (h3 : B < B0) (h4 : mb < B0) (h5 : ∀ D, D ∈ Ds → D < B0) (h6 : w.heap.size = N) :
    OwnFrom B0 (fun (x : β) W => EKeep l M u n d s mb B N Ds w W ∧ Z x) := fun x W W' row ⟨⟨g1, g2, g3, g4, g5, g6⟩, hz⟩ hg hr =>
  ⟨⟨g1.kept hg (fun e => by have := (hr _ e.symm).1; omega), g2.kept hg (fun e => by have := (hr _ e.symm).1; omega), g3.kept hg (fun e => by have := (hr _ e.symm).1; omega), g4.kept hg (fun e => by have := (hr _ e.symm).1; omega),
    g5.kept hg (fun D hD e => by have := (hr _ e.symm).1; have := h5 D hD; omega), g6.grown hg (by rw [← h6]; exact g6.size) (fun j e => by have := (hr j e).1; omega)⟩, hz⟩

end Go.Proofs.YtdfebccmjbocjaaGreatDoor.Mi
namespace Go.Proofs.YtdfebccmjbocjaaGreatDoor.Mi
open Go.RowKit

/-- the numbers lie in a row -/
def IntsAt (W : World) (b o : Nat) (xs : List Int) : Prop := ∀ i a, xs[i]? = some a → W.cell? ⟨b, o + i, none⟩ = some (.int .i64 a)
theorem IntsAt.below {W W' : World} {b o B : Nat} {xs : List Int} (h : IntsAt W b o xs) (hb : Below B W W') (hlt : b < B) : IntsAt W' b o xs := fun i a e => (hb.cell (p := ⟨b, _, none⟩) hlt).trans (h i a e)
def lotB (x : Int) : Bool := decide (0 ≤ x)
theorem lot_any (x : Int) (w : World) : Calls Tryz.prog 53 #[.int .i64 x] w fun e w' => e = .returned (.bool (lotB x)) ∧ w = w' := by
  go_enter Tryz.func53, Tryz.ntmps53
  go_wp2
  go_ret
  exact ⟨rfl, rfl⟩

set_option maxRecDepth 100000 in
set_option maxHeartbeats 400000 in
theorem closI_any (x : Int) (bx : Nat) (w : World) (hc : w.cell? ⟨bx, 0, none⟩ = some (.func (.func 53) #[] #[])) :
    Calls Tryz.prog 83 #[.int .i64 x, .pointer (some ⟨bx, 0, none⟩)] w fun e w' => e = .returned (.bool (!lotB x)) ∧ w = w' := by
  have C := Lib.hid (fun w => lot_any x w)
  generalize lotB x = q at *
  go_enter Tryz.func83, Tryz.ntmps83
  go_wp2_with (go_at_call 53; (with_reducible refine (C.out _).mono ?_); rintro e w' ⟨rfl, rfl⟩)
  go_ret
  exact ⟨rfl, rfl⟩

set_option maxRecDepth 100000 in
set_option maxHeartbeats 800000 in
theorem indexI_any (ad : Option Addr) (b o bx cap : Nat) (xs : List Int) (w : World) (had : xs ≠ [] → ad = some ⟨b, o, none⟩) (hn : xs.length ≤ 1000) (ha : IntsAt w b o xs) (hc : w.cell? ⟨bx, 0, none⟩ = some (.func (.func 53) #[] #[])) :
    Calls Tryz.prog 112 #[.slice ad xs.length cap, .func (.func 83) #[] #[.pointer (some ⟨bx, 0, none⟩)]] w fun e w' => (∃ r : Int, e = .returned (.int .i64 r) ∧ decide (0 ≤ r) = !(xs.all lotB) ∧ -1 ≤ r) ∧ w = w' := by
  have HA := Lib.hid ha
  have HD := Lib.hid had
  have C := Lib.hid (fun x => closI_any x bx w hc)
  have hN : ∃ n, n = xs.length := ⟨_, rfl⟩
  obtain ⟨n, hN⟩ := hN
  have HN := Lib.hid hN
  rw [← hN] at hn
  clear hc ha had
  rw [← hN]
  clear hN
  go_enter Tryz.func112, Tryz.ntmps112
  go_wp2
  go_loop [8] (fun x => ∃ i : Nat, i ≤ n ∧ x = .int .i64 (i : Int) ∧ (∀ j a, j < i → xs[j]? = some a → lotB a = true)) (fun x => n - (intOf x).toNat)
  case atStart => exact ⟨0, by omega, rfl, fun j a h => by omega⟩
  case round =>
    obtain ⟨i, hi, rfl, hall⟩ := hrel
    have H := Lib.hid hall
    by_cases hlt : i < n
    · obtain ⟨a, hai⟩ : ∃ a, xs[i]? = some a := ⟨xs[i]'(by rw [← HN.out]; exact hlt), by simp⟩
      have hne : xs ≠ [] := by rintro rfl; simp at hai
      have e1 := HD.out hne
      subst e1
      have k0 := HA.out i a hai
      have HI := Lib.hid hai
      have C84 := Lib.hid (C.out a)
      clear hall hai hne
      cases hok : lotB a with
      | true =>
        rw [hok] at C84
        have OK := Lib.hid hok
        clear hok
        go_wp2_with (go_at_call 83; (with_reducible refine C84.out.mono ?_); rintro e w' ⟨rfl, rfl⟩)
        go_round
        case rel =>
          refine ⟨i + 1, by omega, by go_num, fun j a hj hja => ?_⟩
          rcases Nat.lt_succ_iff_lt_or_eq.1 hj with h | rfl
          · exact H.out j a h hja
          · rw [HI.out] at hja; cases hja; exact OK.out
        case measure => simp [intOf]; omega
      | false =>
        rw [hok] at C84
        have OK := Lib.hid hok
        clear hok
        go_wp2_with (go_at_call 83; (with_reducible refine C84.out.mono ?_); rintro e w' ⟨rfl, rfl⟩)
        go_ret
        refine ⟨⟨_, rfl, ?_, by omega⟩, rfl⟩
        have h1 : xs.all lotB = false := by
          rw [List.all_eq_false]
          exact ⟨_, List.mem_of_getElem? HI.out, by rw [OK.out]; simp⟩
        rw [h1]; simp
    · obtain rfl : i = n := by omega
      have h1 : xs.all lotB = true := by
        rw [List.all_eq_true]
        intro a ha
        obtain ⟨j, hj⟩ := List.getElem?_of_mem ha
        have hjl : j < xs.length := (List.getElem?_eq_some_iff.1 hj).1
        exact hall j a (by rw [HN.out]; exact hjl) hj
      have H1 := Lib.hid h1
      clear hall h1
      go_wp2
      go_ret
      exact ⟨⟨-1, rfl, by rw [H1.out]; rfl, by omega⟩, rfl⟩
set_option maxRecDepth 100000 in
set_option maxHeartbeats 800000 in
theorem containsI_any (ad : Option Addr) (b o bx cap : Nat) (xs : List Int) (w : World) (had : xs ≠ [] → ad = some ⟨b, o, none⟩) (hn : xs.length ≤ 1000) (ha : IntsAt w b o xs) (hc : w.cell? ⟨bx, 0, none⟩ = some (.func (.func 53) #[] #[])) :
    Calls Tryz.prog 82 #[.slice ad xs.length cap, .func (.func 83) #[] #[.pointer (some ⟨bx, 0, none⟩)]] w fun e w' => e = .returned (.bool (!(xs.all lotB))) ∧ w = w' := by
  have C := Lib.hid (indexI_any ad b o bx cap xs w had hn ha hc)
  clear had hn ha hc
  go_enter Tryz.func82, Tryz.ntmps82
  go_wp2_with (go_at_call 112; (with_reducible refine C.out.mono ?_); rintro e w' ⟨⟨r, rfl, hr, hr1⟩, rfl⟩; have HR := Lib.hid hr; clear hr)
  go_ret
  exact ⟨by rw [← HR.out]; rfl, rfl⟩
set_option maxRecDepth 100000 in
set_option maxHeartbeats 800000 in
theorem allI_any (ad : Option Addr) (b o cap : Nat) (xs : List Int) (w : World) (had : xs ≠ [] → ad = some ⟨b, o, none⟩) (hb : xs ≠ [] → b < w.heap.size) (hn : xs.length ≤ 1000) (ha : IntsAt w b o xs) :
    Calls Tryz.prog 55 #[.slice ad xs.length cap, .func (.func 53) #[] #[]] w fun e w' => e = .returned (.bool (xs.all lotB)) ∧ Below w.heap.size w w' := by
  obtain ⟨b1, b2, b3⟩ := one_new w #[.func (.func 53) #[] #[]] 110
  have ha' : IntsAt (w.alloc (.cells #[.func (.func 53) #[] #[]] 110)) b o xs := by
    by_cases hne : xs = []
    · subst hne; intro i a h; simp at h
    · exact ha.below b2 (hb hne)
  have C := Lib.hid (containsI_any ad b o w.heap.size cap xs _ had hn ha' (b1.cell 0))
  have B2 := Lib.hid b2
  clear had hb hn ha ha' b1 b2 b3
  go_enter Tryz.func55, Tryz.ntmps55
  go_wp2_with (go_at_call 82; (with_reducible refine C.out.mono ?_); rintro e w' ⟨rfl, rfl⟩)
  go_ret
  exact ⟨by simp, B2.out⟩
end Go.Proofs.YtdfebccmjbocjaaGreatDoor.Mi
namespace Go.Proofs.YtdfebccmjbocjaaGreatDoor.Mi
open Go.RowKit

set_option maxHeartbeats 400000 in
theorem In_any (n lo hi : Int) (w : World) : Calls Tryz.prog 52 #[.int .i64 n, .int .i64 lo, .int .i64 hi] w fun e w' => e = .returned (.bool (inB n lo hi)) ∧ w = w' := by
  by_cases h1 : lo ≤ n
  · by_cases h2 : n ≤ hi
    · have h : inB n lo hi = true := inB_iff.2 ⟨h1, h2⟩
      rw [h]
      go_enter Tryz.func52, Tryz.ntmps52
      go_wp2
      go_ret
      exact ⟨rfl, rfl⟩
    · have h : inB n lo hi = false := inB_no.2 (fun h => h2 h.2)
      rw [h]
      go_enter Tryz.func52, Tryz.ntmps52
      go_wp2
      go_ret
      exact ⟨rfl, rfl⟩
  · have h : inB n lo hi = false := inB_no.2 (fun h => h1 h.1)
    rw [h]
    go_enter Tryz.func52, Tryz.ntmps52
    go_wp2
    go_ret
    exact ⟨rfl, rfl⟩

set_option maxHeartbeats 400000 in
theorem rIsLevel_any (n d : Int) (w : World) : Calls Tryz.prog 19 #[fracV n d] w fun e w' => e = .returned (.bool (levB n d)) ∧ Below w.heap.size w w' := by
  cases h1 : inB d 1 1000 with
  | false =>
    have h : levB n d = false := by simp [levB, h1]
    rw [h]
    go_enter Tryz.func19, Tryz.ntmps19
    go_wp2_with (go_at_call 52; refine (In_any _ _ _ _).mono ?_; rintro e w' ⟨rfl, rfl⟩)
    go_ret
    exact ⟨rfl, (Below.refl _ _).alloc (Nat.le_refl _) _⟩
  | true =>
    have h : levB n d = inB n 0 d := by simp [levB, h1]
    rw [h]
    go_enter Tryz.func19, Tryz.ntmps19
    go_wp2_with (go_at_call 52; refine (In_any _ _ _ _).mono ?_; rintro e w' ⟨rfl, rfl⟩)
    go_ret
    exact ⟨rfl, (Below.refl _ _).alloc (Nat.le_refl _) _⟩

/-- the error of an area -/
def faultI (l m s f : Int) : Int := if areaB l m s f then 0 else 1
end Go.Proofs.YtdfebccmjbocjaaGreatDoor.Mi
namespace Go.Proofs
open Go.Shelf
theorem Tryz.laysDel : Go.Proofs.SlLaysE.n45 Tryz.prog Tryz.laysSlE45_f56_ren := Tryz.laysSlE45_f56
theorem Tryz.laysSort : Go.Proofs.SlLaysM.n5 Tryz.prog Tryz.laysSlM5_f57_ren := Tryz.laysSlM5_f57
end Go.Proofs
namespace Go.Proofs.YtdfebccmjbocjaaGreatDoor.Mi
open Go.RowKit Go.Shelf

theorem delete_own {base g n cap i : Nat} {zs : List Int} {w : World} (h : w.ownsRow base 3 1 (.slice (some ⟨g, 0, none⟩) n cap) n (zs.map (Value.int .i64))) (hi : i < n) :
    Calls Tryz.prog 56 #[.slice (some ⟨g, 0, none⟩) n cap, .int .i64 i, .int .i64 ((i : Int) + 1)] w fun e w' =>
      e = .returned (.slice (some ⟨g, 0, none⟩) (n - 1) cap) ∧ w'.ownsRow base 3 1 (.slice (some ⟨g, 0, none⟩) (n - 1) cap) (n - 1) ((zs.eraseIdx i).map (Value.int .i64)) ∧ w.grownBy w' (some g) := by
  obtain ⟨i0, hi0, hz0, hz1, hz2⟩ := info_parts tInfo3
  obtain ⟨g', cap', hv, hb, hlt, hnc, hcm, hl, hH⟩ := Lib.holds_of_ownsRow h (by simp)
  cases hv
  have hD := AnyE.slices_Delete Tryz.laysDel (Value.int .i64) (fun _ => rfl) (0 : Int) Tryz.zeroValue3 i0 hi0 hz1 g 0 cap i (i + 1) zs.toArray w hH (by simp; omega) (by unfold maxLen at hcm; omega) (by omega) (by simp; omega)
  have hs : zs.toArray.size = n := by simp [hl]
  rw [hs] at hD
  refine Calls.mono hD ?_
  rintro e w' ⟨rfl, q, rfl⟩
  have e1 : n - (i + 1 - i) = n - 1 := by omega
  rw [e1]
  have e2 : zs.take i ++ zs.drop (i + 1) = zs.eraseIdx i := (List.eraseIdx_eq_take_drop_succ zs i).symm
  have hle : (zs.eraseIdx i).length = n - 1 := by rw [List.length_eraseIdx_of_lt (by omega)]; omega
  refine ⟨rfl, ?_, ?_⟩
  · have := Lib.ownsRow_putRow (q := q) (k := n - 1) (ys := zs.take i ++ zs.drop (i + 1) ++ List.replicate (i + 1 - i) 0) h (by rw [e2]; simp [hle]; omega) (by omega)
    rw [e2] at this
    rw [List.take_append_of_le_length (by omega), List.take_of_length_le (by omega)] at this
    rw [show (zs.toArray.toList.take i ++ zs.toArray.toList.drop (i + 1) ++ List.replicate (i + 1 - i) 0) = zs.eraseIdx i ++ List.replicate (i + 1 - i) 0 by rw [List.toList_toArray, e2]]
    exact this
  · have := grownBy_sortedI (w := w) (g := g) (n := q) (os := #[]) (zs.toArray.toList.take i ++ zs.toArray.toList.drop (i + 1) ++ List.replicate (i + 1 - i) 0).toArray
    rwa [«Sort».grow_empty] at this

theorem sort_nil (w : World) : Calls Tryz.prog 57 #[.slice none 0 0] w fun e w' => e = .returned (.tuple #[]) ∧ w' = w := AnyM.slices_Sort_int_none Tryz.laysSort none 0 w
theorem sort_own {base g n cap : Nat} {zs : List Int} {w : World} (h : w.ownsRow base 3 1 (.slice (some ⟨g, 0, none⟩) n cap) n (zs.map (Value.int .i64))) (hn : n ≤ 1000) :
    Calls Tryz.prog 57 #[.slice (some ⟨g, 0, none⟩) n cap] w fun e w' => e = .returned (.tuple #[]) ∧ w'.ownsRow base 3 1 (.slice (some ⟨g, 0, none⟩) n cap) n ((zs.mergeSort fun x y => decide (x ≤ y)).map (Value.int .i64)) ∧ w.grownBy w' (some g) := by
  obtain ⟨g', cap', hv, hb, hlt, hnc, hcm, hl, hH⟩ := Lib.holds_of_ownsRow h (by simp)
  cases hv
  have hS := AnyM.slices_Sort_int Tryz.laysSort g 0 cap zs w hH hlt (by omega)
  rw [hl] at hS
  refine Calls.mono hS ?_
  rintro e w' ⟨rfl, q, os, rfl⟩
  refine ⟨rfl, ?_, grownBy_sortedI _⟩
  rcases h.2 with ⟨e0, _⟩ | ⟨g', cap', cur, e0, hb', hg, hn', hm, hs, ht⟩
  · cases e0
  · cases e0
    have := ownsRow_sortedI (w := w) (base := base) (g := g) (cap := cap) (n := q) (os := os) (ss := zs) (ts := zs.mergeSort fun x y => decide (x ≤ y)) (List.length_mergeSort _) hb hg (by omega) hcm (by simpa using hs)
    rw [hl] at this
    exact this
end Go.Proofs.YtdfebccmjbocjaaGreatDoor.Mi
