/- The walk of Drawn of the reference of layer 6. -/
import Derived.Test.YtkfobnhnehbkeaaInts
namespace Go.Proofs.Ytkfobnhnehbkeaa
open Go.RowKit Go.Shelf
open Mis (dl drawn cnt)

theorem tInfo4 : (Try.prog.info? 4).map (fun i => (i.zero, i.size, i.bytes)) = some (some (.bool false), 1, 1) := by kernel_rfl
/-- who is gone -/
def goneV (n : Nat) (S : List Nat) : List Value := (List.range n).map fun k => .bool (decide (k ∈ S))
theorem goneV_nil (n : Nat) : goneV n [] = List.replicate n (.bool false) := by
  unfold goneV
  apply List.ext_getElem
  · simp
  · intro i h1 h2; simp
theorem goneV_get {n k : Nat} (S : List Nat) (h : k < n) : (goneV n S)[k]? = some (.bool (decide (k ∈ S))) := by
  unfold goneV; rw [List.getElem?_map, List.getElem?_range h]; rfl
theorem goneV_set {n k : Nat} (S : List Nat) : (goneV n S).set k (.bool true) = goneV n (S ++ [k]) := by
  unfold goneV
  apply List.ext_getElem
  · simp
  · intro i h1 h2
    simp only [List.getElem_set, List.getElem_map, List.getElem_range, List.mem_append, List.mem_singleton]
    by_cases e : k = i
    · subst e; simp
    · rw [if_neg e]
      have : i ≠ k := fun h => e h.symm
      simp [this]
theorem dl_step {n : Nat} {xs : List Int} {j p k : Nat} (hj : j < n) (hp : p = atI n xs j) (hk : k < n) (hn : k ∉ (dl n (natsOf xs) j).2) (hc : cnt (dl n (natsOf xs) j).2 k = p) : (dl n (natsOf xs) (j + 1)).2 = (dl n (natsOf xs) j).2 ++ [k] := by
  rw [show (dl n (natsOf xs) (j + 1)).2 = (dl n (natsOf xs) j).2 ++ [(dl n (natsOf xs) j).1.getD ((natsOf xs).getD j 0 % (dl n (natsOf xs) j).1.length) 0] from rfl, (Mis.dl_len n _ j (by omega)).1]
  have h := Mis.left_at n (natsOf xs) j k (by omega) hk hn
  rw [hc, hp] at h
  unfold atI at h
  rw [List.getD_eq_getElem?_getD (l := (dl n (natsOf xs) j).1), h]; rfl
/-- those of the first k that are drawn -/
def drK (S : List Nat) (k : Nat) : List Nat := (List.range k).filter fun x => decide (x ∈ S)
theorem drK_in {S : List Nat} {k : Nat} (h : k ∈ S) : drK S (k + 1) = drK S k ++ [k] := by unfold drK; rw [List.range_succ, List.filter_append]; simp [h]
theorem drK_out {S : List Nat} {k : Nat} (h : k ∉ S) : drK S (k + 1) = drK S k := by unfold drK; rw [List.range_succ, List.filter_append]; simp [h]
theorem drK_le (S : List Nat) (k : Nat) : (drK S k).length ≤ k := by unfold drK; exact Nat.le_trans (List.length_filter_le _ _) (by simp)
def DrawnPost (n : Nat) (xs : List Int) (w : World) (e : Ending) (w' : World) : Prop :=
  ∃ v, e = .returned v ∧ w'.ownsRow w.heap.size 3 1 v (drawn n (natsOf xs)).length ((intsL (drawn n (natsOf xs))).map (Value.int .i64)) ∧ Below w.heap.size w w'

set_option maxRecDepth 100000 in
set_option maxHeartbeats 2000000 in
theorem rDrawn_any (n : Nat) (ad : Option Addr) (b o cap : Nat) (xs : List Int) (w : World) (had : xs ≠ [] → ad = some ⟨b, o, none⟩) (hb : xs ≠ [] → b < w.heap.size) (hn : n ≤ 50) (hx : xs.length ≤ n) (ha : IntsAt w b o xs) (hl : xs.all lotB = true) :
    Calls Try.prog 41 #[.int .i64 n, .slice ad xs.length cap] w (DrawnPost n xs w) := by
  obtain ⟨i0, hi, hz0, hz1, hz2⟩ := info_parts tInfo3
  obtain ⟨i4, hi4, hy0, hy1, hy2⟩ := info_parts tInfo4
  have HA := Lib.hid ha
  have HAD := Lib.hid had
  have HBL := Lib.hid hb
  have HL := Lib.hid (List.all_eq_true.1 hl)
  obtain ⟨m, hN⟩ : ∃ k, k = xs.length := ⟨_, rfl⟩
  have HN := Lib.hid hN
  rw [← hN] at hx ⊢
  clear had hb ha hl hN
  go_enter Try.func41, Try.ntmps41
  go_wp2_with (at_make; refine wpList_make_full w rfl _ _ 116 rfl w.heap.size 4 i4 (.bool false) 1 Try.underlying116 hi4 hy0 hy1 .i64 .i64 n n n rfl rfl rfl rfl (by rw [hy2]; omega) (by unfold maxLen; omega) (Nat.le_refl _) ?_; intro w1 hrow hg; have HR := Lib.hid hrow; have HG := Lib.hid hg; clear hrow hg)
  have hrow0 : w1.ownsRow w.heap.size 4 1 (.slice (some ⟨w.heap.size, 0, none⟩) n n) n (goneV n (dl n (natsOf xs) 0).2) := by
    have h : w1.ownsRow w.heap.size 4 1 (.slice (some ⟨w.heap.size, 0, none⟩) n n) n (madeCells #[.bool false] (n * 1)).toList := HR.out
    rw [toList_madeCells_one, Nat.mul_one] at h
    rw [show (dl n (natsOf xs) 0).2 = [] from rfl, goneV_nil]; exact h
  have hB0 : Below w.heap.size w w1 := (Below.refl _ _).grown HG.out (Nat.le_refl _) (fun j e => by cases e)
  have HR0 := Lib.hid hrow0
  have HB0 := Lib.hid hB0
  clear HR HG hrow0 hB0
  go_loopw [6] (fun x wr => ∃ j : Nat, j ≤ m ∧ x = .int .i64 (j : Int) ∧ wr.ownsRow w.heap.size 4 1 (.slice (some ⟨w.heap.size, 0, none⟩) n n) n (goneV n (dl n (natsOf xs) j).2) ∧ Below w.heap.size w wr) (fun x _ => m - (intOf x).toNat)
  case atStart => exact ⟨0, Nat.zero_le _, rfl, HR0.out, HB0.out⟩
  case round =>
    clear HR0 HB0
    obtain ⟨j, hj, rfl, hrow, hB⟩ := hrel
    have HR := Lib.hid hrow
    have HB := Lib.hid hB
    clear hrow hB
    by_cases hlt : j < m
    · obtain ⟨x, hxj⟩ : ∃ x, xs[j]? = some x := ⟨xs[j]'(by rw [← HN.out]; exact hlt), by simp⟩
      have hne : xs ≠ [] := by rintro rfl; simp at hxj
      have e1 := HAD.out hne
      subst e1
      have hbw := HBL.out hne
      have x0 : 0 ≤ x := by
        have := HL.out x (List.mem_of_getElem? hxj)
        simpa [lotB] using this
      have k0 : wr.cell? ⟨b, o + j, none⟩ = some (.int .i64 x) := (HB.out.cell (p := ⟨b, _, none⟩) hbw).trans (HA.out j x hxj)
      have hat := atI_eq (n := n) hxj x0
      have hpl := atI_lt (xs := xs) (show j < n by omega)
      have hmod : x % ((n : Int) - (j : Int)) = (atI n xs j : Nat) := by rw [← hat]; congr 1; omega
      have hpos : (0 : Int) < (n : Int) - (j : Int) := by omega
      have HST := Lib.hid (fun (k : Nat) (hk : k < n) => dl_step (n := n) (xs := xs) (j := j) (k := k) (show j < n by omega) rfl hk)
      have HCA := Lib.hid (Mis.cnt_all n (natsOf xs) j (by omega))
      generalize atI n xs j = p at *
      have HNE := Lib.hid hne
      clear hat hxj hne
      generalize hS : (dl n (natsOf xs) j).2 = S at *
      have HS := Lib.hid hS
      clear hS
      go_wp2
      go_loop [7, 8] (fun x y => ∃ k : Nat, k ≤ n ∧ y = .int .i64 (k : Int) ∧ cnt S k ≤ p ∧ x = .int .i64 ((p - cnt S k : Nat) : Int)) (fun _ y => n - (intOf y).toNat)
      case atStart => exact ⟨0, Nat.zero_le _, rfl, Nat.zero_le _, by simp [Mis.cnt_zero]⟩
      case round =>
        clear k0
        obtain ⟨k, hk, rfl, hc, rfl⟩ := hrel
        by_cases hkn : k < n
        · have k1 : wr.cell? ⟨w.heap.size, k, none⟩ = some (.bool (decide (k ∈ S))) := by rw [HR.out.cellAt k (by omega), goneV_get S hkn]
          by_cases hkS : k ∈ S
          · have HC := Lib.hid (Mis.cnt_in hkS)
            rw [decide_eq_true hkS] at k1
            clear hkS
            go_wp2
            go_round
            case rel => exact ⟨k + 1, by omega, by go_num, by rw [HC.out]; exact hc, by rw [HC.out]⟩
            case measure => simp [intOf]; omega
          · have HC := Lib.hid (Mis.cnt_out hkS)
            rw [decide_eq_false hkS] at k1
            by_cases hcp : cnt S k = p
            · have hp0 : p - cnt S k = 0 := by omega
              have k2 := HR.out.frozenAt k
              have HD := Lib.hid (HST.out k hkn hkS hcp)
              rw [hp0]
              clear hkS hcp hp0
              go_wp2
              go_roundw
              case rel =>
                refine ⟨j + 1, by omega, by go_num, ?_, HB.out.setCell (Nat.le_refl _) _⟩
                rw [HD.out, ← goneV_set]
                exact (HR.out.stored k (.bool true)).1
              case measure => simp [intOf]; omega
            · obtain ⟨q, hq⟩ : ∃ q, p - cnt S k = q + 1 := ⟨p - cnt S k - 1, by omega⟩
              have HQ := Lib.hid hq
              rw [hq]
              have t1 : (((q + 1 : Nat) : Int) == 0) = false := by simp; omega
              have hq60 : q < 60 := by omega
              clear hkS hq
              go_wp2
              go_round
              case rel => exact ⟨k + 1, by omega, by go_num, by rw [HC.out]; omega, by rw [HC.out]; have := HQ.out; go_num⟩
              case measure => simp [intOf]; omega
        · obtain rfl : n = k := by omega
          have := HCA.out
          omega
    · obtain rfl : m = j := by omega
      go_wp2_with fail
      generalize hS : (dl n (natsOf xs) m).2 = S at *
      have HS := Lib.hid hS
      obtain ⟨B2, hB2⟩ : ∃ B2, B2 = wr.heap.size := ⟨_, rfl⟩
      have HB2 := Lib.hid hB2
      have hs := HB.out.size
      have hw2 : w.heap.size ≤ B2 := by omega
      have hg2 : w.heap.size < B2 := by have := (HR.out.lt w.heap.size rfl).2; omega
      clear hB2 hlt hj hS
      go_loopw [9, 10] (fun v x W => ∃ k : Nat, k ≤ n ∧ x = .int .i64 (k : Int) ∧ W.ownsRow B2 3 1 v (drK S k).length ((intsL (drK S k)).map (Value.int .i64)) ∧ W.ownsRow w.heap.size 4 1 (.slice (some ⟨w.heap.size, 0, none⟩) n n) n (goneV n S) ∧ Below w.heap.size w W ∧ B2 ≤ W.heap.size) (fun _ x _ => n - (intOf x).toNat)
      case atStart => exact ⟨0, Nat.zero_le _, rfl, World.ownsRow_nil _ _ _ _, HR.out, HB.out, by rw [HB2.out]; exact Nat.le_refl _⟩
      case round =>
        clear HR HB HB2 hs
        obtain ⟨k, hk, rfl, hout, hrow, hB, hsz⟩ := hrel
        have HO := Lib.hid hout
        have HR := Lib.hid hrow
        have HB := Lib.hid hB
        have hle := drK_le S k
        clear hout hrow hB
        by_cases hkn : k < n
        · have k1 : wr.cell? ⟨w.heap.size, k, none⟩ = some (.bool (decide (k ∈ S))) := by rw [HR.out.cellAt k (by omega), goneV_get S hkn]
          by_cases hkS : k ∈ S
          · have HC := Lib.hid (drK_in hkS)
            rw [decide_eq_true hkS] at k1
            clear hkS
            generalize drK S k = D at *
            go_wp2_with (at_builtin; refine wpList_append_own _ rfl _ _ 40 rfl B2 3 i0 (.int .i64 0) 1 8 Try.underlying40 hi hz0 hz1 hz2 rfl (by decide) _ _ _ rfl (HO.out.alloc _) ⟨wr.heap.size, 0, none⟩ 1 1 [.int .i64 k] rfl rfl (cell_one_new _ _ _) (by simp [Value.oneCell']) (by unfold maxLen; omega) (by omega) (by simp; omega) ?_; intro v' w2 hown' hgrow _; have HO2 := Lib.hid hown'; have HG := Lib.hid hgrow; clear hown' hgrow)
            go_roundw
            case rel =>
              have hs2 := HG.out.size
              refine ⟨k + 1, by omega, by go_num, ?_, ?_, ?_, ?_⟩
              · rw [HC.out, List.length_append]
                unfold intsL
                rw [List.map_append, List.map_append]
                exact HO2.out
              · exact (HR.out.alloc _).kept HG.out (.inr fun e => by have := (HO.out.lt w.heap.size e.symm).1; omega)
              · exact (HB.out.alloc HB.out.size _).grown HG.out (by have := HB.out.size; simp; omega) (fun i e => by have := (HO.out.lt i e).1; omega)
              · simp at hs2; omega
            case measure => simp [intOf]; omega
          · have HC := Lib.hid (drK_out hkS)
            rw [decide_eq_false hkS] at k1
            clear hkS
            go_wp2
            go_roundw
            case rel => exact ⟨k + 1, by omega, by go_num, by rw [HC.out]; exact HO.out, HR.out, HB.out, hsz⟩
            case measure => simp [intOf]; omega
        · obtain rfl : k = n := by omega
          go_wp2
          go_ret
          refine ⟨_, rfl, ?_, HB.out⟩
          have e : drawn k (natsOf xs) = drK S k := by
            unfold drawn drK
            rw [natsOf_len, ← HN.out, HS.out]
          rw [e]
          exact Joins.ownsRow_le HO.out hw2
end Go.Proofs.Ytkfobnhnehbkeaa
