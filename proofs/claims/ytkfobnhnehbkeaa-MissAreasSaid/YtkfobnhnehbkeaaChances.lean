/- The walk of work.chances of package miss. -/
import Derived.Test.YtkfobnhnehbkeaaFrac
import Derived.Test.YtkfobnhnehbkeaaRow
namespace Go.Proofs.Ytkfobnhnehbkeaa
open Go.RowKit
open Mis (ch sets tot)

abbrev workV (L M S F : Int) (mb : Nat) : Value := .agg #[.int .i64 L, .int .i64 M, .int .i64 S, .int .i64 F, .map (some mb)]
/-- the array of the chances when j of them are reckoned -/
def chList (l u s j : Nat) : List Value := (List.range 51).map fun i => .int .i64 ((if i < j then sets l u s i else 0 : Nat) : Int)
def chArr (l u s j : Nat) : Array Value := (chList l u s j).toArray
theorem chArr_size (l u s j : Nat) : (chArr l u s j).size = 51 := by simp [chArr, chList]
theorem chArr_get (l u s j i : Nat) (h : i < 51) : (chArr l u s j)[i]? = some (.int .i64 ((if i < j then sets l u s i else 0 : Nat) : Int)) := by
  simp [chArr, chList, h]
theorem chArr_zero (l u s : Nat) : chArr l u s 0 = Array.replicate 51 (.int .i64 0) := by
  apply Array.ext_getElem?
  intro i
  by_cases h : i < 51
  · rw [chArr_get _ _ _ _ _ h]; simp [h]
  · rw [Array.getElem?_eq_none (by rw [chArr_size]; omega), Array.getElem?_eq_none (by simp; omega)]
theorem chArr_set (l u s j : Nat) (hj : j < 51) : (chArr l u s j).setIfInBounds j (.int .i64 (sets l u s j : Nat)) = chArr l u s (j+1) := by
  apply Array.ext_getElem?
  intro i
  rw [Array.getElem?_setIfInBounds]
  by_cases h : i < 51
  · rw [chArr_get _ _ _ (j+1) _ h]
    by_cases e : j = i
    · subst e; simp [chArr_size, hj]
    · rw [if_neg e, chArr_get _ _ _ _ _ h]
      have : (i < j) ↔ (i < j + 1) := by omega
      simp [this]
  · rw [if_neg (by omega), Array.getElem?_eq_none (by rw [chArr_size]; omega), Array.getElem?_eq_none (by rw [chArr_size]; omega)]

def zeros51 : Array Value := #[.int .i64 0, .int .i64 0, .int .i64 0, .int .i64 0, .int .i64 0, .int .i64 0, .int .i64 0, .int .i64 0, .int .i64 0, .int .i64 0, .int .i64 0, .int .i64 0, .int .i64 0, .int .i64 0, .int .i64 0, .int .i64 0, .int .i64 0, .int .i64 0, .int .i64 0, .int .i64 0, .int .i64 0, .int .i64 0, .int .i64 0, .int .i64 0, .int .i64 0, .int .i64 0, .int .i64 0, .int .i64 0, .int .i64 0, .int .i64 0, .int .i64 0, .int .i64 0, .int .i64 0, .int .i64 0, .int .i64 0, .int .i64 0, .int .i64 0, .int .i64 0, .int .i64 0, .int .i64 0, .int .i64 0, .int .i64 0, .int .i64 0, .int .i64 0, .int .i64 0, .int .i64 0, .int .i64 0, .int .i64 0, .int .i64 0, .int .i64 0, .int .i64 0]
theorem zeros51_eq (l u s : Nat) : zeros51 = chArr l u s 0 := by rw [chArr_zero]; rfl
theorem tInfo119 : (Try.prog.info? 119).map (·.size) = some 51 := by kernel_rfl
theorem chArr_one (l u s j : Nat) : ∀ v ∈ (chArr l u s j).toList, v.oneCell' = true := by
  intro v hv
  simp [chArr, chList] at hv
  obtain ⟨i, _, rfl⟩ := hv
  rfl
set_option maxRecDepth 100000 in
set_option maxHeartbeats 400000 in
theorem chances_any (L M S F : Int) (l u s mb : Nat) (hL : L = l) (hS : S = s) (w : World) (hl : l + u ≤ 50) (hs : s ≤ l) (hm : Memo w mb) :
    Calls Try.prog 77 #[workV L M S F mb, .int .i64 u] w fun e w' => e = .returned (.tuple #[.agg (chArr l u s (s+1)), .int .i64 (tot l u s)]) ∧ Memo w' mb ∧ w.grownBy w' (some mb) := by
  subst hL hS
  go_enter Try.func77, Try.ntmps77
  go_wp2
  have hn := two_new w #[.int .i64 l, .int .i64 M, .int .i64 s, .int .i64 F, .map (some mb)] zeros51 99 119
  have hm0 := (hm.alloc (.cells #[.int .i64 l, .int .i64 M, .int .i64 s, .int .i64 F, .map (some mb)] 99)).alloc (.cells zeros51 119)
  have hg0 := (World.grownBy_alloc w (.cells #[.int .i64 l, .int .i64 M, .int .i64 s, .int .i64 F, .map (some mb)] 99) (some mb)).trans' (World.grownBy_alloc _ (.cells zeros51 119) (some mb))
  unfold zeros51 at hn hm0 hg0
  generalize (w.alloc (.cells #[.int .i64 l, .int .i64 M, .int .i64 s, .int .i64 F, .map (some mb)] 99)).alloc (.cells #[.int .i64 0, .int .i64 0, .int .i64 0, .int .i64 0, .int .i64 0, .int .i64 0, .int .i64 0, .int .i64 0, .int .i64 0, .int .i64 0, .int .i64 0, .int .i64 0, .int .i64 0, .int .i64 0, .int .i64 0, .int .i64 0, .int .i64 0, .int .i64 0, .int .i64 0, .int .i64 0, .int .i64 0, .int .i64 0, .int .i64 0, .int .i64 0, .int .i64 0, .int .i64 0, .int .i64 0, .int .i64 0, .int .i64 0, .int .i64 0, .int .i64 0, .int .i64 0, .int .i64 0, .int .i64 0, .int .i64 0, .int .i64 0, .int .i64 0, .int .i64 0, .int .i64 0, .int .i64 0, .int .i64 0, .int .i64 0, .int .i64 0, .int .i64 0, .int .i64 0, .int .i64 0, .int .i64 0, .int .i64 0, .int .i64 0, .int .i64 0, .int .i64 0] 119) = W0 at *
  obtain ⟨b1, b2, hb0, hsz⟩ := hn
  have b2' : Blk W0 (w.heap.size + 1) (chArr l u s 0) 119 := by rw [← zeros51_eq]; exact b2
  clear b2 hb0
  have hmw := hm.lt
  have H0 := Lib.hid hm0
  have HG0 := Lib.hid hg0
  have HZ := Lib.hid hsz
  have B1 := Lib.hid b1
  have B2 := Lib.hid b2'
  clear hm0 hg0 hsz b1 b2' hm
  go_loopw [11] (fun y wr => ∃ j : Nat, j ≤ s + 1 ∧ y = .int .i64 (j : Int) ∧ Hid (Blk wr w.heap.size #[.int .i64 l, .int .i64 M, .int .i64 s, .int .i64 F, .map (some mb)] 99 ∧ Blk wr (w.heap.size + 1) (chArr l u s j) 119 ∧ Memo wr mb ∧ w.grownBy wr (some mb)))
    (fun y _ => s + 1 - (intOf y).toNat)
  case atStart => exact ⟨0, by omega, rfl, B1.out, B2.out, H0.out, HG0.out⟩
  case round =>
    obtain ⟨j, hj, rfl, H⟩ := hrel
    obtain ⟨c1, c2, hmj, hgj⟩ := H.out
    obtain ⟨k0, k1, k2, k3, k4⟩ := c1.c5
    have lt1 := c1.lt
    have lt2 := c2.lt
    clear c1 c2 hmj hgj
    by_cases hlt : j < s + 1
    · have q0 : (0 : Int) ≤ (j : Int) := by omega
      have q1 : (j : Int) < 51 := by omega
      have w1 : ∀ w, Memo w mb → Calls Try.prog 74 #[.agg #[.map (some mb)], .int .i64 l, .int .i64 j] w (SubPost mb (ch l j) w) := fun w hm => ways_any mb l j w (by omega) (by omega) hm
      have w2 : ∀ w, Memo w mb → Calls Try.prog 74 #[.agg #[.map (some mb)], .int .i64 u, .int .i64 ((s : Int) - (j : Int))] w (SubPost mb (ch u (s-j)) w) := fun w hm => by
        have := ways_any mb u (s-j) w (by omega) (by omega) hm
        rw [show ((s - j : Nat) : Int) = (s : Int) - (j : Int) by omega] at this
        exact this
      have hb := sets_le l u s j hl
      have hset := chArr_set l u s j (by omega)
      unfold sets at hb
      have hS : sets l u s j = ch l j * ch u (s - j) := rfl
      rw [hS] at hset
      have HSET := Lib.hid hset
      clear hS hset
      generalize ch l j = A at *
      generalize ch u (s - j) = B at *
      have hAB : IntKind.i64.wrap ((A : Int) * (B : Int)) = ((A * B : Nat) : Int) := by rw [← Int.natCast_mul]; exact IntWalk.i64_in _ (by omega)
      have HAB := Lib.hid hAB
      have W1 := Lib.hid w1
      have W2 := Lib.hid w2
      clear hAB w1 w2
      have hne1 : some w.heap.size ≠ some mb := by simp; omega
      have hne2 : some (w.heap.size + 1) ≠ some mb := by simp; omega
      have N1 := Lib.hid hne1
      have N2 := Lib.hid hne2
      clear hne1 hne2
      have hget := chArr_get l u s j j (by omega)
      have HGET := Lib.hid hget
      clear hget
      have e0 : IntKind.i64.wrap ((s : Int) - (j : Int)) = (s : Int) - (j : Int) := IntWalk.i64_in _ (by omega)
      have E0 := Lib.hid e0
      clear e0
      go_wp2
      have hAB := HAB.out
      have e0 := E0.out
      go_region_held3 (fun w' => w'.cell? ⟨w.heap.size, 0, none⟩ = some (.int .i64 l) ∧ w'.cell? ⟨w.heap.size, 2, none⟩ = some (.int .i64 s) ∧ w'.cell? ⟨w.heap.size, 4, none⟩ = some (.map (some mb)))
        (first | exact ⟨y0, y2, y4⟩ | exact ⟨x0, x2, x4⟩ | go_keep)
        (first | (go_at_call 74; ((with_reducible refine (W1.out _ ?_).mono ?_); (exact H.out.2.2.1); rintro e v1 ⟨rfl, hm1, hg1⟩; have z1 := H.out.1.drew.kept hg1 N1.out; have z2 := H.out.2.1.drew.kept hg1 N2.out; have ⟨x0, x1, x2, x3, x4⟩ := z1.c5; have M1 := Lib.hid hm1; have G1 := Lib.hid hg1.drew'; have Z1 := Lib.hid z1; have Z2 := Lib.hid z2; clear hm1 hg1 z1 z2)) | (go_at_call 74; ((with_reducible refine (W2.out _ ?_).mono ?_); (exact M1.out); rintro e v2 ⟨rfl, hm2, hg2⟩; have t1 := Z1.out.kept hg2 N1.out; have t2 := Z2.out.kept hg2 N2.out; have ⟨y0, y1, y2, y3, y4⟩ := t1.c5; have t3 : v2.cell? ⟨w.heap.size + 1, j, none⟩ = some _ := (t2.cell j).trans HGET.out; have t4 := t2.frozen j; have M2 := Lib.hid hm2; have G2 := Lib.hid hg2; have T1 := Lib.hid t1; have T2 := Lib.hid t2; clear hm2 hg2 t1 t2)))
      clear hAB e0
      go_wp2
      go_roundw
      case rel =>
        refine ⟨j + 1, by omega, by go_num, T1.out.other (by simp) _, ?_, M2.out.setCell (by simp; omega) _, ?_⟩
        · have := T2.out.set j (.int .i64 ((A * B : Nat) : Int))
          rw [HSET.out] at this
          exact this
        · exact grownBy_setNew ((H.out.2.2.2.trans' G1.out).trans' G2.out) (by simp) _
      case measure => simp [intOf]; omega
    · obtain rfl : j = s + 1 := by omega
      have w1 : ∀ w, Memo w mb → Calls Try.prog 74 #[.agg #[.map (some mb)], .int .i64 ((l : Int) + (u : Int)), .int .i64 s] w (SubPost mb (tot l u s) w) := fun w hm => by
        have := ways_any mb (l+u) s w (by omega) (by omega) hm
        rw [show ((l + u : Nat) : Int) = (l : Int) + (u : Int) by omega] at this
        exact this
      generalize hT : tot l u s = T at w1
      have HT := Lib.hid hT
      clear hT
      have hne1 : some w.heap.size ≠ some mb := by simp; omega
      have hne2 : some (w.heap.size + 1) ≠ some mb := by simp; omega
      have e0 : IntKind.i64.wrap ((l : Int) + (u : Int)) = (l : Int) + (u : Int) := IntWalk.i64_in _ (by omega)
      have E0 := Lib.hid e0
      have W1 := Lib.hid w1
      have N1 := Lib.hid hne1
      have N2 := Lib.hid hne2
      clear hne1 hne2 w1 e0
      go_wp2
      have e0 := E0.out
      have hr : wr.rangeAt (w.heap.size + 1) 0 (chList l u s (s + 1)) := Blk.range H.out.2.1
      have hi119 : (Try.prog.info? 119).map (·.size) = some (chList l u s (s + 1)).length := by rw [tInfo119]; simp [chList]
      have hu119 := Try.underlying119
      have ho : ∀ v, v ∈ chList l u s (s + 1) → v.oneCell' = true := fun v hv => chArr_one l u s (s + 1) v (by simpa [chArr] using hv)
      go_region_held3 (fun w' => w'.cell? ⟨w.heap.size, 0, none⟩ = some (.int .i64 l) ∧ w'.cell? ⟨w.heap.size, 2, none⟩ = some (.int .i64 s) ∧ w'.cell? ⟨w.heap.size, 4, none⟩ = some (.map (some mb)) ∧ w'.rangeAt (w.heap.size + 1) 0 (chList l u s (s + 1)))
        (first | (with_reducible exact ⟨x0, x2, x4, x5⟩) | (with_reducible exact ⟨cell_setCells_far x0 _ _ _ (by simp), cell_setCells_far x2 _ _ _ (by simp), cell_setCells_far x4 _ _ _ (by simp), x7⟩) | exact ⟨k0, k2, k4, hr⟩)
        (first | (go_at_call 74; ((with_reducible refine (W1.out _ ?_).mono ?_); (exact H.out.2.2.1); rintro e v1 ⟨rfl, hm1, hg1⟩; have z1 := H.out.1.drew.kept hg1 N1.out; have z2 := H.out.2.1.drew.kept hg1 N2.out; have ⟨x0, x1, x2, x3, x4⟩ := z1.c5; have x5 := Blk.range z2; have x6 := Blk.there z2; have x7 := Blk.range (Blk.setCellsSame (cs := chList l u s (s + 1)) z2); have M1 := Lib.hid hm1; have G1 := Lib.hid hg1.drew'; have Z1 := Lib.hid z1; have Z2 := Lib.hid z2; clear hm1 hg1 z1 z2)))
      clear e0 hu119 hi119 ho hr
      go_wp2
      have hb7 := Blk.setCellsSame (cs := chList l u s (s + 1)) Z2.out
      have hlv : (loadVar 119 ⟨w.heap.size + 1, 0, none⟩).run Try.prog (v1.setCells (w.heap.size + 1) 0 (chList l u s (s + 1))) = .ok (.agg (chList l u s (s + 1)).toArray) (v1.setCells (w.heap.size + 1) 0 (chList l u s (s + 1))) :=
        run_loadVar_mid _ _ 0 119 (chList l u s (s + 1)) _ x7 Try.underlying119 rfl (by rw [tInfo119]; simp [chList])
      refine bodyPost_ret (v := .tuple #[.agg (chList l u s (s + 1)).toArray, .int .i64 T]) (by simp [results, Try.results77, asAddr, hlv]) rfl ⟨by rw [HT.out]; rfl, ?_, ?_⟩
      · exact M1.out.kept (grownBy_setCells _ _ _ _) (by simp; omega)
      · exact grownBy_rowNew (H.out.2.2.2.trans' G1.out) (grownBy_setCells _ _ _ _) (by simp)
end Go.Proofs.Ytkfobnhnehbkeaa
