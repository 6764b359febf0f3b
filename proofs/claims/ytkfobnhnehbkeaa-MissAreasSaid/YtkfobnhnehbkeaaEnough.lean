/- The walks of work.enough and Enough of package miss. -/
import Derived.Test.YtkfobnhnehbkeaaAll
namespace Go.Proofs.Ytkfobnhnehbkeaa
open Go.RowKit
open Mis (ch sets tot sm low up lower)

/-- is a sample large enough, if there are u missed persons? -/
def enoughB (l u s n d : Nat) : Bool := !lower (tot l u s - sets l u s s) (tot l u s) n d
set_option maxRecDepth 100000 in
set_option maxHeartbeats 1000000 in
theorem enough_any (M F : Int) (l u s mb n d : Nat) (w : World) (hl : l + u ≤ 50) (hs : s ≤ l) (hn : n ≤ 1000) (hd : d ≤ 1000) (hm : Memo w mb) :
    Calls Try.prog 69 #[workV l M s F mb, .int .i64 u, fracV n d] w fun e w' => e = .returned (.bool (enoughB l u s n d)) ∧ Memo w' mb ∧ w.grownBy w' (some mb) := by
  have C77 := Lib.hid (show ∀ w, Memo w mb → Calls Try.prog 77 #[workV l M s F mb, .int .i64 u] w (fun e w' => e = .returned (.tuple #[.agg (chArr l u s (s+1)), .int .i64 (tot l u s)]) ∧ Memo w' mb ∧ w.grownBy w' (some mb)) from fun w hm => chances_any l M s F l u s mb rfl rfl w hl hs hm)
  have hA : sets l u s s ≤ tot l u s := by
    have e := Mis.sm_add (sets l u s) 0 s 1
    have e2 := Mis.low_full l u s
    unfold Mis.low at e2
    have e3 := Mis.sm_succ (sets l u s) 0 s
    simp only [Nat.zero_add] at e3
    omega
  have hT := tot_le l u s hl
  have HG := Lib.hid (show (chArr l u s (s+1))[s]? = some (.int .i64 (sets l u s s : Nat)) by rw [chArr_get _ _ _ _ _ (by omega), if_pos (by omega)])
  have HS1 := Lib.hid (fun i => chArr_size l u s i)
  have HO1 := Lib.hid (fun i => chArr_one l u s i)
  have HE := Lib.hid (show enoughB l u s n d = !lower (tot l u s - sets l u s s) (tot l u s) n d from rfl)
  generalize sets l u s s = A at *
  generalize tot l u s = T at *
  have HM0 := Lib.hid ((hm.alloc (.cells #[.int .i64 l, .int .i64 M, .int .i64 s, .int .i64 F, .map (some mb)] 99)).alloc (.cells #[.int .i64 n, .int .i64 d] 25))
  have hlt := hm.lt
  have C62 := Lib.hid (fun w => below_any (T - A) T n d w (by omega) (by omega) (by omega) (by omega))
  have HB := Lib.hid (show IntKind.i64.wrap ((T : Int) - (A : Int)) = ((T - A : Nat) : Int) by rw [IntWalk.i64_in _ (by omega)]; omega)
  generalize T - A = B at *
  clear hm
  go_enter Try.func69, Try.ntmps69
  go_wp2_with fail
  obtain ⟨b1, b2, hb0, hsz⟩ := two_new w #[.int .i64 l, .int .i64 M, .int .i64 s, .int .i64 F, .map (some mb)] #[.int .i64 n, .int .i64 d] 99 25
  generalize (w.alloc (.cells #[.int .i64 l, .int .i64 M, .int .i64 s, .int .i64 F, .map (some mb)] 99)).alloc (.cells #[.int .i64 n, .int .i64 d] 25) = W0 at *
  refine (C77.out _ HM0.out).mono ?_
  rintro e w1 ⟨rfl, hm1, hg1⟩
  have c1 := b1.kept hg1 (by simp; omega)
  have c2 := b2.kept hg1 (by simp; omega)
  have hgw := (grownBy_below hb0 (some mb)).trans' hg1
  clear b1 b2 hb0 hg1
  have lt1 := c1.lt
  have lt2 := c2.lt
  have C1 := Lib.hid c1
  have C2 := Lib.hid c2
  have HM1 := Lib.hid hm1
  have HGW := Lib.hid hgw
  clear c1 c2 hm1 hgw hsz
  have n1 : w.heap.size ≠ w1.heap.size := by omega
  have n2 : w.heap.size + 1 ≠ w1.heap.size := by omega
  have n4 : mb ≠ w1.heap.size := by have := HM1.out.lt; omega
  go_wp2_with (first | (refine wpList_store_row rfl 119 _ _ rfl _ rfl 119 _ _ rfl (Blk.new w1 _ 119) tInfo119 (HS1.out _) (HO1.out _) ?_; intro w2 hb2 hg2; have c1 := (C1.out.alloc _).kept hg2 (by simpa using n1); have c2 := (C2.out.alloc _).kept hg2 (by simpa using n2); have hm2 := (HM1.out.alloc _).kept hg2 (by simpa using n4); have hw2 := grownBy_rowNew (HGW.out.trans' (World.grownBy_alloc _ _ _)) hg2 (by omega); obtain ⟨k0, k1, k2, k3, k4⟩ := c1.c5; obtain ⟨k5, k6, k7, k8⟩ := c2.c2; have k9 := (hb2.cell s).trans HG.out; have lt3 := c1.lt; have lt4 := c2.lt; have lt5 := hb2.lt; have C1' := Lib.hid c1; have C2' := Lib.hid c2; have B2 := Lib.hid hb2; have HM2 := Lib.hid hm2; have HW2 := Lib.hid hw2; clear hg2 c1 c2 hb2 hm2 hw2))
  have e0 := HB.out
  have e1 : (0 : Int) ≤ (s : Int) := by omega
  have e2 : (s : Int) < 51 := by omega
  go_region_held3 (fun w' => w'.cell? ⟨w.heap.size, 2, none⟩ = some (.int .i64 s) ∧ w'.cell? ⟨w1.heap.size, s, none⟩ = some (.int .i64 A) ∧ w'.cell? ⟨w.heap.size + 1, 0, none⟩ = some (.int .i64 n) ∧ w'.cell? ⟨w.heap.size + 1, 1, none⟩ = some (.int .i64 d))
    (first | (with_reducible exact ⟨x2, x9, x5, x6⟩) | (with_reducible exact ⟨k2, k9, k5, k6⟩) | go_keep)
    (first | (go_at_call 62; (with_reducible refine (C62.out _).mono ?_); rintro e w3 ⟨rfl, hb3⟩; have x2 := (C1'.out.drew.below hb3 lt3).c5.2.2.1; have x5 := (C2'.out.drew.below hb3 lt4).c2.1; have x6 := (C2'.out.drew.below hb3 lt4).c2.2.1; have x9 := ((B2.out.drew.below hb3 lt5).cell s).trans HG.out; have HB3 := Lib.hid (show Below w2.heap.size w2 w3 from ⟨hb3.os, hb3.tape, hb3.output, hb3.size, hb3.block⟩); clear hb3))
  go_wp2
  go_ret
  refine ⟨by rw [HE.out]; rfl, HM2.out.below HB3.out HM2.out.lt, HW2.out.trans' (grownBy_below HB3.out _)⟩
end Go.Proofs.Ytkfobnhnehbkeaa
