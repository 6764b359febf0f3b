/- Texts of this seat, merged. -/
import Derived.Test.YtdfebccmjbocjaaGreatDoorMiG2
import Derived.Laws.IdiomCopy
import Derived.Deep.MidRow
set_option linter.unusedVariables false
set_option linter.unusedSimpArgs false
namespace Go.Proofs.YtdfebccmjbocjaaGreatDoor.Mi
open Go.RowKit

def putAt : Array Value → Nat → List Value → Array Value
  | cs, _, [] => cs
  | cs, o, v :: r => putAt (cs.setIfInBounds o v) (o + 1) r
theorem putAt_size : ∀ (vs : List Value) (cs : Array Value) (o : Nat), (putAt cs o vs).size = cs.size
  | [], _, _ => rfl
  | v :: r, cs, o => by rw [putAt, putAt_size r]; simp
theorem putAt_get : ∀ (vs : List Value) (cs : Array Value) (o i : Nat), o + vs.length ≤ cs.size → (putAt cs o vs)[i]? = if o ≤ i ∧ i < o + vs.length then vs[i - o]? else cs[i]?
  | [], cs, o, i, _ => by rw [putAt, if_neg (by simp only [List.length_nil]; omega)]
  | v :: r, cs, o, i, h => by
    simp only [List.length_cons] at h
    rw [putAt, putAt_get r _ _ _ (by simp; omega)]
    by_cases h1 : i = o
    · subst h1
      rw [if_neg (by omega), if_pos (by simp), Array.getElem?_setIfInBounds]
      simp; omega
    · by_cases h2 : o + 1 ≤ i ∧ i < o + 1 + r.length
      · rw [if_pos h2, if_pos (by simp; omega)]
        rw [show i - o = (i - (o + 1)) + 1 by omega, List.getElem?_cons_succ]
      · rw [if_neg h2, if_neg (by simp; omega), Array.getElem?_setIfInBounds, if_neg (by omega)]
theorem putAt_full (cs : Array Value) (vs : List Value) (h : vs.length = cs.size) : putAt cs 0 vs = vs.toArray := by
  apply Array.ext_getElem?
  intro i
  rw [putAt_get _ _ _ _ (by omega)]
  by_cases hi : i < vs.length
  · rw [if_pos (by omega)]; simp
  · rw [if_neg (by omega), Array.getElem?_eq_none (by omega), Array.getElem?_eq_none (by simp; omega)]
theorem Blk.setCells {b : Nat} {t : TypeId} : ∀ (vs : List Value) (o : Nat) {W : World} {cs : Array Value}, Blk W b cs t → Blk (W.setCells b o vs) b (putAt cs o vs) t
  | [], _, _, _, h => h
  | v :: r, o, _, _, h => Blk.setCells r (o + 1) (h.set o v)
theorem grownBy_setCells (b : Nat) : ∀ (vs : List Value) (o : Nat) (W : World), W.grownBy (W.setCells b o vs) (some b)
  | [], _, W => World.grownBy.refl W _
  | v :: r, o, W => ((⟨rfl, rfl, rfl, by simp [World.setCell], fun k _ hr => Below.heap_setCell _ _ _ k (by simpa using hr)⟩ : W.grownBy (W.setCell ⟨b, o, none⟩ v) (some b))).trans' (grownBy_setCells b r (o + 1) _)

section
variable {P : Program} {ops : Array Oper} {o : Oper} {a : Act} {w : World} {K : Act → World → Prop} {Q : Exit → Act → World → Prop}
theorem wp_store_row (ty : TypeId) (x y : Operand) (ho : o.op = .store ty x y) (g : Nat) (hx : a.eval x = .pointer (some ⟨g, 0, none⟩)) (t : TypeId) (cs vs : Array Value) (hy : a.eval y = .agg vs)
    (hg : Blk w g cs t) (hi : (P.info? ty).map (·.size) = some cs.size) (hs : vs.size = cs.size) (h1 : ∀ v ∈ vs.toList, v.oneCell' = true)
    (h : ∀ w', Blk w' g vs t → w.grownBy w' (some g) → K (a.put o.dst undef) w') : o.wp P a w K Q := by
  have hrun := run_storeCells_cells (P := P) g 0 vs.toList 0 w (fun j hj => by
    have hj' : j < cs.size := by simpa [hs] using hj
    have := hg.cell j; simp only [Nat.zero_add] at *; rw [this]; simp [hj']) (fun j _ => by simpa using hg.frozen j) h1
  have hfull : putAt cs 0 vs.toList = vs := by rw [putAt_full _ _ (by simpa using hs)]
  have hb := Blk.setCells vs.toList 0 hg
  rw [hfull] at hb
  cases hq : P.info? ty with
  | none => simp [hq] at hi
  | some i =>
    have hsz : i.size = cs.size := by simpa [hq] using hi
    unfold Oper.wp execOp
    simp [ho, hx, hy, Instr.storeAt, Instr.sureAddr, storeVar, Value.cells, sizeOf, typeInfo, hq, hsz, hs, hrun, Sem.run_bind, Result.andThen]
    exact h _ hb (grownBy_setCells g _ _ _)
theorem step_store_row {E : Prop} (hgd : o.guard = none) (ty : TypeId) (x y : Operand) (ho : o.op = .store ty x y) (g : Nat) (hx : a.eval x = .pointer (some ⟨g, 0, none⟩)) (t : TypeId) (cs vs : Array Value) (hy : a.eval y = .agg vs)
    (hg : Blk w g cs t) (hi : (P.info? ty).map (·.size) = some cs.size) (hs : vs.size = cs.size) (h1 : ∀ v ∈ vs.toList, v.oneCell' = true)
    (h : ∀ w', Blk w' g vs t → w.grownBy w' (some g) → K (a.put o.dst undef) w') : if Region.wanted o (yielded ops a.tmps) = true then Oper.wp P o a w K Q else E := by
  have hw : Region.wanted o (yielded ops a.tmps) = true := by simp [Region.wanted, hgd]
  rw [if_pos hw]
  exact wp_store_row ty x y ho g hx t cs vs hy hg hi hs h1 h
theorem step_load_row {E : Prop} (hgd : o.guard = none) (ty : TypeId) (x : Operand) (ho : o.op = .load ty x) (g : Nat) (hx : a.eval x = .pointer (some ⟨g, 0, none⟩)) (t : TypeId) (cs : Array Value) (d : TypeDesc)
    (hg : Blk w g cs t) (hu : P.underlying ty = some d) (hd : (match d with | .struct _ | .array _ _ => true | _ => false) = true) (hi : (P.info? ty).map (·.size) = some cs.size)
    (h : K (a.put o.dst (.agg cs)) w) : if Region.wanted o (yielded ops a.tmps) = true then Oper.wp P o a w K Q else E := by
  have hw : Region.wanted o (yielded ops a.tmps) = true := by simp [Region.wanted, hgd]
  rw [if_pos hw]
  exact wp_load_row ty x ho g hx t cs (0, 0) d hg hu hd hi h
theorem wpList_store_row {rest : List Oper} (hgd : o.guard = none) (ty : TypeId) (x y : Operand) (ho : o.op = .store ty x y) (g : Nat) (hx : a.eval x = .pointer (some ⟨g, 0, none⟩)) (t : TypeId) (cs vs : Array Value) (hy : a.eval y = .agg vs)
    (hg : Blk w g cs t) (hi : (P.info? ty).map (·.size) = some cs.size) (hs : vs.size = cs.size) (h1 : ∀ v ∈ vs.toList, v.oneCell' = true)
    (h : ∀ w', Blk w' g vs t → w.grownBy w' (some g) → wpList P ops Q rest (a.put o.dst undef) w') : wpList P ops Q (o :: rest) a w :=
  wpList_plain hgd fun _ hK => wp_store_row ty x y ho g hx t cs vs hy hg hi hs h1 fun w' h1 h2 => hK _ _ (h w' h1 h2)
end
theorem Blk.range {W : World} {b : Nat} {cs : List Value} {t : TypeId} (h : Blk W b cs.toArray t) : W.rangeAt b 0 cs := fun j v hv => by
  rw [Nat.zero_add, h.cell j]; simpa using hv
theorem Blk.there {W : World} {b : Nat} {cs : List Value} {t : TypeId} (h : Blk W b cs.toArray t) : W.there b 0 cs.length := fun j hj => by
  rw [Nat.zero_add, h.cell j, h.frozen j]; simp [hj]
/-- behind a row's store: other blocks' cells, the row itself -/
theorem cell_setCells_far {W : World} {a : Addr} {v : Value} (h : W.cell? a = some v) (b o : Nat) (vs : List Value) (hne : a.block ≠ b) : (W.setCells b o vs).cell? a = some v := by
  rw [World.cell?_setCells_out _ _ _ _ _ (fun h1 => absurd h1 hne)]; exact h
theorem cell_setCell_far {W : World} {b : Addr} {v : Value} (h : W.cell? b = some v) (a : Addr) (x : Value) (hne : b.block ≠ a.block) : (W.setCell a x).cell? b = some v := by
  rw [World.cell?_setCell_other _ _ _ _ (fun e => hne (by rw [e]))]; exact h
theorem Blk.setCellsSame {W : World} {b : Nat} {cs : List Value} {t : TypeId} (h : Blk W b cs.toArray t) : Blk (W.setCells b 0 cs) b cs.toArray t := by
  have := h.setCells cs 0
  rwa [putAt_full _ _ (by simp)] at this
theorem tArr119 : Tryz.prog.underlying 182 = some (.array (Tryz.prog.arrayLen 182) (Tryz.prog.elem 182)) := by simp [Program.arrayLen, Program.elem, Tryz.underlying182]
theorem tLen119 : Tryz.prog.arrayLen 182 = 51 := by simp [Program.arrayLen, Tryz.underlying182]
theorem tElem119 : Tryz.prog.elem 182 = 3 := by simp [Program.elem, Tryz.underlying182]
theorem tSizeOf3 (W : World) : (sizeOf 3).run Tryz.prog W = .ok 1 W := by kernel_rfl
/-- a slice of the array of the chances -/
theorem slice119 (g a n : Nat) (lo hi : Int) (hlo : lo = a) (hhi : hi = (a : Int) + n) (h : a + n ≤ 51) (ha : a < 51) (W : World) :
    (Instr.sliceAt 182 (.pointer (some ⟨g, 0, none⟩)) (some (.int .i64 lo)) (some (.int .i64 hi)) none).run Tryz.prog W = .ok (.slice (some ⟨g, a, none⟩) n (51 - a)) W := by
  subst hlo hhi
  rw [run_sliceAt_array_lh W 182 ⟨g, 0, none⟩ tArr119 .i64 .i64 _ _ (by omega) (by omega) (by rw [tLen119]; omega), tElem119, tSizeOf3, tLen119]
  simp only [Result.andThen_ok, slicedAt]
  rw [if_neg (by omega)]
  have e1 : ((a : Int) + (n : Int)).toNat - (a : Int).toNat = n := by omega
  have e2 : (a : Int).toNat = a := by omega
  rw [e1, e2, Addr.add_mid]
  simp
end Go.Proofs.YtdfebccmjbocjaaGreatDoor.Mi
namespace Go.Proofs.YtdfebccmjbocjaaGreatDoor.Mi
open Go.RowKit
open Mis (ch sets tot)

abbrev workV (L M S F : Int) (mb : Nat) : Value := .agg #[.int .i64 L, .int .i64 M, .int .i64 S, .int .i64 F, .map (some mb)]
/-- the array of the chances when j of them are reckoned -/
def chList (l u s j : Nat) : List Value := (List.range 51).map fun i => .int .i64 ((if i < j then sets l u s i else 0 : Nat) : Int)
def chArr (l u s j : Nat) : Array Value := (chList l u s j).toArray
theorem chArr_size (l u s j : Nat) : (chArr l u s j).size = 51 := by simp [chArr, chList]
theorem chArr_get (l u s j i : Nat) (h : i < 51) : (chArr l u s j)[i]? = some (.int .i64 ((if i < j then sets l u s i else 0 : Nat) : Int)) := by
  simp [chArr, chList, h]
theorem chArr_zero (l u s : Nat) : chArr l u s 0 = Array.replicate 51 (.int .i64 0) := by
  apply Array.ext_getElem?
  intro i
  by_cases h : i < 51
  · rw [chArr_get _ _ _ _ _ h]; simp [h]
  · rw [Array.getElem?_eq_none (by rw [chArr_size]; omega), Array.getElem?_eq_none (by simp; omega)]
theorem chArr_set (l u s j : Nat) (hj : j < 51) : (chArr l u s j).setIfInBounds j (.int .i64 (sets l u s j : Nat)) = chArr l u s (j+1) := by
  apply Array.ext_getElem?
  intro i
  rw [Array.getElem?_setIfInBounds]
  by_cases h : i < 51
  · rw [chArr_get _ _ _ (j+1) _ h]
    by_cases e : j = i
    · subst e; simp [chArr_size, hj]
    · rw [if_neg e, chArr_get _ _ _ _ _ h]
      have : (i < j) ↔ (i < j + 1) := by omega
      simp [this]
  · rw [if_neg (by omega), Array.getElem?_eq_none (by rw [chArr_size]; omega), Array.getElem?_eq_none (by rw [chArr_size]; omega)]

def zeros51 : Array Value := #[.int .i64 0, .int .i64 0, .int .i64 0, .int .i64 0, .int .i64 0, .int .i64 0, .int .i64 0, .int .i64 0, .int .i64 0, .int .i64 0, .int .i64 0, .int .i64 0, .int .i64 0, .int .i64 0, .int .i64 0, .int .i64 0, .int .i64 0, .int .i64 0, .int .i64 0, .int .i64 0, .int .i64 0, .int .i64 0, .int .i64 0, .int .i64 0, .int .i64 0, .int .i64 0, .int .i64 0, .int .i64 0, .int .i64 0, .int .i64 0, .int .i64 0, .int .i64 0, .int .i64 0, .int .i64 0, .int .i64 0, .int .i64 0, .int .i64 0, .int .i64 0, .int .i64 0, .int .i64 0, .int .i64 0, .int .i64 0, .int .i64 0, .int .i64 0, .int .i64 0, .int .i64 0, .int .i64 0, .int .i64 0, .int .i64 0, .int .i64 0, .int .i64 0]
theorem zeros51_eq (l u s : Nat) : zeros51 = chArr l u s 0 := by rw [chArr_zero]; rfl
theorem tInfo119 : (Tryz.prog.info? 182).map (·.size) = some 51 := by kernel_rfl
theorem chArr_one (l u s j : Nat) : ∀ v ∈ (chArr l u s j).toList, v.oneCell' = true := by
  intro v hv
  simp [chArr, chList] at hv
  obtain ⟨i, _, rfl⟩ := hv
  rfl
set_option maxRecDepth 100000 in
set_option maxHeartbeats 400000 in
theorem chances_any (L M S F : Int) (l u s mb : Nat) (hL : L = l) (hS : S = s) (w : World) (hl : l + u ≤ 50) (hs : s ≤ l) (hm : Memo w mb) :
    Calls Tryz.prog 125 #[workV L M S F mb, .int .i64 u] w fun e w' => e = .returned (.tuple #[.agg (chArr l u s (s+1)), .int .i64 (tot l u s)]) ∧ Memo w' mb ∧ w.grownBy w' (some mb) := by
  subst hL hS
  go_enter Tryz.func125, Tryz.ntmps125
  go_wp2
  have hn := two_new w #[.int .i64 l, .int .i64 M, .int .i64 s, .int .i64 F, .map (some mb)] zeros51 151 182
  have hm0 := (hm.alloc (.cells #[.int .i64 l, .int .i64 M, .int .i64 s, .int .i64 F, .map (some mb)] 151)).alloc (.cells zeros51 182)
  have hg0 := (World.grownBy_alloc w (.cells #[.int .i64 l, .int .i64 M, .int .i64 s, .int .i64 F, .map (some mb)] 151) (some mb)).trans' (World.grownBy_alloc _ (.cells zeros51 182) (some mb))
  unfold zeros51 at hn hm0 hg0
  generalize (w.alloc (.cells #[.int .i64 l, .int .i64 M, .int .i64 s, .int .i64 F, .map (some mb)] 151)).alloc (.cells #[.int .i64 0, .int .i64 0, .int .i64 0, .int .i64 0, .int .i64 0, .int .i64 0, .int .i64 0, .int .i64 0, .int .i64 0, .int .i64 0, .int .i64 0, .int .i64 0, .int .i64 0, .int .i64 0, .int .i64 0, .int .i64 0, .int .i64 0, .int .i64 0, .int .i64 0, .int .i64 0, .int .i64 0, .int .i64 0, .int .i64 0, .int .i64 0, .int .i64 0, .int .i64 0, .int .i64 0, .int .i64 0, .int .i64 0, .int .i64 0, .int .i64 0, .int .i64 0, .int .i64 0, .int .i64 0, .int .i64 0, .int .i64 0, .int .i64 0, .int .i64 0, .int .i64 0, .int .i64 0, .int .i64 0, .int .i64 0, .int .i64 0, .int .i64 0, .int .i64 0, .int .i64 0, .int .i64 0, .int .i64 0, .int .i64 0, .int .i64 0, .int .i64 0] 182) = W0 at *
  obtain ⟨b1, b2, hb0, hsz⟩ := hn
  have b2' : Blk W0 (w.heap.size + 1) (chArr l u s 0) 182 := by rw [← zeros51_eq]; exact b2
  clear b2 hb0
  have hmw := hm.lt
  have H0 := Lib.hid hm0
  have HG0 := Lib.hid hg0
  have HZ := Lib.hid hsz
  have B1 := Lib.hid b1
  have B2 := Lib.hid b2'
  clear hm0 hg0 hsz b1 b2' hm
  go_loopw [11] (fun y wr => ∃ j : Nat, j ≤ s + 1 ∧ y = .int .i64 (j : Int) ∧ Hid (Blk wr w.heap.size #[.int .i64 l, .int .i64 M, .int .i64 s, .int .i64 F, .map (some mb)] 151 ∧ Blk wr (w.heap.size + 1) (chArr l u s j) 182 ∧ Memo wr mb ∧ w.grownBy wr (some mb)))
    (fun y _ => s + 1 - (intOf y).toNat)
  case atStart => exact ⟨0, by omega, rfl, B1.out, B2.out, H0.out, HG0.out⟩
  case round =>
    obtain ⟨j, hj, rfl, H⟩ := hrel
    obtain ⟨c1, c2, hmj, hgj⟩ := H.out
    obtain ⟨k0, k1, k2, k3, k4⟩ := c1.c5
    have lt1 := c1.lt
    have lt2 := c2.lt
    clear c1 c2 hmj hgj
    by_cases hlt : j < s + 1
    · have q0 : (0 : Int) ≤ (j : Int) := by omega
      have q1 : (j : Int) < 51 := by omega
      have w1 : ∀ w, Memo w mb → Calls Tryz.prog 153 #[.agg #[.map (some mb)], .int .i64 l, .int .i64 j] w (SubPost mb (ch l j) w) := fun w hm => ways_any mb l j w (by omega) (by omega) hm
      have w2 : ∀ w, Memo w mb → Calls Tryz.prog 153 #[.agg #[.map (some mb)], .int .i64 u, .int .i64 ((s : Int) - (j : Int))] w (SubPost mb (ch u (s-j)) w) := fun w hm => by
        have := ways_any mb u (s-j) w (by omega) (by omega) hm
        rw [show ((s - j : Nat) : Int) = (s : Int) - (j : Int) by omega] at this
        exact this
      have hb := sets_le l u s j hl
      have hset := chArr_set l u s j (by omega)
      unfold sets at hb
      have hS : sets l u s j = ch l j * ch u (s - j) := rfl
      rw [hS] at hset
      have HSET := Lib.hid hset
      clear hS hset
      generalize ch l j = A at *
      generalize ch u (s - j) = B at *
      have hAB : IntKind.i64.wrap ((A : Int) * (B : Int)) = ((A * B : Nat) : Int) := by rw [← Int.natCast_mul]; exact IntWalk.i64_in _ (by omega)
      have HAB := Lib.hid hAB
      have W1 := Lib.hid w1
      have W2 := Lib.hid w2
      clear hAB w1 w2
      have hne1 : some w.heap.size ≠ some mb := by simp; omega
      have hne2 : some (w.heap.size + 1) ≠ some mb := by simp; omega
      have N1 := Lib.hid hne1
      have N2 := Lib.hid hne2
      clear hne1 hne2
      have hget := chArr_get l u s j j (by omega)
      have HGET := Lib.hid hget
      clear hget
      have e0 : IntKind.i64.wrap ((s : Int) - (j : Int)) = (s : Int) - (j : Int) := IntWalk.i64_in _ (by omega)
      have E0 := Lib.hid e0
      clear e0
      go_wp2
      have hAB := HAB.out
      have e0 := E0.out
      go_region_held3 (fun w' => w'.cell? ⟨w.heap.size, 0, none⟩ = some (.int .i64 l) ∧ w'.cell? ⟨w.heap.size, 2, none⟩ = some (.int .i64 s) ∧ w'.cell? ⟨w.heap.size, 4, none⟩ = some (.map (some mb)))
        (first | exact ⟨y0, y2, y4⟩ | exact ⟨x0, x2, x4⟩ | go_keep)
        (first | (go_at_call 153; ((with_reducible refine (W1.out _ ?_).mono ?_); (exact H.out.2.2.1); rintro e v1 ⟨rfl, hm1, hg1⟩; have z1 := H.out.1.drew.kept hg1 N1.out; have z2 := H.out.2.1.drew.kept hg1 N2.out; have ⟨x0, x1, x2, x3, x4⟩ := z1.c5; have M1 := Lib.hid hm1; have G1 := Lib.hid hg1.drew'; have Z1 := Lib.hid z1; have Z2 := Lib.hid z2; clear hm1 hg1 z1 z2)) | (go_at_call 153; ((with_reducible refine (W2.out _ ?_).mono ?_); (exact M1.out); rintro e v2 ⟨rfl, hm2, hg2⟩; have t1 := Z1.out.kept hg2 N1.out; have t2 := Z2.out.kept hg2 N2.out; have ⟨y0, y1, y2, y3, y4⟩ := t1.c5; have t3 : v2.cell? ⟨w.heap.size + 1, j, none⟩ = some _ := (t2.cell j).trans HGET.out; have t4 := t2.frozen j; have M2 := Lib.hid hm2; have G2 := Lib.hid hg2; have T1 := Lib.hid t1; have T2 := Lib.hid t2; clear hm2 hg2 t1 t2)))
      clear hAB e0
      go_wp2
      go_roundw
      case rel =>
        refine ⟨j + 1, by omega, by go_num, T1.out.other (by simp) _, ?_, M2.out.setCell (by simp; omega) _, ?_⟩
        · have := T2.out.set j (.int .i64 ((A * B : Nat) : Int))
          rw [HSET.out] at this
          exact this
        · exact grownBy_setNew ((H.out.2.2.2.trans' G1.out).trans' G2.out) (by simp) _
      case measure => simp [intOf]; omega
    · obtain rfl : j = s + 1 := by omega
      have w1 : ∀ w, Memo w mb → Calls Tryz.prog 153 #[.agg #[.map (some mb)], .int .i64 ((l : Int) + (u : Int)), .int .i64 s] w (SubPost mb (tot l u s) w) := fun w hm => by
        have := ways_any mb (l+u) s w (by omega) (by omega) hm
        rw [show ((l + u : Nat) : Int) = (l : Int) + (u : Int) by omega] at this
        exact this
      generalize hT : tot l u s = T at w1
      have HT := Lib.hid hT
      clear hT
      have hne1 : some w.heap.size ≠ some mb := by simp; omega
      have hne2 : some (w.heap.size + 1) ≠ some mb := by simp; omega
      have e0 : IntKind.i64.wrap ((l : Int) + (u : Int)) = (l : Int) + (u : Int) := IntWalk.i64_in _ (by omega)
      have E0 := Lib.hid e0
      have W1 := Lib.hid w1
      have N1 := Lib.hid hne1
      have N2 := Lib.hid hne2
      clear hne1 hne2 w1 e0
      go_wp2
      have e0 := E0.out
      have hr : wr.rangeAt (w.heap.size + 1) 0 (chList l u s (s + 1)) := Blk.range H.out.2.1
      have hi119 : (Tryz.prog.info? 182).map (·.size) = some (chList l u s (s + 1)).length := by rw [tInfo119]; simp [chList]
      have hu119 := Tryz.underlying182
      have ho : ∀ v, v ∈ chList l u s (s + 1) → v.oneCell' = true := fun v hv => chArr_one l u s (s + 1) v (by simpa [chArr] using hv)
      go_region_held3 (fun w' => w'.cell? ⟨w.heap.size, 0, none⟩ = some (.int .i64 l) ∧ w'.cell? ⟨w.heap.size, 2, none⟩ = some (.int .i64 s) ∧ w'.cell? ⟨w.heap.size, 4, none⟩ = some (.map (some mb)) ∧ w'.rangeAt (w.heap.size + 1) 0 (chList l u s (s + 1)))
        (first | (with_reducible exact ⟨x0, x2, x4, x5⟩) | (with_reducible exact ⟨cell_setCells_far x0 _ _ _ (by simp), cell_setCells_far x2 _ _ _ (by simp), cell_setCells_far x4 _ _ _ (by simp), x7⟩) | exact ⟨k0, k2, k4, hr⟩)
        (first | (go_at_call 153; ((with_reducible refine (W1.out _ ?_).mono ?_); (exact H.out.2.2.1); rintro e v1 ⟨rfl, hm1, hg1⟩; have z1 := H.out.1.drew.kept hg1 N1.out; have z2 := H.out.2.1.drew.kept hg1 N2.out; have ⟨x0, x1, x2, x3, x4⟩ := z1.c5; have x5 := Blk.range z2; have x6 := Blk.there z2; have x7 := Blk.range (Blk.setCellsSame (cs := chList l u s (s + 1)) z2); have M1 := Lib.hid hm1; have G1 := Lib.hid hg1.drew'; have Z1 := Lib.hid z1; have Z2 := Lib.hid z2; clear hm1 hg1 z1 z2)))
      clear e0 hu119 hi119 ho hr
      go_wp2
      have hb7 := Blk.setCellsSame (cs := chList l u s (s + 1)) Z2.out
      have hlv : (loadVar 182 ⟨w.heap.size + 1, 0, none⟩).run Tryz.prog (v1.setCells (w.heap.size + 1) 0 (chList l u s (s + 1))) = .ok (.agg (chList l u s (s + 1)).toArray) (v1.setCells (w.heap.size + 1) 0 (chList l u s (s + 1))) :=
        run_loadVar_mid _ _ 0 182 (chList l u s (s + 1)) _ x7 Tryz.underlying182 rfl (by rw [tInfo119]; simp [chList])
      refine bodyPost_ret (v := .tuple #[.agg (chList l u s (s + 1)).toArray, .int .i64 T]) (by simp [results, Tryz.results125, asAddr, hlv]) rfl ⟨by rw [HT.out]; rfl, ?_, ?_⟩
      · exact M1.out.kept (grownBy_setCells _ _ _ _) (by simp; omega)
      · exact grownBy_rowNew (H.out.2.2.2.trans' G1.out) (grownBy_setCells _ _ _ _) (by simp)
end Go.Proofs.YtdfebccmjbocjaaGreatDoor.Mi
namespace Go.Proofs.YtdfebccmjbocjaaGreatDoor.Mi
open Go.RowKit
open Mis (ch sets tot sm low up)

theorem sm_part_le (f : Nat → Nat) (a i n : Nat) (h : i ≤ n) : sm f a i ≤ sm f a n := by
  obtain ⟨d, rfl⟩ : ∃ d, n = i + d := ⟨n - i, by omega⟩
  rw [Mis.sm_add]; omega
set_option maxRecDepth 100000 in
set_option maxHeartbeats 400000 in
theorem sum_any (b f n cap : Nat) (g : Nat → Nat) (w : World) (hn : 0 < n) (hn2 : n ≤ 1000) (hc : ∀ i, i < n → w.cell? ⟨b, f + i, none⟩ = some (.int .i64 (g (f + i) : Nat))) (hs : sm g f n ≤ 4611686018427387904) :
    Calls Tryz.prog 126 #[.slice (some ⟨b, f, none⟩) n cap] w fun e w' => e = .returned (.int .i64 (sm g f n : Nat)) ∧ w = w' := by
  have HC := Lib.hid hc
  have HS := Lib.hid hs
  clear hc hs
  go_enter Tryz.func126, Tryz.ntmps126
  go_wp2
  go_loop [2, 7] (fun x y => ∃ i : Nat, i ≤ n ∧ x = .int .i64 (sm g f i : Nat) ∧ y = .int .i64 (i : Int)) (fun _ y => n - (intOf y).toNat)
  case atStart => exact ⟨0, by omega, by simp [Mis.sm_zero], rfl⟩
  case round =>
    obtain ⟨i, hi, rfl, rfl⟩ := hrel
    by_cases hlt : i < n
    · have hcell := HC.out i hlt
      have h1 := sm_part_le g f (i+1) n (by omega)
      have h2 := HS.out
      have h3 : sm g f (i+1) = sm g f i + g (f + i) := Mis.sm_succ _ _ _
      have h4 : sm g f i + g (f + i) ≤ 4611686018427387904 := by omega
      have H3 := Lib.hid h3
      clear h1 h2 h3
      generalize g (f + i) = B at *
      generalize sm g f i = A at *
      go_wp2
      go_round
      case rel => exact ⟨i + 1, by omega, by rw [H3.out]; go_num, by go_num⟩
      case measure => simp [intOf]; omega
    · obtain rfl : i = n := by omega
      go_wp2
      go_ret
      exact ⟨rfl, rfl⟩

set_option maxRecDepth 100000 in
set_option maxHeartbeats 400000 in
theorem point_any (L M S F : Int) (w : World) : Calls Tryz.prog 59 #[areaV L M S F] w fun e w' => e = .returned (.tuple #[.int .i64 F, .int .i64 F]) ∧ Below w.heap.size w w' := by
  go_enter Tryz.func59, Tryz.ntmps59
  go_wp2
  go_quiet (fail)
  go_wp2
  go_ret2
  exact ⟨rfl, ((Below.refl _ _).alloc (Nat.le_refl _) _).drewN' _⟩

set_option maxRecDepth 100000 in
set_option maxHeartbeats 400000 in
theorem lower_any (L M S F : Int) (w : World) : Calls Tryz.prog 155 #[areaV L M S F] w fun e w' => e = .returned (.tuple #[.int .i64 0, .int .i64 F]) ∧ Below w.heap.size w w' := by
  go_enter Tryz.func155, Tryz.ntmps155
  go_wp2
  go_quiet (fail)
  go_wp2
  go_ret2
  exact ⟨rfl, ((Below.refl _ _).alloc (Nat.le_refl _) _).drewN' _⟩

set_option maxRecDepth 100000 in
set_option maxHeartbeats 400000 in
theorem upper_any (L M S F : Int) (w : World) : Calls Tryz.prog 157 #[areaV L M S F] w fun e w' => e = .returned (.tuple #[.int .i64 F, .int .i64 S]) ∧ Below w.heap.size w w' := by
  go_enter Tryz.func157, Tryz.ntmps157
  go_wp2
  go_quiet (fail)
  go_wp2
  go_ret2
  exact ⟨rfl, ((Below.refl _ _).alloc (Nat.le_refl _) _).drewN' _⟩

set_option maxRecDepth 100000 in
set_option maxHeartbeats 400000 in
theorem chance_point (M : Int) (l u s f mb : Nat) (w : World) (hl : l + u ≤ 50) (hs : s ≤ l) (hf : f ≤ s) (hm : Memo w mb) :
    Calls Tryz.prog 88 #[workV l M s f mb, .int .i64 u, .agg #[.func (.func 59) #[] #[]]] w fun e w' => e = .returned (fracV (sm (sets l u s) f (1) : Nat) (tot l u s)) ∧ Memo w' mb ∧ w.grownBy w' (some mb) := by
  have c77 : ∀ w, Memo w mb → Calls Tryz.prog 125 #[workV l M s f mb, .int .i64 u] w fun e w' => e = .returned (.tuple #[.agg (chArr l u s (s+1)), .int .i64 (tot l u s)]) ∧ Memo w' mb ∧ w.grownBy w' (some mb) := fun w hm => chances_any l M s f l u s mb rfl rfl w hl hs hm
  have C77 := Lib.hid c77
  have HM0 := Lib.hid (((hm.alloc (.cells #[.int .i64 l, .int .i64 M, .int .i64 s, .int .i64 f, .map (some mb)] 151)).alloc (.cells #[.func (.func 59) #[] #[]] 128)).alloc (.cells #[.int .i64 0, .int .i64 0] 70))
  have hlt := hm.lt
  have hsum : sm (sets l u s) f (1) ≤ 4611686018427387904 := by
    have e := Mis.sm_add (sets l u s) 0 f (1)
    have e2 := sm_part_le (sets l u s) 0 (f + (1)) (s+1) (by omega)
    have e3 : sm (sets l u s) 0 (s+1) = tot l u s := Mis.low_full l u s
    have e4 := tot_le l u s hl
    simp only [Nat.zero_add] at e e2
    omega
  have C78 := Lib.hid (fun (b : Nat) (W : World) (hB : Blk W b (chArr l u s (s+1)) 182) => sum_any b f (1) (51 - f) (sets l u s) W (by omega) (by omega) (fun i hi => by rw [hB.cell, chArr_get _ _ _ _ _ (by omega), if_pos (by omega)]) hsum)
  clear c77 hm hsum
  go_enter Tryz.func88, Tryz.ntmps88
  go_wp2_with fail
  obtain ⟨b1, b2, b3, hb0, hsz⟩ := three_new w #[.int .i64 l, .int .i64 M, .int .i64 s, .int .i64 f, .map (some mb)] #[.func (.func 59) #[] #[]] #[.int .i64 0, .int .i64 0] 151 128 70
  generalize ((w.alloc (.cells #[.int .i64 l, .int .i64 M, .int .i64 s, .int .i64 f, .map (some mb)] 151)).alloc (.cells #[.func (.func 59) #[] #[]] 128)).alloc (.cells #[.int .i64 0, .int .i64 0] 70) = W0 at *
  refine (C77.out _ HM0.out).mono ?_
  rintro e w1 ⟨rfl, hm1, hg1⟩
  have c1 := b1.kept hg1 (by simp; omega)
  have c2 := b2.kept hg1 (by simp; omega)
  have c3 := b3.kept hg1 (by simp; omega)
  have hgw := (grownBy_below hb0 (some mb)).trans' hg1
  clear b1 b2 b3 hb0 hg1
  obtain ⟨k0, k1, k2, k3, k4⟩ := c1.c5
  obtain ⟨k5, _⟩ := c2.c1
  obtain ⟨k6, k7, k8, k9⟩ := c3.c2
  have lt1 := c1.lt
  have lt2 := c2.lt
  have lt3 := c3.lt
  have C1 := Lib.hid c1
  have C2 := Lib.hid c2
  have C3 := Lib.hid c3
  have HM1 := Lib.hid hm1
  have HGW := Lib.hid hgw
  have HSZ := Lib.hid hsz
  clear c1 c2 c3 hm1 hgw hsz
  have n1 : w.heap.size ≠ w1.heap.size := by omega
  have n2 : w.heap.size + 1 ≠ w1.heap.size := by omega
  have n3 : w.heap.size + 1 + 1 ≠ w1.heap.size := by omega
  have n4 : mb ≠ w1.heap.size := by have := HM1.out.lt; omega
  have hsl : ∀ W, (Instr.sliceAt 182 (.pointer (some ⟨w1.heap.size, 0, none⟩)) (some (.int .i64 (f : Int))) (some (.int .i64 ((f : Int) + 1))) none).run Tryz.prog W = .ok (.slice (some ⟨w1.heap.size, f, none⟩) (1) (51 - f)) W := slice119 _ f (1) _ _ (by omega) (by omega) (by omega) (by omega)
  go_wp2_with (first | (refine wpList_store_row rfl 182 _ _ rfl _ rfl 182 _ _ rfl (Blk.new w1 _ 182) tInfo119 (chArr_size _ _ _ _) (chArr_one _ _ _ _) ?_; intro w2 hb2 hg2; have c1 := (C1.out.alloc _).kept hg2 (by simpa using n1); have c2 := (C2.out.alloc _).kept hg2 (by simpa using n2); have c3 := (C3.out.alloc _).kept hg2 (by simpa using n3); have hm2 := (HM1.out.alloc _).kept hg2 (by simpa using n4); have hw2 := grownBy_rowNew (HGW.out.trans' (World.grownBy_alloc _ _ _)) hg2 (by omega); obtain ⟨k0, k1, k2, k3, k4⟩ := c1.c5; obtain ⟨k5, _⟩ := c2.c1; have lt1 := c1.lt; have lt2 := c2.lt; have lt3 := c3.lt; have lt4 := hb2.lt; have C1' := Lib.hid c1; have C3' := Lib.hid c3; have B2 := Lib.hid hb2; have HM2 := Lib.hid hm2; have HW2 := Lib.hid hw2; clear hg2 c1 c2 c3 hb2 hm2 hw2) | (go_at_call 59; (with_reducible refine (point_any _ _ _ _ _).mono ?_); rintro e w3 ⟨rfl, hb3⟩; have c3 := C3'.out.below hb3 C3'.out.lt; have hb4 := B2.out.below hb3 B2.out.lt; obtain ⟨k6, k7, k8, k9⟩ := c3.c2; have lt5 := c3.lt; have C3'' := Lib.hid c3; have B4 := Lib.hid hb4; have H3 := Lib.hid hb3; clear c3 hb4 hb3) | (go_at_call 126; refine (C78.out _ _ B4.out).mono ?_; rintro e w4 ⟨rfl, rfl⟩))
  refine bodyPost_ret (v := fracV (sm (sets l u s) f (1) : Nat) (tot l u s)) (by simp [results, Tryz.results88, go_sem, k6, k7]) rfl ⟨rfl, ?_, ?_⟩
  · exact ((HM2.out.below H3.out HM2.out.lt).setCell (by simp; omega) _).setCell (by simp; omega) _
  · exact grownBy_setNew (grownBy_setNew (HW2.out.trans' (grownBy_below H3.out _)) (by show w.heap.size ≤ w.heap.size + 1 + 1; omega) _) (by show w.heap.size ≤ w.heap.size + 1 + 1; omega) _

set_option maxRecDepth 100000 in
set_option maxHeartbeats 400000 in
theorem chance_lower (M : Int) (l u s f mb : Nat) (w : World) (hl : l + u ≤ 50) (hs : s ≤ l) (hf : f ≤ s) (hm : Memo w mb) :
    Calls Tryz.prog 88 #[workV l M s f mb, .int .i64 u, .agg #[.func (.func 155) #[] #[]]] w fun e w' => e = .returned (fracV (sm (sets l u s) 0 (f + 1) : Nat) (tot l u s)) ∧ Memo w' mb ∧ w.grownBy w' (some mb) := by
  have c77 : ∀ w, Memo w mb → Calls Tryz.prog 125 #[workV l M s f mb, .int .i64 u] w fun e w' => e = .returned (.tuple #[.agg (chArr l u s (s+1)), .int .i64 (tot l u s)]) ∧ Memo w' mb ∧ w.grownBy w' (some mb) := fun w hm => chances_any l M s f l u s mb rfl rfl w hl hs hm
  have C77 := Lib.hid c77
  have HM0 := Lib.hid (((hm.alloc (.cells #[.int .i64 l, .int .i64 M, .int .i64 s, .int .i64 f, .map (some mb)] 151)).alloc (.cells #[.func (.func 155) #[] #[]] 128)).alloc (.cells #[.int .i64 0, .int .i64 0] 70))
  have hlt := hm.lt
  have hsum : sm (sets l u s) 0 (f + 1) ≤ 4611686018427387904 := by
    have e := Mis.sm_add (sets l u s) 0 0 (f + 1)
    have e2 := sm_part_le (sets l u s) 0 (0 + (f + 1)) (s+1) (by omega)
    have e3 : sm (sets l u s) 0 (s+1) = tot l u s := Mis.low_full l u s
    have e4 := tot_le l u s hl
    simp only [Nat.zero_add] at e e2
    omega
  have C78 := Lib.hid (fun (b : Nat) (W : World) (hB : Blk W b (chArr l u s (s+1)) 182) => sum_any b 0 (f + 1) (51 - 0) (sets l u s) W (by omega) (by omega) (fun i hi => by rw [hB.cell, chArr_get _ _ _ _ _ (by omega), if_pos (by omega)]) hsum)
  clear c77 hm hsum
  go_enter Tryz.func88, Tryz.ntmps88
  go_wp2_with fail
  obtain ⟨b1, b2, b3, hb0, hsz⟩ := three_new w #[.int .i64 l, .int .i64 M, .int .i64 s, .int .i64 f, .map (some mb)] #[.func (.func 155) #[] #[]] #[.int .i64 0, .int .i64 0] 151 128 70
  generalize ((w.alloc (.cells #[.int .i64 l, .int .i64 M, .int .i64 s, .int .i64 f, .map (some mb)] 151)).alloc (.cells #[.func (.func 155) #[] #[]] 128)).alloc (.cells #[.int .i64 0, .int .i64 0] 70) = W0 at *
  refine (C77.out _ HM0.out).mono ?_
  rintro e w1 ⟨rfl, hm1, hg1⟩
  have c1 := b1.kept hg1 (by simp; omega)
  have c2 := b2.kept hg1 (by simp; omega)
  have c3 := b3.kept hg1 (by simp; omega)
  have hgw := (grownBy_below hb0 (some mb)).trans' hg1
  clear b1 b2 b3 hb0 hg1
  obtain ⟨k0, k1, k2, k3, k4⟩ := c1.c5
  obtain ⟨k5, _⟩ := c2.c1
  obtain ⟨k6, k7, k8, k9⟩ := c3.c2
  have lt1 := c1.lt
  have lt2 := c2.lt
  have lt3 := c3.lt
  have C1 := Lib.hid c1
  have C2 := Lib.hid c2
  have C3 := Lib.hid c3
  have HM1 := Lib.hid hm1
  have HGW := Lib.hid hgw
  have HSZ := Lib.hid hsz
  clear c1 c2 c3 hm1 hgw hsz
  have n1 : w.heap.size ≠ w1.heap.size := by omega
  have n2 : w.heap.size + 1 ≠ w1.heap.size := by omega
  have n3 : w.heap.size + 1 + 1 ≠ w1.heap.size := by omega
  have n4 : mb ≠ w1.heap.size := by have := HM1.out.lt; omega
  have hsl : ∀ W, (Instr.sliceAt 182 (.pointer (some ⟨w1.heap.size, 0, none⟩)) (some (.int .i64 0)) (some (.int .i64 ((f : Int) + 1))) none).run Tryz.prog W = .ok (.slice (some ⟨w1.heap.size, 0, none⟩) (f + 1) (51 - 0)) W := slice119 _ 0 (f + 1) _ _ (by omega) (by omega) (by omega) (by omega)
  go_wp2_with (first | (refine wpList_store_row rfl 182 _ _ rfl _ rfl 182 _ _ rfl (Blk.new w1 _ 182) tInfo119 (chArr_size _ _ _ _) (chArr_one _ _ _ _) ?_; intro w2 hb2 hg2; have c1 := (C1.out.alloc _).kept hg2 (by simpa using n1); have c2 := (C2.out.alloc _).kept hg2 (by simpa using n2); have c3 := (C3.out.alloc _).kept hg2 (by simpa using n3); have hm2 := (HM1.out.alloc _).kept hg2 (by simpa using n4); have hw2 := grownBy_rowNew (HGW.out.trans' (World.grownBy_alloc _ _ _)) hg2 (by omega); obtain ⟨k0, k1, k2, k3, k4⟩ := c1.c5; obtain ⟨k5, _⟩ := c2.c1; have lt1 := c1.lt; have lt2 := c2.lt; have lt3 := c3.lt; have lt4 := hb2.lt; have C1' := Lib.hid c1; have C3' := Lib.hid c3; have B2 := Lib.hid hb2; have HM2 := Lib.hid hm2; have HW2 := Lib.hid hw2; clear hg2 c1 c2 c3 hb2 hm2 hw2) | (go_at_call 155; (with_reducible refine (lower_any _ _ _ _ _).mono ?_); rintro e w3 ⟨rfl, hb3⟩; have c3 := C3'.out.below hb3 C3'.out.lt; have hb4 := B2.out.below hb3 B2.out.lt; obtain ⟨k6, k7, k8, k9⟩ := c3.c2; have lt5 := c3.lt; have C3'' := Lib.hid c3; have B4 := Lib.hid hb4; have H3 := Lib.hid hb3; clear c3 hb4 hb3) | (go_at_call 126; refine (C78.out _ _ B4.out).mono ?_; rintro e w4 ⟨rfl, rfl⟩))
  refine bodyPost_ret (v := fracV (sm (sets l u s) 0 (f + 1) : Nat) (tot l u s)) (by simp [results, Tryz.results88, go_sem, k6, k7]) rfl ⟨rfl, ?_, ?_⟩
  · exact ((HM2.out.below H3.out HM2.out.lt).setCell (by simp; omega) _).setCell (by simp; omega) _
  · exact grownBy_setNew (grownBy_setNew (HW2.out.trans' (grownBy_below H3.out _)) (by show w.heap.size ≤ w.heap.size + 1 + 1; omega) _) (by show w.heap.size ≤ w.heap.size + 1 + 1; omega) _

set_option maxRecDepth 100000 in
set_option maxHeartbeats 400000 in
theorem chance_upper (M : Int) (l u s f mb : Nat) (w : World) (hl : l + u ≤ 50) (hs : s ≤ l) (hf : f ≤ s) (hm : Memo w mb) :
    Calls Tryz.prog 88 #[workV l M s f mb, .int .i64 u, .agg #[.func (.func 157) #[] #[]]] w fun e w' => e = .returned (fracV (sm (sets l u s) f (s + 1 - f) : Nat) (tot l u s)) ∧ Memo w' mb ∧ w.grownBy w' (some mb) := by
  have c77 : ∀ w, Memo w mb → Calls Tryz.prog 125 #[workV l M s f mb, .int .i64 u] w fun e w' => e = .returned (.tuple #[.agg (chArr l u s (s+1)), .int .i64 (tot l u s)]) ∧ Memo w' mb ∧ w.grownBy w' (some mb) := fun w hm => chances_any l M s f l u s mb rfl rfl w hl hs hm
  have C77 := Lib.hid c77
  have HM0 := Lib.hid (((hm.alloc (.cells #[.int .i64 l, .int .i64 M, .int .i64 s, .int .i64 f, .map (some mb)] 151)).alloc (.cells #[.func (.func 157) #[] #[]] 128)).alloc (.cells #[.int .i64 0, .int .i64 0] 70))
  have hlt := hm.lt
  have hsum : sm (sets l u s) f (s + 1 - f) ≤ 4611686018427387904 := by
    have e := Mis.sm_add (sets l u s) 0 f (s + 1 - f)
    have e2 := sm_part_le (sets l u s) 0 (f + (s + 1 - f)) (s+1) (by omega)
    have e3 : sm (sets l u s) 0 (s+1) = tot l u s := Mis.low_full l u s
    have e4 := tot_le l u s hl
    simp only [Nat.zero_add] at e e2
    omega
  have C78 := Lib.hid (fun (b : Nat) (W : World) (hB : Blk W b (chArr l u s (s+1)) 182) => sum_any b f (s + 1 - f) (51 - f) (sets l u s) W (by omega) (by omega) (fun i hi => by rw [hB.cell, chArr_get _ _ _ _ _ (by omega), if_pos (by omega)]) hsum)
  clear c77 hm hsum
  go_enter Tryz.func88, Tryz.ntmps88
  go_wp2_with fail
  obtain ⟨b1, b2, b3, hb0, hsz⟩ := three_new w #[.int .i64 l, .int .i64 M, .int .i64 s, .int .i64 f, .map (some mb)] #[.func (.func 157) #[] #[]] #[.int .i64 0, .int .i64 0] 151 128 70
  generalize ((w.alloc (.cells #[.int .i64 l, .int .i64 M, .int .i64 s, .int .i64 f, .map (some mb)] 151)).alloc (.cells #[.func (.func 157) #[] #[]] 128)).alloc (.cells #[.int .i64 0, .int .i64 0] 70) = W0 at *
  refine (C77.out _ HM0.out).mono ?_
  rintro e w1 ⟨rfl, hm1, hg1⟩
  have c1 := b1.kept hg1 (by simp; omega)
  have c2 := b2.kept hg1 (by simp; omega)
  have c3 := b3.kept hg1 (by simp; omega)
  have hgw := (grownBy_below hb0 (some mb)).trans' hg1
  clear b1 b2 b3 hb0 hg1
  obtain ⟨k0, k1, k2, k3, k4⟩ := c1.c5
  obtain ⟨k5, _⟩ := c2.c1
  obtain ⟨k6, k7, k8, k9⟩ := c3.c2
  have lt1 := c1.lt
  have lt2 := c2.lt
  have lt3 := c3.lt
  have C1 := Lib.hid c1
  have C2 := Lib.hid c2
  have C3 := Lib.hid c3
  have HM1 := Lib.hid hm1
  have HGW := Lib.hid hgw
  have HSZ := Lib.hid hsz
  clear c1 c2 c3 hm1 hgw hsz
  have n1 : w.heap.size ≠ w1.heap.size := by omega
  have n2 : w.heap.size + 1 ≠ w1.heap.size := by omega
  have n3 : w.heap.size + 1 + 1 ≠ w1.heap.size := by omega
  have n4 : mb ≠ w1.heap.size := by have := HM1.out.lt; omega
  have hsl : ∀ W, (Instr.sliceAt 182 (.pointer (some ⟨w1.heap.size, 0, none⟩)) (some (.int .i64 (f : Int))) (some (.int .i64 ((s : Int) + 1))) none).run Tryz.prog W = .ok (.slice (some ⟨w1.heap.size, f, none⟩) (s + 1 - f) (51 - f)) W := slice119 _ f (s + 1 - f) _ _ (by omega) (by omega) (by omega) (by omega)
  go_wp2_with (first | (refine wpList_store_row rfl 182 _ _ rfl _ rfl 182 _ _ rfl (Blk.new w1 _ 182) tInfo119 (chArr_size _ _ _ _) (chArr_one _ _ _ _) ?_; intro w2 hb2 hg2; have c1 := (C1.out.alloc _).kept hg2 (by simpa using n1); have c2 := (C2.out.alloc _).kept hg2 (by simpa using n2); have c3 := (C3.out.alloc _).kept hg2 (by simpa using n3); have hm2 := (HM1.out.alloc _).kept hg2 (by simpa using n4); have hw2 := grownBy_rowNew (HGW.out.trans' (World.grownBy_alloc _ _ _)) hg2 (by omega); obtain ⟨k0, k1, k2, k3, k4⟩ := c1.c5; obtain ⟨k5, _⟩ := c2.c1; have lt1 := c1.lt; have lt2 := c2.lt; have lt3 := c3.lt; have lt4 := hb2.lt; have C1' := Lib.hid c1; have C3' := Lib.hid c3; have B2 := Lib.hid hb2; have HM2 := Lib.hid hm2; have HW2 := Lib.hid hw2; clear hg2 c1 c2 c3 hb2 hm2 hw2) | (go_at_call 157; (with_reducible refine (upper_any _ _ _ _ _).mono ?_); rintro e w3 ⟨rfl, hb3⟩; have c3 := C3'.out.below hb3 C3'.out.lt; have hb4 := B2.out.below hb3 B2.out.lt; obtain ⟨k6, k7, k8, k9⟩ := c3.c2; have lt5 := c3.lt; have C3'' := Lib.hid c3; have B4 := Lib.hid hb4; have H3 := Lib.hid hb3; clear c3 hb4 hb3) | (go_at_call 126; refine (C78.out _ _ B4.out).mono ?_; rintro e w4 ⟨rfl, rfl⟩))
  refine bodyPost_ret (v := fracV (sm (sets l u s) f (s + 1 - f) : Nat) (tot l u s)) (by simp [results, Tryz.results88, go_sem, k6, k7]) rfl ⟨rfl, ?_, ?_⟩
  · exact ((HM2.out.below H3.out HM2.out.lt).setCell (by simp; omega) _).setCell (by simp; omega) _
  · exact grownBy_setNew (grownBy_setNew (HW2.out.trans' (grownBy_below H3.out _)) (by show w.heap.size ≤ w.heap.size + 1 + 1; omega) _) (by show w.heap.size ≤ w.heap.size + 1 + 1; omega) _

end Go.Proofs.YtdfebccmjbocjaaGreatDoor.Mi
