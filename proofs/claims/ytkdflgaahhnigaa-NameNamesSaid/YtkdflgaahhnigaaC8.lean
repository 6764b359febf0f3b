/- Texts of package name, for this seat. -/
import Derived.Test.YtkdflgaahhnigaaC7
import Derived.Test.YtkdflgaahhnigaaCmt
import Derived.Test.YtkdflgaahhnigaaC5
import Derived.Sort.OwnSortedInts
import Derived.Lib.OwnBridge
import Derived.Shelf.SlSortCmp.Insertion
set_option linter.unusedVariables false
set_option linter.unusedSimpArgs false
namespace Go.Proofs.Ytkdflgaahhnigaa
open Go.RowKit Go.Shelf

theorem grownBy_putRow {α : Type} [Inhabited α] {enc : α → Value} {w : World} {g n : Nat} {os : Array Obj} (d : Array α) : w.grownBy (Sort.grow (Sort.putRow enc (Sort.ahead w n) g 0 d) os) (some g) := by
  refine ⟨rfl, rfl, rfl, by simp, fun k hk hne => ?_⟩
  rw [Sort.heap_grow_old _ _ (by simpa using hk)]
  have : g ≠ k := fun e => hne (by rw [e])
  simp [Sort.putRow, Sort.mapBlock, Sort.ahead, Array.getElem?_modify, this]
set_option maxRecDepth 100000 in
set_option maxHeartbeats 1000000 in
theorem near1_any (W : World) (bp bc m cap : Nat) (x y : Nat) (kx ky : Int) (hx : x < m) (hy : y < m) (hp : W.cell? ⟨bp, 0, none⟩ = some (.slice (some ⟨bc, 0, none⟩) m cap)) (hcx : W.cell? ⟨bc, x, none⟩ = some (.int .i64 kx)) (hcy : W.cell? ⟨bc, y, none⟩ = some (.int .i64 ky)) :
    Calls Try.prog 31 #[.int .i64 (x : Int), .int .i64 (y : Int), .pointer (some ⟨bp, 0, none⟩)] W fun e w' => e = .returned (.int .i64 (Lib.compareInt kx ky)) ∧ ∃ q, w' = W.drewN q := by
  have D0 : ∀ W', (∃ q, W' = W.drewN q) → W'.cell? ⟨bp, 0, none⟩ = some (.slice (some ⟨bc, 0, none⟩) m cap) := by rintro _ ⟨q, rfl⟩; simpa using hp
  have D1 : ∀ W', (∃ q, W' = W.drewN q) → W'.cell? ⟨bc, x, none⟩ = some (.int .i64 kx) := by rintro _ ⟨q, rfl⟩; simpa using hcx
  have D2 : ∀ W', (∃ q, W' = W.drewN q) → W'.cell? ⟨bc, y, none⟩ = some (.int .i64 ky) := by rintro _ ⟨q, rfl⟩; simpa using hcy
  have hS : ∃ q, W = W.drewN q := ⟨0, rfl⟩
  have hdr : ∀ W', (∃ q, W' = W.drewN q) → ∃ q, W'.drew = W.drewN q := by rintro _ ⟨q, rfl⟩; exact ⟨q + 1, rfl⟩
  go_enter Try.func31, Try.ntmps31
  go_wp2_with fail
  go_region_held3 (fun W' => ∃ q, W' = W.drewN q)
    (first | assumption | exact hdr _ (by assumption) | go_keep)
    (first | (go_at_call 32; (with_reducible refine (Try.cmp_Compare_int _ _ _).mono ?_); rintro e wn ⟨rfl, rfl⟩))
  all_goals go_wp2_with fail
  all_goals go_ret
  all_goals first | exact ⟨rfl, 1, rfl⟩ | exact ⟨rfl, 0, rfl⟩ | exact ⟨rfl, by assumption⟩
open Go.Lib Go.Sort in
set_option maxRecDepth 100000 in
set_option maxHeartbeats 1000000 in
theorem stable_any {α : Type} [Inhabited α] (enc : α → Value) (hO : OneCell enc) (cf : α → α → Int) (g : Nat) (cb : Array Value) (blk off cap : Nat) (d : Array α) (w : World) (eg : ∀ args w, (callFunc g args).run Try.prog w = .ok (.enter g args) w) (hcmp : CmpReads Try.prog g cb enc cf blk off d.size w) (hH : Holds enc w blk off d) (hsz : d.size ≤ 19) :
    Calls Try.prog 52 #[.slice (some ⟨blk, off, none⟩) d.size cap, .int .i64 d.size, .func (.func g) #[] cb] w fun e w' =>
      e = .returned (.tuple #[]) ∧ ∃ n, w' = (putRow enc w blk off (Sort.insertionSort (ltOf cf) d 0 d.size)).drewN n := by
  have CI := Lib.hid (Try.insertionSortCmpFunc_one enc hO cf g cb blk off cap 0 d.size d w eg hcmp hH (Nat.zero_le _) (Nat.le_refl _) (by omega))
  generalize Sort.insertionSort (ltOf cf) d 0 d.size = r at *
  have p1 : ¬ (20 : Int) ≤ (d.size : Int) := by omega
  have p2 : ¬ (20 : Int) < (d.size : Int) := by omega
  clear eg hcmp hH
  go_enter Try.func52, Try.ntmps52
  go_wp2_with fail
  go_loopw [7, 8] (fun x y wr => wr = w ∧ x = .int .i64 0 ∧ y = .int .i64 20) (fun _ _ _ => 0)
  case atStart => exact ⟨rfl, rfl, rfl⟩
  case round =>
    obtain ⟨hw, rfl, rfl⟩ := hrel
    replace hw := hw.symm
    subst hw
    go_wp2_with fail
    refine CI.out.mono ?_
    rintro e w1 ⟨rfl, hq⟩
    have HQ := Lib.hid hq
    clear hq
    go_wp2_with fail
    go_loopw [6] (fun y wr => wr = w1 ∧ y = .int .i64 20) (fun _ _ => 0)
    case atStart => exact ⟨rfl, rfl⟩
    case round =>
      obtain ⟨hw, rfl⟩ := hrel
      replace hw := hw.symm
      subst hw
      go_wp2_with fail
      go_end0
      exact ⟨rfl, HQ.out⟩
open Go.Lib Go.Sort in
set_option maxRecDepth 100000 in
set_option maxHeartbeats 1000000 in
theorem sortStable_any {α : Type} [Inhabited α] (enc : α → Value) (hO : OneCell enc) (cf : α → α → Int) (g : Nat) (cb : Array Value) (blk off cap : Nat) (d : Array α) (w : World) (eg : ∀ args w, (callFunc g args).run Try.prog w = .ok (.enter g args) w) (hcmp : CmpReads Try.prog g cb enc cf blk off d.size w) (hH : Holds enc w blk off d) (hsz : d.size ≤ 19) :
    Calls Try.prog 30 #[.slice (some ⟨blk, off, none⟩) d.size cap, .func (.func g) #[] cb] w fun e w' =>
      e = .returned (.tuple #[]) ∧ ∃ n, w' = (putRow enc w blk off (Sort.insertionSort (ltOf cf) d 0 d.size)).drewN n := by
  have CI := Lib.hid (stable_any enc hO cf g cb blk off cap d w eg hcmp hH hsz)
  generalize Sort.insertionSort (ltOf cf) d 0 d.size = r at *
  clear eg hcmp hH
  go_enter Try.func30, Try.ntmps30
  go_wp2_with fail
  refine CI.out.mono ?_
  rintro e w1 ⟨rfl, hq⟩
  have HQ := Lib.hid hq
  clear hq
  go_wp2_with fail
  go_end0
  exact ⟨rfl, HQ.out⟩
end Go.Proofs.Ytkdflgaahhnigaa

namespace Go.Proofs.Ytkdflgaahhnigaa
open Go.RowKit Go.Shelf

def encF {m : Nat} (x : Fin m) : Value := .int .i64 ((x.1 : Nat) : Int)
theorem ltOf_cmp {m : Nat} (c : Nat → Nat) : (ltOf (fun x y : Fin m => Lib.compareInt (c x.1 : Nat) (c y.1 : Nat))) = Nm.ltC c := by
  funext x y
  unfold ltOf Nm.ltC Lib.compareInt
  rw [decide_eq_decide]
  show (if ((c x.1 : Nat) : Int) < ((c y.1 : Nat) : Int) then (-1 : Int) else if ((c x.1 : Nat) : Int) > ((c y.1 : Nat) : Int) then 1 else 0) < 0 ↔ c x.1 < c y.1
  split
  · constructor
    · intro _; omega
    · intro _; omega
  · split
    · constructor
      · intro h; omega
      · intro h; omega
    · constructor
      · intro h; omega
      · intro h; omega
theorem egf : ∀ args w, (callFunc 31 args).run Try.prog w = .ok (.enter 31 args) w := by
  intro args w
  go_simp
open Go.Lib Go.Sort in
set_option maxRecDepth 100000 in
theorem sortNear (m k : Nat) (hm0 : 0 < m) (cs : List Nat) (hcs : cs.length = m) (bp bc cap g capo B : Nat) (l : List Nat) (hl : l.length = k) (hk : k ≤ 19) (hlm : ∀ x, x ∈ l → x < m) (hlp : l.Pairwise (· < ·)) (w : World)
    (hp : w.cell? ⟨bp, 0, none⟩ = some (.slice (some ⟨bc, 0, none⟩) m cap)) (hc : ∀ (i k : Nat), cs[i]? = some k → w.cell? ⟨bc, i, none⟩ = some (.int .i64 (k : Int))) (ho : w.ownsRow B 3 1 (.slice (some ⟨g, 0, none⟩) k capo) k (natsV l)) (hg1 : bp ≠ g) (hg2 : bc ≠ g) :
    Calls Try.prog 30 #[.slice (some ⟨g, 0, none⟩) k capo, .func (.func 31) #[] #[.pointer (some ⟨bp, 0, none⟩)]] w fun e w' =>
      e = .returned (.tuple #[]) ∧ ∃ r : List Nat, r.Pairwise (Nm.lex fun i => cs.getD i 0) ∧ (∀ x, x ∈ r ↔ x ∈ l) ∧ r.length = k ∧ w'.ownsRow B 3 1 (.slice (some ⟨g, 0, none⟩) k capo) k (natsV r) ∧ w.grownBy w' (some g) := by
  haveI : Inhabited (Fin m) := ⟨⟨0, hm0⟩⟩
  obtain ⟨lf, hlf⟩ : ∃ lf : List (Fin m), lf.map (fun x => x.1) = l := ⟨l.pmap (fun x h => ⟨x, h⟩) hlm, by simp [List.map_pmap]⟩
  have henc : natsV l = lf.map encF := by rw [← hlf]; simp [natsV, encF]
  have hll : lf.length = k := by rw [← hl, ← hlf]; simp
  have hO : OneCell (encF (m := m)) := fun x => rfl
  let d : Array (Fin m) := lf.toArray
  have hd : d.size = k := by simp [d, hll]
  have hcx : ∀ (i : Nat), i < m → cs[i]? = some (cs.getD i 0) := fun i hi => by
    rw [List.getD_eq_getElem?_getD, List.getElem?_eq_getElem (by omega)]; rfl
  have hcmp : CmpReads Try.prog 31 #[.pointer (some ⟨bp, 0, none⟩)] (encF (m := m)) (fun x y => Lib.compareInt ((cs.getD x.1 0 : Nat) : Int) ((cs.getD y.1 0 : Nat) : Int)) g 0 d.size w := by
    intro q os dk hdk x y
    have hg := grownBy_putRow (enc := encF (m := m)) (w := w) (g := g) (n := q) (os := os) dk
    have e : (#[encF x, encF y] ++ #[Value.pointer (some ⟨bp, 0, none⟩)] : Array Value) = #[.int .i64 ((x.1 : Nat) : Int), .int .i64 ((y.1 : Nat) : Int), .pointer (some ⟨bp, 0, none⟩)] := by simp [encF]
    rw [e]
    exact near1_any _ bp bc m cap x.1 y.1 _ _ x.2 y.2 (hg.cell hp (by simpa using hg1)) (hg.cell (hc x.1 _ (hcx _ x.2)) (by simpa using hg2)) (hg.cell (hc y.1 _ (hcx _ y.2)) (by simpa using hg2))
  have hH : Holds (encF (m := m)) w g 0 d := by
    intro j hj
    have hj' : j < k := by omega
    refine ⟨?_, ho.frozenAt _⟩
    rw [Nat.zero_add, ho.cellAt j (by omega), henc, List.getElem?_map, List.getElem?_eq_getElem (by omega)]
    rw [getElem!_pos d j hj]
    simp [d]
  have hS := sortStable_any (encF (m := m)) hO _ 31 #[.pointer (some ⟨bp, 0, none⟩)] g 0 capo d w egf hcmp hH (by omega)
  rw [hd] at hS
  refine hS.mono ?_
  rintro e w' ⟨rfl, n, rfl⟩
  rw [ltOf_cmp (fun i => cs.getD i 0)]
  have hpd : d.toList.Pairwise (fun x y => x.1 < y.1) := by
    rw [← hlf, List.pairwise_map] at hlp
    simpa [d] using hlp
  obtain ⟨r1, r2, r3⟩ := Nm.ins_stable (fun i => cs.getD i 0) d hpd
  rw [hd] at r1 r2 r3
  generalize Go.Sort.insertionSort (Nm.ltC fun i => cs.getD i 0) d 0 k = R at *
  refine ⟨rfl, R.toList.map (fun x => x.1), ?_, ?_, by simp [r3], ?_, ?_⟩
  · rw [List.pairwise_map]; exact r1
  · intro x
    rw [List.mem_map, ← hlf, List.mem_map]
    constructor
    · rintro ⟨y, hy, rfl⟩
      exact ⟨y, by simpa [d] using (r2 y).1 hy, rfl⟩
    · rintro ⟨y, hy, rfl⟩
      exact ⟨y, (r2 y).2 (by simpa [d] using hy), rfl⟩
  · have h1 : natsV (R.toList.map (fun x => x.1)) = R.toList.map encF := by simp [natsV, encF]
    rw [h1, ← sortWorld_none]
    rw [henc] at ho
    have h2 := Lib.ownsRow_putRow (q := n) (k := k) ho (ys := R.toList) (by simp [r3]) (Nat.le_refl _)
    rw [List.take_of_length_le (by simp [r3])] at h2
    show (Go.Sort.grow _ #[]).ownsRow _ _ _ _ _ _
    rw [grow_empty]
    simpa using h2
  · rw [← sortWorld_none]
    exact grownBy_putRow R
end Go.Proofs.Ytkdflgaahhnigaa

namespace Go.Proofs.Ytkdflgaahhnigaa
open Go.RowKit Go.Shelf

set_option maxRecDepth 100000 in
set_option maxHeartbeats 1000000 in
theorem ins_nil (f : Value) (w : World) : Calls Try.prog 70 #[.slice none 0 0, .int .i64 0, .int .i64 0, f] w fun e w' => e = .returned (.tuple #[]) ∧ w' = w := by
  go_enter Try.func70, Try.ntmps70
  go_wp2_with fail
  go_loopw [8] (fun y wr => wr = w ∧ y = .int .i64 1) (fun _ _ => 0)
  case atStart => exact ⟨rfl, rfl⟩
  case round =>
    obtain ⟨hw, rfl⟩ := hrel
    replace hw := hw.symm
    subst hw
    go_wp2_with fail
    go_end0
    exact ⟨rfl, rfl⟩
set_option maxRecDepth 100000 in
set_option maxHeartbeats 1000000 in
theorem stable_nil (f : Value) (w : World) : Calls Try.prog 52 #[.slice none 0 0, .int .i64 0, f] w fun e w' => e = .returned (.tuple #[]) ∧ w' = w := by
  have CI := Lib.hid (ins_nil f w)
  go_enter Try.func52, Try.ntmps52
  go_wp2_with fail
  go_loopw [7, 8] (fun x y wr => wr = w ∧ x = .int .i64 0 ∧ y = .int .i64 20) (fun _ _ _ => 0)
  case atStart => exact ⟨rfl, rfl, rfl⟩
  case round =>
    obtain ⟨hw, rfl, rfl⟩ := hrel
    replace hw := hw.symm
    subst hw
    go_wp2_with fail
    refine CI.out.mono ?_
    rintro e w1 ⟨rfl, rfl⟩
    go_wp2_with fail
    go_loopw [6] (fun y wr => wr = w1 ∧ y = .int .i64 20) (fun _ _ => 0)
    case atStart => exact ⟨rfl, rfl⟩
    case round =>
      obtain ⟨hw, rfl⟩ := hrel
      replace hw := hw.symm
      subst hw
      go_wp2_with fail
      go_end0
      exact ⟨rfl, rfl⟩
set_option maxRecDepth 100000 in
set_option maxHeartbeats 1000000 in
theorem sort_nil (f : Value) (w : World) : Calls Try.prog 30 #[.slice none 0 0, f] w fun e w' => e = .returned (.tuple #[]) ∧ w' = w := by
  have CI := Lib.hid (stable_nil f w)
  go_enter Try.func30, Try.ntmps30
  go_wp2_with fail
  refine CI.out.mono ?_
  rintro e w1 ⟨rfl, rfl⟩
  go_wp2_with fail
  go_end0
  exact ⟨rfl, rfl⟩
end Go.Proofs.Ytkdflgaahhnigaa

namespace Go.Proofs.Ytkdflgaahhnigaa
open Go.RowKit Go.Shelf

set_option maxRecDepth 100000 in
set_option maxHeartbeats 2000000 in
theorem Near_bad (a : Option Addr) (g o c n : Nat) (R : RB) (w : World) (hN : R.cls.length = n) (hk : SK w a g o R.cls) (hc : n ≤ c) (ht : Thn R) (an : Option Addr) (gn on cn m : Nat) (ys : List ByteArray) (hkn : SKn w an gn on cn m ys) (hcm : m ≤ cn) (hm : m ≤ 900) (x : ByteArray) (hl : ∀ y, y ∈ ys ++ [x] → y.size ≤ 1000) (lim : Int) (v : Nat) (hv : lstN R ys [x] = v) (h0 : v ≠ 0) :
    Calls Try.prog 12 #[rulesV a n c R.soft R.al R.ot R.sk R.ss R.db, .slice an m cn, .string x, .int .i64 lim] w fun e w' => e = .returned (.tuple #[.slice none 0 0, .int .i64 (v : Nat)]) ∧ Below w.heap.size w w' := by
  have CL := Lib.hid (fun W b (hW : Below w.heap.size w W) (hb : Blk W b #[.string x] 9) => listed_any a g o c n R W hN (hk.below hW) hc ht an gn on cn m ys (hkn.below hW) hm (some ⟨b, 0, none⟩) b 0 1 1 [x] ⟨rfl, sk1 hb, by simp⟩ (by omega) hl)
  rw [hv] at CL
  have t0 : ((v : Int) == 0) = false := by simp; omega
  have t1 : ((v : Int) != 0) = true := by simp; omega
  clear hk ht hN hkn hl hv h0
  have s0 := (KS.start w).new (rulesC a n c R.soft R.al R.ot R.sk R.ss R.db) 27
  obtain ⟨kb0_0, kb0_1, kb0_2, kb0_3, kb0_4, kb0_5, kb0_6⟩ := (s0.blkAt 0 rfl).c7
  have S0 := Lib.hid s0
  clear s0
  go_enter Try.func12, Try.ntmps12
  go_wp2_with fail
  refine (CL.out _ (w.heap.size + 1) ((S0.out.bel).alloc S0.out.size _) (two_new w _ _ _ _).2.1).mono ?_
  rintro e w1 ⟨rfl, h1⟩
  clear kb0_0 kb0_1 kb0_2 kb0_3 kb0_4 kb0_5 kb0_6
  have s1 := (S0.out.alloc (.cells #[.string x] 9)).below h1
  obtain ⟨kb0_0, kb0_1, kb0_2, kb0_3, kb0_4, kb0_5, kb0_6⟩ := (s1.blkAt 0 rfl).c7
  have S1 := Lib.hid s1
  clear h1 s1
  go_wp2_with fail
  go_ret2
  exact ⟨rfl, S1.out.bel⟩
set_option maxRecDepth 100000 in
set_option maxHeartbeats 2000000 in
theorem Near_range (a : Option Addr) (g o c n : Nat) (R : RB) (w : World) (hN : R.cls.length = n) (hk : SK w a g o R.cls) (hc : n ≤ c) (ht : Thn R) (an : Option Addr) (gn on cn m : Nat) (ys : List ByteArray) (hkn : SKn w an gn on cn m ys) (hcm : m ≤ cn) (hm : m ≤ 900) (x : ByteArray) (hl : ∀ y, y ∈ ys ++ [x] → y.size ≤ 1000) (lim : Int) (hv : lstN R ys [x] = 0) (h0 : inB lim 0 5000 = false) :
    Calls Try.prog 12 #[rulesV a n c R.soft R.al R.ot R.sk R.ss R.db, .slice an m cn, .string x, .int .i64 lim] w fun e w' => e = .returned (.tuple #[.slice none 0 0, .int .i64 2]) ∧ Below w.heap.size w w' := by
  have CL := Lib.hid (fun W b (hW : Below w.heap.size w W) (hb : Blk W b #[.string x] 9) => listed_any a g o c n R W hN (hk.below hW) hc ht an gn on cn m ys (hkn.below hW) hm (some ⟨b, 0, none⟩) b 0 1 1 [x] ⟨rfl, sk1 hb, by simp⟩ (by omega) hl)
  rw [hv] at CL
  have CW := Lib.hid (fun W => within_any lim 0 5000 W)
  rw [h0] at CW
  clear hk ht hN hkn hl hv h0
  have s0 := (KS.start w).new (rulesC a n c R.soft R.al R.ot R.sk R.ss R.db) 27
  obtain ⟨kb0_0, kb0_1, kb0_2, kb0_3, kb0_4, kb0_5, kb0_6⟩ := (s0.blkAt 0 rfl).c7
  have S0 := Lib.hid s0
  clear s0
  go_enter Try.func12, Try.ntmps12
  go_wp2_with fail
  refine (CL.out _ (w.heap.size + 1) ((S0.out.bel).alloc S0.out.size _) (two_new w _ _ _ _).2.1).mono ?_
  rintro e w1 ⟨rfl, h1⟩
  clear kb0_0 kb0_1 kb0_2 kb0_3 kb0_4 kb0_5 kb0_6
  have s1 := (S0.out.alloc (.cells #[.string x] 9)).below h1
  obtain ⟨kb0_0, kb0_1, kb0_2, kb0_3, kb0_4, kb0_5, kb0_6⟩ := (s1.blkAt 0 rfl).c7
  have S1 := Lib.hid s1
  clear h1 s1
  go_wp2_with (go_at_call 22; (with_reducible refine (CW.out _).mono ?_); rintro e w2 ⟨rfl, rfl⟩)
  go_ret2
  exact ⟨rfl, S1.out.bel⟩
/-- what the loop of Near keeps -/
def NearS (w : World) (rc : Array Value) (bp bc m cap B1 Bo : Nat) (cs : List Nat) (W : World) : Prop :=
  KS w [(w.heap.size, rc, 27)] W ∧ Blk W bp #[.slice (some ⟨bc, 0, none⟩) m cap] 39 ∧ W.ownsRow B1 3 1 (.slice (some ⟨bc, 0, none⟩) m cap) m (natsV cs) ∧ w.heap.size < Bo ∧ bp < Bo ∧ bc < Bo ∧ w.heap.size < B1 ∧ Bo ≤ W.heap.size
theorem NearS.row {w W W' : World} {rc : Array Value} {bp bc m cap B1 Bo : Nat} {cs : List Nat} {row : Option Nat} (h : NearS w rc bp bc m cap B1 Bo cs W) (hg : W.grownBy W' row) (hr : ∀ r, row = some r → Bo ≤ r) : NearS w rc bp bc m cap B1 Bo cs W' := by
  obtain ⟨h1, h2, h3, h4, h5, h6, h7, h8⟩ := h
  refine ⟨KS1_row h1 hg (fun r e => by have := hr r e; omega), h2.kept hg (fun e => by have := hr _ e.symm; omega), h3.kept hg (.inr (fun e => by have := hr bc e.symm; omega)), h4, h5, h6, h7, Nat.le_trans h8 hg.size⟩
theorem NearS.alloc {w W : World} {rc : Array Value} {bp bc m cap B1 Bo : Nat} {cs : List Nat} (h : NearS w rc bp bc m cap B1 Bo cs W) (ob : Obj) : NearS w rc bp bc m cap B1 Bo cs (W.alloc ob) :=
  h.row (row := none) (grownBy_below ((Below.refl _ _).alloc (Nat.le_refl _) ob) none) (fun r e => by cases e)
theorem NearS.cell {w W : World} {rc : Array Value} {bp bc m cap B1 Bo : Nat} {cs : List Nat} (h : NearS w rc bp bc m cap B1 Bo cs W) {i k : Nat} (hi : cs[i]? = some k) : W.cell? ⟨bc, i, none⟩ = some (.int .i64 (k : Int)) := by
  have hl : cs.length = m * 1 := by have := h.2.2.1.1; simpa [natsV] using this
  have := (List.getElem?_eq_some_iff.1 hi).1
  rw [h.2.2.1.cellAt i (by omega), natsV, List.getElem?_map, hi]; rfl
/-- the near ones among the first i, in order of number -/
def outL (cs : List Nat) (L i : Nat) : List Nat := (List.range i).filter fun j => decide (cs.getD j 0 ≤ L)
theorem outL_succ (cs : List Nat) (L i k : Nat) (h : cs[i]? = some k) : outL cs L (i + 1) = if k ≤ L then outL cs L i ++ [i] else outL cs L i := by
  unfold outL
  rw [List.range_succ, List.filter_append]
  have e : cs.getD i 0 = k := by rw [List.getD_eq_getElem?_getD, h]; rfl
  by_cases hk : k ≤ L
  · rw [if_pos hk]; simp only [List.filter_cons, List.filter_nil, e, hk, decide_true, if_true]
  · rw [if_neg hk]; simp only [List.filter_cons, List.filter_nil, e, hk, decide_false, Bool.false_eq_true, if_false, List.append_nil]
theorem outL_len (cs : List Nat) (L i : Nat) : (outL cs L i).length ≤ i := by
  have := List.length_filter_le (fun j => decide (cs.getD j 0 ≤ L)) (List.range i)
  simpa [outL] using this
theorem outL_mem (cs : List Nat) (L i x : Nat) : x ∈ outL cs L i ↔ x < i ∧ cs.getD x 0 ≤ L := by
  unfold outL; rw [List.mem_filter, List.mem_range]; simp
theorem outL_sorted (cs : List Nat) (L i : Nat) : (outL cs L i).Pairwise (· < ·) := List.Pairwise.sublist List.filter_sublist List.pairwise_lt_range
/-- the near ones, sorted, are the law's list -/
theorem due_of_sorted (cs : List Nat) (L m : Nat) (r : List Nat) (h1 : r.Pairwise (Nm.lex fun i => cs.getD i 0)) (h2 : ∀ x, x ∈ r ↔ x ∈ outL cs L m) : r = Nm.dueL (fun i => cs.getD i 0) m L :=
  Nm.sorted_unique (fun _ _ => Nm.lex_asymm) _ _ h1 (Nm.dueL_sorted _ _ _) (fun x => by rw [h2 x, outL_mem, Nm.dueL_mem])
theorem due_nil (cs : List Nat) (L m : Nat) (h : outL cs L m = []) : Nm.dueL (fun i => cs.getD i 0) m L = [] := (due_of_sorted cs L m [] List.Pairwise.nil (fun x => by rw [h])).symm
/-- the names that are near -/
def nearL (R : RB) (x : ByteArray) (ys : List ByteArray) (L : Nat) : List Nat := Nm.dueL (fun i => (costsL R x ys).getD i 0) ys.length L
set_option maxRecDepth 100000 in
set_option maxHeartbeats 4000000 in
theorem Near_good (a : Option Addr) (g o c n : Nat) (R : RB) (w : World) (hN : R.cls.length = n) (hk : SK w a g o R.cls) (hc : n ≤ c) (ht : Thn R) (an : Option Addr) (gn on cn m : Nat) (ys : List ByteArray) (hkn : SKn w an gn on cn m ys) (hcm : m ≤ cn) (hm : m ≤ 900) (x : ByteArray) (hl : ∀ y, y ∈ ys ++ [x] → y.size ≤ 1000) (L : Nat) (hL : L ≤ 5000) (hv : lstN R ys [x] = 0) (hm0 : 0 < m) :
    Calls Try.prog 12 #[rulesV a n c R.soft R.al R.ot R.sk R.ss R.db, .slice an m cn, .string x, .int .i64 (L : Int)] w fun e w' => ∃ v, e = .returned (.tuple #[v, .int .i64 0]) ∧ w'.ownsRow (w.heap.size + 1) 3 1 v (nearL R x ys L).length (natsV (nearL R x ys L)) ∧ Below w.heap.size w w' := by
  have CL := Lib.hid (fun W b (hW : Below w.heap.size w W) (hb : Blk W b #[.string x] 9) => listed_any a g o c n R W hN (hk.below hW) hc ht an gn on cn m ys (hkn.below hW) hm (some ⟨b, 0, none⟩) b 0 1 1 [x] ⟨rfl, sk1 hb, by simp⟩ (by omega) hl)
  have hv2 := hv
  unfold lstN at hv2
  split at hv2
  · cases hv2
  rename_i h12
  obtain ⟨hg, hall⟩ := chkN_ok hv2
  rw [hv] at CL
  have CW := Lib.hid (fun W => within_any (L : Int) 0 5000 W)
  rw [show inB (L : Int) 0 5000 = true by rw [inB_iff]; omega] at CW
  have CC := Lib.hid (fun W (hW : Below w.heap.size w W) => costs_any a g o c n R W hN (hk.below hW) hc ht an gn on cn m ys hkn.1 (hkn.below hW).2.1 hcm (by omega) (fun y hy => hall y (List.mem_append_left _ hy)) hg x (hall x (by simp)).1 (hall x (by simp)).2)
  have hM := hkn.1
  have hm12 : m ≤ 12 := by omega
  have HM := Lib.hid hM
  have hcl : (costsL R x ys).length = m := by unfold costsL; rw [List.length_map, hM]
  have HNL := Lib.hid (show nearL R x ys L = Nm.dueL (fun i => (costsL R x ys).getD i 0) m L by unfold nearL; rw [hM])
  obtain ⟨i0, hi, hz0, hz1, hz2⟩ := info_parts tInfo3
  have hcb : ∀ k, k ∈ costsL R x ys → k ≤ 2400 := fun k hk => by
    unfold costsL at hk
    rw [List.mem_map] at hk
    obtain ⟨y, hy, rfl⟩ := hk
    exact cR_le hg (hall x (by simp)).1 (hall y (List.mem_append_left _ hy)).1 0 0
  generalize costsL R x ys = cs at *
  have HCB := Lib.hid hcb
  have HCL := Lib.hid hcl
  clear hk ht hN hkn hl hv hv2 h12 hg hall hM hcl hcb
  have s0 := (KS.start w).new (rulesC a n c R.soft R.al R.ot R.sk R.ss R.db) 27
  obtain ⟨kb0_0, kb0_1, kb0_2, kb0_3, kb0_4, kb0_5, kb0_6⟩ := (s0.blkAt 0 rfl).c7
  have S0 := Lib.hid s0
  clear s0
  go_enter Try.func12, Try.ntmps12
  go_wp2_with fail
  refine (CL.out _ (w.heap.size + 1) ((S0.out.bel).alloc S0.out.size _) (two_new w _ _ _ _).2.1).mono ?_
  rintro e w1 ⟨rfl, h1⟩
  clear kb0_0 kb0_1 kb0_2 kb0_3 kb0_4 kb0_5 kb0_6
  have s1 := (S0.out.alloc (.cells #[.string x] 9)).below h1
  obtain ⟨kb0_0, kb0_1, kb0_2, kb0_3, kb0_4, kb0_5, kb0_6⟩ := (s1.blkAt 0 rfl).c7
  have S1 := Lib.hid s1
  clear h1 s1
  go_wp2_with (first | (go_at_call 22; (with_reducible refine (CW.out _).mono ?_); rintro e w2 ⟨rfl, rfl⟩) | (go_at_call 29; (refine (CC.out _ S1.out.bel).mono ?_); rintro e w2 ⟨v, rfl, hv, hb⟩; obtain ⟨bc, cap, rfl⟩ := Joins.ownsRow_form hv hm0; have S2 := Lib.hid (S1.out.below hb); have HV := Lib.hid hv; clear hv hb))
  have q1 := S1.out.lt 0 rfl
  have q2 := S2.out.lt 0 rfl
  have q3 := (HV.out.lt bc rfl)
  have HS := Lib.hid (show NearS w (rulesC a n c R.soft R.al R.ot R.sk R.ss R.db) w2.heap.size bc m cap (w1.heap.size + 1) (w2.heap.size + 1) cs (w2.alloc (.cells #[.slice (some ⟨bc, 0, none⟩) m cap] 39)) from ⟨S2.out.alloc _, Blk.new _ _ _, HV.out.alloc _, by omega, by omega, by omega, by omega, by simp⟩)
  have q4 : w.heap.size + 1 ≤ w2.heap.size + 1 := by omega
  clear S0 S1 S2 HV CL CW CC q1 q2 q3
  generalize w2.alloc (.cells #[.slice (some ⟨bc, 0, none⟩) m cap] 39) = W0 at *
  generalize w2.heap.size = bp at *
  generalize w1.heap.size + 1 = B1 at *
  go_loopw [32, 12] (fun y v wr => ∃ i k : Nat, i ≤ m ∧ y = .int .i64 (i : Int) ∧ k = (outL cs L i).length ∧ wr.ownsRow (bp + 1) 3 1 v k (natsV (outL cs L i)) ∧ NearS w (rulesC a n c R.soft R.al R.ot R.sk R.ss R.db) bp bc m cap B1 (bp + 1) cs wr) (fun y _ _ => m - (intOf y).toNat)
  case atStart => exact ⟨0, 0, Nat.zero_le _, rfl, by simp [outL], World.ownsRow_nil _ _ _ _, HS.out⟩
  case round =>
    clear HS
    obtain ⟨i, k, hi', rfl, hk, hown, hS⟩ := hrel
    have HK := Lib.hid hk
    have HO := Lib.hid hown
    have S := Lib.hid hS
    have hle : k ≤ i := by rw [hk]; exact outL_len _ _ _
    have hsz := hS.2.2.2.2.2.2.2
    have kp := hS.2.1.c1.1
    clear hk hown hS
    by_cases hil : i < m
    · obtain ⟨ki, hki⟩ : ∃ ki, cs[i]? = some ki := ⟨cs[i]'(by rw [HCL.out]; exact hil), by simp⟩
      have hcell := S.out.cell hki
      have hkb := HCB.out ki (List.mem_of_getElem? hki)
      have HSU := Lib.hid (outL_succ cs L i ki hki)
      clear hki
      by_cases hkL : ki ≤ L
      · rw [if_pos hkL] at HSU
        go_wp2_with (at_builtin; refine wpList_append_own _ rfl _ _ 39 rfl (bp + 1) 3 i0 (.int .i64 0) 1 8 Try.underlying39 hi hz0 hz1 hz2 rfl (by decide) _ _ _ rfl (HO.out.alloc _) ⟨wr.heap.size, 0, none⟩ 1 1 [.int .i64 (i : Int)] rfl rfl (cell_one_new _ _ _) (by simp [Value.oneCell']) (by unfold maxLen; omega) (by omega) (by simp; omega) ?_; intro v' w5 hown' hgrow _; have HO5 := Lib.hid hown'; have HG := Lib.hid hgrow; clear hown' hgrow)
        go_roundw
        case rel =>
          refine ⟨i + 1, k + 1, by omega, by go_num, by rw [HSU.out, List.length_append, ← HK.out]; rfl, ?_, (S.out.alloc _).row HG.out (fun r e => (HO.out.lt r e).1)⟩
          rw [HSU.out]; simpa [natsV] using HO5.out
        case measure => simp [intOf]; omega
      · rw [if_neg hkL] at HSU
        go_wp2_with fail
        go_roundw
        case rel => exact ⟨i + 1, k, by omega, by go_num, by rw [HSU.out]; exact HK.out, by rw [HSU.out]; exact HO.out, S.out⟩
        case measure => simp [intOf]; omega
    · obtain rfl : i = m := by omega
      have hk12 : k ≤ 12 := by omega
      rcases Joins.ownsRow_forms HO.out with ⟨rfl, hk0⟩ | ⟨g9, c9, rfl⟩
      · have HD := Lib.hid (due_nil cs L i (List.eq_nil_of_length_eq_zero (by have := HK.out; omega)))
        have CS := Lib.hid (fun f W => sort_nil f W)
        clear hk0
        go_wp2_with (go_at_call 30; (refine (CS.out _ _).mono ?_); rintro e w6 ⟨rfl, rfl⟩)
        go_ret2
        exact ⟨_, rfl, by rw [HNL.out, HD.out]; exact World.ownsRow_nil _ _ _ _, S.out.1.bel⟩
      · have hg9 := (HO.out.lt g9 rfl)
        have CS := Lib.hid (sortNear i k hm0 cs HCL.out bp bc cap g9 c9 (bp + 1) (outL cs L i) HK.out.symm (by omega) (fun x hx => ((outL_mem cs L i x).1 hx).1) (outL_sorted cs L i) wr S.out.2.1.c1.1 (fun j kj h => S.out.cell h) HO.out (by omega) (by have := S.out.2.2.2.2.2.1; omega))
        clear hg9
        go_wp2_with (go_at_call 30; (refine CS.out.mono ?_); rintro e w6 ⟨rfl, hr⟩; have HR := Lib.hid hr; clear hr)
        go_ret2
        obtain ⟨r, r1, r2, r3, r4, r5⟩ := HR.out
        have e9 := due_of_sorted cs L i r r1 r2
        refine ⟨_, rfl, ?_, ?_⟩
        · rw [HNL.out, ← e9, r3]; exact r4.mono q4
        · exact S.out.1.bel.grown r5 S.out.1.bel.size (fun j e => by cases e; have := (HO.out.lt g9 rfl).1; omega)
end Go.Proofs.Ytkdflgaahhnigaa

namespace Go.Proofs.Ytkdflgaahhnigaa
open Go.RowKit Go.Shelf

set_option maxRecDepth 100000 in
set_option maxHeartbeats 2000000 in
theorem Near_empty (a : Option Addr) (g o c n : Nat) (R : RB) (w : World) (hN : R.cls.length = n) (hk : SK w a g o R.cls) (hc : n ≤ c) (ht : Thn R) (an : Option Addr) (gn on cn m : Nat) (ys : List ByteArray) (hkn : SKn w an gn on cn m ys) (hcm : m ≤ cn) (hm : m ≤ 900) (x : ByteArray) (hl : ∀ y, y ∈ ys ++ [x] → y.size ≤ 1000) (L : Nat) (hL : L ≤ 5000) (hv : lstN R ys [x] = 0) (hm0 : m = 0) :
    Calls Try.prog 12 #[rulesV a n c R.soft R.al R.ot R.sk R.ss R.db, .slice an m cn, .string x, .int .i64 (L : Int)] w fun e w' => e = .returned (.tuple #[.slice none 0 0, .int .i64 0]) ∧ Below w.heap.size w w' := by
  have CL := Lib.hid (fun W b (hW : Below w.heap.size w W) (hb : Blk W b #[.string x] 9) => listed_any a g o c n R W hN (hk.below hW) hc ht an gn on cn m ys (hkn.below hW) hm (some ⟨b, 0, none⟩) b 0 1 1 [x] ⟨rfl, sk1 hb, by simp⟩ (by omega) hl)
  have hv2 := hv
  unfold lstN at hv2
  split at hv2
  · cases hv2
  rename_i h12
  obtain ⟨hg, hall⟩ := chkN_ok hv2
  rw [hv] at CL
  have CW := Lib.hid (fun W => within_any (L : Int) 0 5000 W)
  rw [show inB (L : Int) 0 5000 = true by rw [inB_iff]; omega] at CW
  have CC := Lib.hid (fun W (hW : Below w.heap.size w W) => costs_any a g o c n R W hN (hk.below hW) hc ht an gn on cn m ys hkn.1 (hkn.below hW).2.1 hcm (by omega) (fun y hy => hall y (List.mem_append_left _ hy)) hg x (hall x (by simp)).1 (hall x (by simp)).2)
  have CS := Lib.hid (fun f W => sort_nil f W)
  subst hm0
  clear hk ht hN hkn hl hv hv2 h12 hg hall
  have s0 := (KS.start w).new (rulesC a n c R.soft R.al R.ot R.sk R.ss R.db) 27
  obtain ⟨kb0_0, kb0_1, kb0_2, kb0_3, kb0_4, kb0_5, kb0_6⟩ := (s0.blkAt 0 rfl).c7
  have S0 := Lib.hid s0
  clear s0
  go_enter Try.func12, Try.ntmps12
  go_wp2_with fail
  refine (CL.out _ (w.heap.size + 1) ((S0.out.bel).alloc S0.out.size _) (two_new w _ _ _ _).2.1).mono ?_
  rintro e w1 ⟨rfl, h1⟩
  clear kb0_0 kb0_1 kb0_2 kb0_3 kb0_4 kb0_5 kb0_6
  have s1 := (S0.out.alloc (.cells #[.string x] 9)).below h1
  obtain ⟨kb0_0, kb0_1, kb0_2, kb0_3, kb0_4, kb0_5, kb0_6⟩ := (s1.blkAt 0 rfl).c7
  have S1 := Lib.hid s1
  clear h1 s1
  have HRF := Lib.hid (fun (W : World) (B : Nat) (v : Value) (h : W.ownsRow B 3 1 v 0 (natsV (costsL R x ys))) => show ∃ q c, v = .slice q 0 c from by
    rcases Joins.ownsRow_forms h with ⟨e, _⟩ | ⟨g, c, e⟩
    · exact ⟨_, _, e⟩
    · exact ⟨_, _, e⟩)
  go_wp2_with (first | (go_at_call 22; (with_reducible refine (CW.out _).mono ?_); rintro e w2 ⟨rfl, rfl⟩) | (go_at_call 29; (refine (CC.out _ S1.out.bel).mono ?_); rintro e w2 ⟨v, rfl, hv, hb⟩; obtain ⟨q9, c9, rfl⟩ := HRF.out _ _ _ hv; have S2 := Lib.hid (S1.out.below hb); clear hv hb))
  have S3 := Lib.hid (S2.out.alloc (.cells #[.slice q9 0 c9] 39))
  clear kb0_0 kb0_1 kb0_2 kb0_3 kb0_4 kb0_5 kb0_6
  generalize w2.alloc (.cells #[.slice q9 0 c9] 39) = W0 at *
  generalize w2.heap.size = bp at *
  go_loopw [32, 12] (fun y v wr => wr = W0 ∧ y = .int .i64 0 ∧ v = .slice none 0 0) (fun y _ _ => 0)
  case atStart => exact ⟨rfl, rfl, rfl⟩
  case round =>
    obtain ⟨hw, rfl, rfl⟩ := hrel
    replace hw := hw.symm
    subst hw
    go_wp2_with (go_at_call 30; (refine (CS.out _ _).mono ?_); rintro e w6 ⟨rfl, rfl⟩)
    go_ret2
    exact ⟨rfl, S3.out.bel⟩
/-- Near's error and its list -/
def nearE (R : RB) (ys : List ByteArray) (x : ByteArray) (lim : Int) : Nat := if lstN R ys [x] = 0 then (if inB lim 0 5000 then 0 else 2) else lstN R ys [x]
def nearV (R : RB) (ys : List ByteArray) (x : ByteArray) (lim : Int) : List Nat := if nearE R ys x lim = 0 then nearL R x ys lim.toNat else []
theorem Near_any (a : Option Addr) (g o c n : Nat) (R : RB) (w : World) (hN : R.cls.length = n) (hk : SK w a g o R.cls) (hc : n ≤ c) (ht : Thn R) (an : Option Addr) (gn on cn m : Nat) (ys : List ByteArray) (hkn : SKn w an gn on cn m ys) (hcm : m ≤ cn) (hm : m ≤ 900) (x : ByteArray) (hl : ∀ y, y ∈ ys ++ [x] → y.size ≤ 1000) (lim : Int) :
    Calls Try.prog 12 #[rulesV a n c R.soft R.al R.ot R.sk R.ss R.db, .slice an m cn, .string x, .int .i64 lim] w fun e w' => ∃ v, e = .returned (.tuple #[v, .int .i64 (nearE R ys x lim : Nat)]) ∧ w'.ownsRow (w.heap.size + 1) 3 1 v (nearV R ys x lim).length (natsV (nearV R ys x lim)) ∧ Below w.heap.size w w' := by
  by_cases hv : lstN R ys [x] = 0
  · cases hb : inB lim 0 5000 with
    | false =>
      have e1 : nearE R ys x lim = 2 := by unfold nearE; rw [if_pos hv, hb]; rfl
      have e2 : nearV R ys x lim = [] := by unfold nearV; rw [e1]; rfl
      rw [e1, e2]
      exact (Near_range a g o c n R w hN hk hc ht an gn on cn m ys hkn hcm hm x hl lim hv hb).mono fun e w' h => ⟨_, h.1, World.ownsRow_nil _ _ _ _, h.2⟩
    | true =>
      have e1 : nearE R ys x lim = 0 := by unfold nearE; rw [if_pos hv, hb]; rfl
      have e2 : nearV R ys x lim = nearL R x ys lim.toNat := by unfold nearV; rw [e1]; rfl
      rw [e1, e2]
      have hb2 := inB_iff.1 hb
      obtain ⟨L, rfl⟩ : ∃ L : Nat, lim = L := ⟨lim.toNat, by omega⟩
      rcases Nat.eq_zero_or_pos m with hm0 | hm0
      · have e3 : nearL R x ys ((L : Int).toNat) = [] := by
          have hy : ys.length = 0 := by have := hkn.1; omega
          unfold nearL
          rw [hy]
          exact List.eq_nil_of_length_eq_zero (by
            rcases Nat.eq_zero_or_pos (Nm.dueL (fun i => (costsL R x ys).getD i 0) 0 (L : Int).toNat).length with h | h
            · exact h
            · obtain ⟨z, hz⟩ := List.exists_mem_of_length_pos h
              have := (Nm.dueL_mem _ _ _ _).1 hz
              omega)
        rw [e3]
        exact (Near_empty a g o c n R w hN hk hc ht an gn on cn m ys hkn hcm hm x hl L (by omega) hv hm0).mono fun e w' h => ⟨_, h.1, World.ownsRow_nil _ _ _ _, h.2⟩
      · exact Near_good a g o c n R w hN hk hc ht an gn on cn m ys hkn hcm hm x hl L (by omega) hv hm0
  · have e1 : nearE R ys x lim = lstN R ys [x] := by unfold nearE; rw [if_neg hv]
    have e2 : nearV R ys x lim = [] := by unfold nearV; rw [e1, if_neg hv]
    rw [e1, e2]
    exact (Near_bad a g o c n R w hN hk hc ht an gn on cn m ys hkn hcm hm x hl lim _ rfl hv).mono fun e w' h => ⟨_, h.1, World.ownsRow_nil _ _ _ _, h.2⟩
end Go.Proofs.Ytkdflgaahhnigaa
