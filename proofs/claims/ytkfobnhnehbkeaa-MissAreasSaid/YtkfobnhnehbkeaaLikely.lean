/- The walk of Likely of package miss. -/
import Derived.Test.YtkfobnhnehbkeaaIter
import Derived.Test.YtkfobnhnehbkeaaPlain
namespace Go.Proofs.Ytkfobnhnehbkeaa
open Go.RowKit Go.Shelf
open Mis (ch sets tot sm low up scanL scanStep lower)
attribute [local go_sem] Oper.semAt_some

theorem numbers_any (L M S F : Int) (w : World) : Calls Try.prog 60 #[areaV L M S F] w fun e w' => e = .returned (.func (.func 76) #[] #[.pointer (some ⟨w.heap.size, 0, none⟩)]) ∧ w.alloc (.cells #[.int .i64 L, .int .i64 M, .int .i64 S, .int .i64 F] 29) = w' := by
  go_enter Try.func60, Try.ntmps60
  go_wp2
  go_ret
  exact ⟨rfl, rfl⟩

set_option maxRecDepth 100000 in
set_option maxHeartbeats 400000 in
theorem Likely_arg (L M S F : Int) (w : World) (h : areaB L M S F = false) : Calls Try.prog 28 #[areaV L M S F] w fun e w' => e = .returned (.tuple #[.slice none 0 0, .int .i64 1]) ∧ Below w.heap.size w w' := by
  refine (callsIn_wide (n := 8)).1 ?_
  have C58 := Lib.hid (fun w => valid_any L M S F w)
  rw [h] at C58
  clear h
  refine callsIn_of_wp_marks Try.func28 rfl trivial ?_ rfl
  simp only [Try.ntmps28, List.size_toArray, List.length_cons, List.length_nil, Nat.reduceAdd, Nat.reduceSub, Array.replicate_succ, Array.replicate_zero, List.push_toArray, List.append_toArray, List.nil_append, List.cons_append]
  gi_wp2_with (refine ⟨trivial, ?_⟩; gi_at_call 58; (with_reducible refine (callsIn_wide.2 (C58.out _)).mono ?_); rintro e w1 ⟨rfl, hb1⟩)
  exact ⟨_, results_tmp2 rfl _ _ _, rfl, ((Below.refl _ _).alloc (Nat.le_refl _) _).trans (hb1.mono (by simp))⟩

theorem ownRest {β : Type} (B0 b1 b2 mb : Nat) (c1 : Array Value) (f2 : β → Array Value) (t1 t2 : TypeId) (w : World) (h1 : b1 < B0) (h2 : b2 < B0) (h3 : mb < B0) (h4 : w.heap.size ≤ B0) :
    OwnFrom B0 (fun (s : β) W => Blk W b1 c1 t1 ∧ Blk W b2 (f2 s) t2 ∧ Memo W mb ∧ Below w.heap.size w W) := fun s W W' row ⟨g1, g2, g3, g4⟩ hg hr =>
  ⟨g1.kept hg (fun e => by have := (hr _ e.symm).1; omega), g2.kept hg (fun e => by have := (hr _ e.symm).1; omega), g3.kept hg (fun e => by have := (hr _ e.symm).1; omega), g4.grown hg g4.size (fun j e => Nat.le_trans h4 (hr j e).1)⟩
theorem row_ne_memo {W : World} {base : Nat} {e : TypeId} {size : Nat} {v : Value} {k : Nat} {xs : List Value} (h : W.ownsRow base e size v k xs) {mb : Nat} (hm : Memo W mb) : v.ownBlock = none ∨ v.ownBlock ≠ some mb := by
  rcases h.2 with ⟨rfl, _⟩ | ⟨g, cap, cur, rfl, _, hgb, _⟩
  · exact .inl rfl
  · refine .inr fun e' => ?_
    obtain rfl : g = mb := by simpa [Value.ownBlock] using e'
    obtain ⟨es, clock, hb, _⟩ := hm
    rw [hb] at hgb; cases hgb
theorem Blk.not_row {W : World} {b : Nat} {cs : Array Value} {t e : TypeId} (h : Blk W b cs t) (hte : t ≠ e) {base size k : Nat} {v : Value} {xs : List Value} (hr : W.ownsRow base e size v k xs) : some b ≠ v.ownBlock := by
  rcases hr.2 with ⟨rfl, _⟩ | ⟨g, cap, cur, rfl, _, hgb, _⟩
  · simp [Value.ownBlock]
  · intro e'
    obtain rfl : b = g := by simpa [Value.ownBlock] using e'
    have := (show W.heap[b]? = _ from h).symm.trans hgb
    simp at this
    exact hte this.2
/-- behind an append, and the store of the new slice into its variable's box -/
theorem Blk.app {W w1 : World} {b B : Nat} {cs : Array Value} {t e : TypeId} {tmp : Obj} {base size k : Nat} {v v' : Value} {xs : List Value} (h : Blk W b cs t) (hte : t ≠ e) (hr : W.ownsRow base e size v k xs) (hg : (W.alloc tmp).grownBy w1 v.ownBlock) (hne : b ≠ B) : Blk (w1.setCell ⟨B, 0, none⟩ v') b cs t :=
  ((h.alloc tmp).kept hg (h.not_row hte hr)).other hne _
theorem Memo.app {W w1 : World} {mb B : Nat} {e : TypeId} {tmp : Obj} {base size k : Nat} {v v' : Value} {xs : List Value} (h : Memo W mb) (hr : W.ownsRow base e size v k xs) (hg : (W.alloc tmp).grownBy w1 v.ownBlock) (hne : mb ≠ B) : Memo (w1.setCell ⟨B, 0, none⟩ v') mb :=
  ((h.alloc tmp).kept hg (by rcases row_ne_memo hr h with h1 | h1; · rw [h1]; simp
                             · exact h1.symm)).setCell hne _
theorem row_below {W W' : World} {base : Nat} {e : TypeId} {size : Nat} {v : Value} {k : Nat} {xs : List Value} (h : W.ownsRow base e size v k xs) (hb : Below W.heap.size W W') : W'.ownsRow base e size v k xs := by
  refine h.kept (grownBy_below hb none) ?_
  rcases h.2 with ⟨rfl, _⟩ | ⟨g, cap, cur, rfl, _, hgb, _⟩
  · exact .inl rfl
  · exact .inr (by simp [Value.ownBlock])
theorem num_le (l s f u : Nat) (hf : f ≤ s) : sm (sets l u s) f 1 ≤ tot l u s := by
  have e1 := Mis.sm_add (sets l u s) 0 f 1
  have e2 := Mis.low_le l u s f hf
  unfold Mis.low at e2
  simp only [Nat.zero_add] at e1
  show sm (sets l u s) f 1 ≤ _
  omega
theorem keeps_row {W W' : World} {mb B0 : Nat} (hg : W.grownBy W' (some mb)) (hlt : mb < B0) : KeepsFrom B0 W W' := KeepsFrom.of_grownBy hg (fun j e => by cases e; exact hlt)
theorem keeps_below {W W' : World} {B0 : Nat} (hb : Below W.heap.size W W') : KeepsFrom B0 W W' := KeepsFrom.of_grownBy (grownBy_below hb none) (fun j e => by cases e)
theorem tInfo3 : (Try.prog.info? 3).map (fun i => (i.zero, i.size, i.bytes)) = some (some (.int .i64 0), 1, 8) := by kernel_rfl
/-- the chance of Found, u missed -/
def numOf (l s f u : Nat) : Nat := sm (sets l u s) f 1
def denOf (l s u : Nat) : Nat := tot l u s
def dueOf (l M s f : Nat) : List Nat := (List.range (M + 1)).filter (Mis.likely (numOf l s f) (denOf l s) (M + 1))
def intsV (xs : List Nat) : List Value := xs.map fun (x : Nat) => Value.int .i64 (x : Int)
def stOf {M : Nat} (l s f : Nat) (pre : List (UpTo M)) : (Nat × Nat) × List Nat := scanL (numOf l s f) (denOf l s) (pre.map (·.1))
theorem stOf_nil {M : Nat} (l s f : Nat) : stOf l s f ([] : List (UpTo M)) = ((0, 1), []) := rfl
theorem stOf_snoc {M : Nat} (l s f : Nat) (pre : List (UpTo M)) (x : UpTo M) : stOf l s f (pre ++ [x]) = scanStep (numOf l s f) (denOf l s) (stOf l s f pre) x.1 := by
  unfold stOf; rw [List.map_append]; exact Mis.scanL_snoc _ _ _ _
def LikelyPost (l M s f : Nat) (w : World) (e : Ending) (w' : World) : Prop :=
  ∃ v r, e = .returned (.tuple #[v, .int .i64 r]) ∧ (dueOf l M s f = [] → v = .slice none 0 0 ∧ r = 9) ∧ (dueOf l M s f ≠ [] → r = 0) ∧ w'.ownsRow w.heap.size 3 1 v (dueOf l M s f).length (intsV (dueOf l M s f)) ∧ Below w.heap.size w w'

set_option maxRecDepth 100000 in
set_option maxHeartbeats 2000000 in
theorem Likely_ok (l M s f : Nat) (w : World) (h : areaB l M s f = true) (hl : l + M ≤ 50) (hs : s ≤ l) (hf : f ≤ s) : Calls Try.prog 28 #[areaV l M s f] w (LikelyPost l M s f w) := by
  refine (callsIn_wide (n := 8)).1 ?_
  obtain ⟨i0, hi, hz0, hz1, hz2⟩ := info_parts tInfo3
  have C58 := Lib.hid (fun w => valid_any l M s f w)
  rw [h] at C58
  clear h
  refine callsIn_of_wp_marks Try.func28 rfl trivial ?_ rfl
  simp only [Try.ntmps28, List.size_toArray, List.length_cons, List.length_nil, Nat.reduceAdd, Nat.reduceSub, Array.replicate_succ, Array.replicate_zero, List.push_toArray, List.append_toArray, List.nil_append, List.cons_append]
  gi_wp2_with (first
    | (refine ⟨trivial, ?_⟩; gi_at_call 58; (with_reducible refine (callsIn_wide.2 (C58.out _)).mono ?_); rintro e w1 ⟨rfl, hb1⟩; have c1 := (Blk.new w _ _).below hb1 (by simp); obtain ⟨k0, k1, k2, k3⟩ := c1.c4; have lt1 := c1.lt; have C1 := Lib.hid c1; have HB1 := Lib.hid (((Below.refl _ w).alloc (Nat.le_refl _) _).trans (hb1.mono (by simp))); clear hb1 c1)
    | (refine ⟨trivial, ?_⟩; gi_at_call 59; (with_reducible refine (callsIn_wide.2 (work_any _ _ _ _ _)).mono ?_); rintro e w2 ⟨rfl, hm2, hb2⟩; have c1 := C1.out.below hb2 C1.out.lt; have c4 := ((c1.alloc (.cells #[.int .i64 l, .int .i64 M, .int .i64 s, .int .i64 f, .map (some (w1.heap.size + 1 + 1))] 99)).alloc (.cells #[.slice none 0 0] 40)).alloc (.cells #[.int .i64 0, .int .i64 1] 25); obtain ⟨k0, k1, k2, k3⟩ := c4.c4; have lt1 := c1.lt; have C1' := Lib.hid c1; clear c4; have HB2 := Lib.hid (HB1.out.trans (hb2.mono HB1.out.size)); have HM2 := Lib.hid hm2; have HS2 := Lib.hid hb2.size; clear hb2 c1 hm2)
    | (refine ⟨trivial, ?_⟩; gi_at_call 60; (with_reducible refine (callsIn_wide.2 (numbers_any _ _ _ _ _)).mono ?_); rintro e w3 ⟨rfl, rfl⟩))
  have hgen : Blk ((((w2.alloc (.cells #[.int .i64 l, .int .i64 M, .int .i64 s, .int .i64 f, .map (some (w1.heap.size + 1 + 1))] 99)).alloc (.cells #[.slice none 0 0] 40)).alloc (.cells #[.int .i64 0, .int .i64 1] 25)).alloc (.cells #[.int .i64 l, .int .i64 M, .int .i64 s, .int .i64 f] 29)) w2.heap.size #[.int .i64 l, .int .i64 M, .int .i64 s, .int .i64 f, .map (some (w1.heap.size + 1 + 1))] 99 ∧
      Blk ((((w2.alloc (.cells #[.int .i64 l, .int .i64 M, .int .i64 s, .int .i64 f, .map (some (w1.heap.size + 1 + 1))] 99)).alloc (.cells #[.slice none 0 0] 40)).alloc (.cells #[.int .i64 0, .int .i64 1] 25)).alloc (.cells #[.int .i64 l, .int .i64 M, .int .i64 s, .int .i64 f] 29)) (w2.heap.size + 1) #[.slice none 0 0] 40 ∧
      Blk ((((w2.alloc (.cells #[.int .i64 l, .int .i64 M, .int .i64 s, .int .i64 f, .map (some (w1.heap.size + 1 + 1))] 99)).alloc (.cells #[.slice none 0 0] 40)).alloc (.cells #[.int .i64 0, .int .i64 1] 25)).alloc (.cells #[.int .i64 l, .int .i64 M, .int .i64 s, .int .i64 f] 29)) (w2.heap.size + 1 + 1) #[.int .i64 0, .int .i64 1] 25 ∧
      Blk ((((w2.alloc (.cells #[.int .i64 l, .int .i64 M, .int .i64 s, .int .i64 f, .map (some (w1.heap.size + 1 + 1))] 99)).alloc (.cells #[.slice none 0 0] 40)).alloc (.cells #[.int .i64 0, .int .i64 1] 25)).alloc (.cells #[.int .i64 l, .int .i64 M, .int .i64 s, .int .i64 f] 29)) (w2.heap.size + 1 + 1 + 1) #[.int .i64 l, .int .i64 M, .int .i64 s, .int .i64 f] 29 ∧
      Memo ((((w2.alloc (.cells #[.int .i64 l, .int .i64 M, .int .i64 s, .int .i64 f, .map (some (w1.heap.size + 1 + 1))] 99)).alloc (.cells #[.slice none 0 0] 40)).alloc (.cells #[.int .i64 0, .int .i64 1] 25)).alloc (.cells #[.int .i64 l, .int .i64 M, .int .i64 s, .int .i64 f] 29)) (w1.heap.size + 1 + 1) ∧
      Below w.heap.size w ((((w2.alloc (.cells #[.int .i64 l, .int .i64 M, .int .i64 s, .int .i64 f, .map (some (w1.heap.size + 1 + 1))] 99)).alloc (.cells #[.slice none 0 0] 40)).alloc (.cells #[.int .i64 0, .int .i64 1] 25)).alloc (.cells #[.int .i64 l, .int .i64 M, .int .i64 s, .int .i64 f] 29)) ∧
      ((((w2.alloc (.cells #[.int .i64 l, .int .i64 M, .int .i64 s, .int .i64 f, .map (some (w1.heap.size + 1 + 1))] 99)).alloc (.cells #[.slice none 0 0] 40)).alloc (.cells #[.int .i64 0, .int .i64 1] 25)).alloc (.cells #[.int .i64 l, .int .i64 M, .int .i64 s, .int .i64 f] 29)).heap.size = w2.heap.size + 1 + 1 + 1 + 1 := by
    obtain ⟨q1, q2, q3, q4, q5⟩ := three_new w2 #[.int .i64 l, .int .i64 M, .int .i64 s, .int .i64 f, .map (some (w1.heap.size + 1 + 1))] #[.slice none 0 0] #[.int .i64 0, .int .i64 1] 99 40 25
    refine ⟨q1.alloc _, q2.alloc _, q3.alloc _, ?_, (((HM2.out.alloc _).alloc _).alloc _).alloc _, (HB2.out.trans (q4.mono HB2.out.size)).alloc (by rw [q5]; have := HB2.out.size; omega) _, by rw [World.size_alloc, q5]⟩
    have := Blk.new (((w2.alloc (.cells #[.int .i64 l, .int .i64 M, .int .i64 s, .int .i64 f, .map (some (w1.heap.size + 1 + 1))] 99)).alloc (.cells #[.slice none 0 0] 40)).alloc (.cells #[.int .i64 0, .int .i64 1] 25)) #[.int .i64 l, .int .i64 M, .int .i64 s, .int .i64 f] 29
    rwa [q5] at this
  have hmbw : w1.heap.size + 1 + 1 < w2.heap.size := HM2.out.lt
  have hmbn : w.heap.size ≤ w1.heap.size + 1 + 1 := by have := HB1.out.size; omega
  generalize (((w2.alloc (.cells #[.int .i64 l, .int .i64 M, .int .i64 s, .int .i64 f, .map (some (w1.heap.size + 1 + 1))] 99)).alloc (.cells #[.slice none 0 0] 40)).alloc (.cells #[.int .i64 0, .int .i64 1] 25)).alloc (.cells #[.int .i64 l, .int .i64 M, .int .i64 s, .int .i64 f] 29) = W0 at *
  generalize w1.heap.size + 1 + 1 = mb at *
  obtain ⟨g1, g2, g3, g4, gm, gb, gs⟩ := hgen
  have hw2 := HB2.out.size
  refine wpIn_rangeFunc_ownG rfl (by omega) (gf := 76) (lb := #[.pointer (some ⟨w2.heap.size + 1 + 1 + 1, 0, none⟩)]) rfl trivial (enters_of Try.func76 (by kernel_rfl) rfl)
    (numbers_stops M (by omega) 7 (by omega) (w2.heap.size + 1 + 1 + 1) W0 (by omega) (g4.cell 1)) (fun _ _ => trivial) (fun _ _ _ _ _ _ _ _ => trivial) (Below.refl _ _) (fun _ => rfl)
    (fun (pre : List (UpTo M)) W => (∃ v, Boxed W (w2.heap.size + 1) 40 v ∧ W.ownsRow w.heap.size 3 1 v (stOf l s f pre).2.length (intsV (stOf l s f pre).2) ∧ (v = .slice none 0 0 ↔ (stOf l s f pre).2 = [])) ∧
      Blk W w2.heap.size #[.int .i64 l, .int .i64 M, .int .i64 s, .int .i64 f, .map (some mb)] 99 ∧ Blk W (w2.heap.size + 1 + 1) #[.int .i64 ((stOf l s f pre).1.1 : Nat), .int .i64 ((stOf l s f pre).1.2 : Nat)] 25 ∧ Memo W mb ∧ Below w.heap.size w W)
    (fun _ _ _ => False)
    (OwnFrom.and (Own.from (holdsRow_own w.heap.size (w2.heap.size + 1) 40 3 1 (fun pre : List (UpTo M) => (stOf l s f pre).2.length) (fun pre => intsV (stOf l s f pre).2) (fun pre v => v = .slice none 0 0 ↔ (stOf l s f pre).2 = [])) _) (ownRest _ _ _ _ _ (fun pre : List (UpTo M) => #[.int .i64 ((stOf l s f pre).1.1 : Nat), .int .i64 ((stOf l s f pre).1.2 : Nat)]) _ _ w (by omega) (by omega) (by omega) (by omega)))
    (fun _ _ _ _ _ hs _ _ => hs)
    ⟨⟨_, g2, World.ownsRow_nil _ _ _ _, by simp [stOf_nil]⟩, g1, g3, gm, gb⟩
    (fun x => { tmps := #[areaV ↑l ↑M ↑s ↑f, Value.pointer (some { block := w.heap.size, off := 0 }), Value.slice none 0 0, Value.int IntKind.i64 0, Value.pointer (some { block := w2.heap.size, off := 0 }), Value.pointer (some { block := w2.heap.size + 1, off := 0 }), Value.pointer (some { block := w2.heap.size + 1 + 1, off := 0 }), Value.int IntKind.i64 (x.1 : Int), undef, Value.agg #[Value.int IntKind.i64 ↑l, Value.int IntKind.i64 ↑M, Value.int IntKind.i64 ↑s, Value.int IntKind.i64 ↑f], Value.bool true, Value.bool false, Value.agg #[Value.int IntKind.i64 ↑l, Value.int IntKind.i64 ↑M, Value.int IntKind.i64 ↑s, Value.int IntKind.i64 ↑f], workV (↑l) (↑M) (↑s) (↑f) mb, Value.agg #[Value.int IntKind.i64 0, Value.int IntKind.i64 1], Value.agg #[Value.int IntKind.i64 ↑l, Value.int IntKind.i64 ↑M, Value.int IntKind.i64 ↑s, Value.int IntKind.i64 ↑f], Value.func (Fn.func 76) #[] #[Value.pointer (some { block := w2.heap.size + 1 + 1 + 1, off := 0 })], Value.int IntKind.i64 (x.1 : Int), undef, undef, undef, undef, undef, undef, undef, undef, undef, undef, undef, undef, undef, undef, undef, undef, undef, undef, undef, undef, undef, undef, undef, undef, undef], defers := [] }) ?assign ?body ?done ?stop
  case assign =>
    intro lv x W K hK
    gi_wp2
    exact hK
  case body =>
    rintro lv pre x W ⟨⟨v, hv, hrow, hnil⟩, hwk, hbest, hmem, hB⟩ hlt
    have hx := x.2
    have hsn := stOf_snoc l s f pre x
    have hbd : (stOf l s f pre).1.1 ≤ 1125899906842624 ∧ (stOf l s f pre).1.2 ≤ 1125899906842624 ∧ (stOf l s f pre).2.length ≤ (pre.map (·.1)).length ∧ ∀ y, y ∈ (stOf l s f pre).2 → y ∈ pre.map (·.1) := Mis.scanL_bound (by omega) _ (fun y hy => by
      obtain ⟨z, _, rfl⟩ := List.mem_map.1 hy
      have hz := z.2
      have h1 := num_le l s f z.1 hf
      have h2 := tot_le l z.1 s (by omega)
      exact ⟨Nat.le_trans h1 h2, h2⟩)
    rw [List.length_map] at hbd
    obtain ⟨hb1, hb2, hb3, _⟩ := hbd
    have hN1 : numOf l s f x.1 ≤ 1125899906842624 := Nat.le_trans (num_le l s f x.1 hf) (tot_le l x.1 s (by omega))
    have hD1 : denOf l s x.1 ≤ 1125899906842624 := tot_le l x.1 s (by omega)
    have C61 := Lib.hid (show ∀ (mb : Nat) (w : World), Memo w mb → Calls Try.prog 61 #[workV l M s f mb, .int .i64 (x.1 : Nat), .agg #[.func (.func 53) #[] #[]]] w (fun e w' => e = .returned (fracV (numOf l s f x.1 : Nat) (denOf l s x.1 : Nat)) ∧ Memo w' mb ∧ w.grownBy w' (some mb)) from says_point M l x.1 s f (by omega) hs hf)
    generalize hN : numOf l s f x.1 = N at *
    generalize hD : denOf l s x.1 = D at *
    have HN := Lib.hid hN
    have HD := Lib.hid hD
    have HX := Lib.hid hsn
    clear hN hD hsn
    generalize stOf l s f pre = st at *
    obtain ⟨⟨b1, b2⟩, o⟩ := st
    simp only [] at *
    have A62 := Lib.hid (fun w => below_any b1 b2 N D w (by omega) (by omega) (by omega) (by omega))
    have hvc := hv.cell
    obtain ⟨k0, k1, k2, k3, k4⟩ := hwk.c5
    have ltw := hwk.lt
    have HV := Lib.hid (show Blk W (w2.heap.size + 1) #[v] 40 from hv)
    have HR := Lib.hid hrow
    have HNI := Lib.hid hnil
    have HW := Lib.hid hwk
    have HBE := Lib.hid hbest
    have HM := Lib.hid hmem
    have HBB := Lib.hid hB
    clear hv hrow hnil hwk hbest hmem hB
    by_cases c1 : lower b1 b2 N D = true
    · rw [c1] at A62
      have hNp : 0 < N := by
        rw [Mis.lower_iff] at c1
        rcases Nat.eq_zero_or_pos N with h | h
        · rw [h] at c1; simp at c1
        · exact h
      have hst : scanStep (numOf l s f) (denOf l s) ((b1, b2), o) x.1 = ((N, D), [x.1]) := by
        rw [← HN.out, ← HD.out]
        exact Mis.scanStep_new (by rw [HN.out, HD.out]; exact c1) (by rw [HN.out]; exact hNp)
      rw [hst] at HX
      have B62 := Lib.hid (fun w => below_any N D N D w (by omega) (by omega) (by omega) (by omega))
      rw [Mis.lower_self] at B62
      have HP := Lib.hid hNp
      have t1 : decide (0 < N) = true := by simp; exact hNp
      clear hst c1 hNp
      gi_wp2_with (first
        | (refine ⟨trivial, ?_⟩; gi_at_call 61; (with_reducible refine (CallsIn.inRound lv (callsIn_wide.2 (C61.out _ _ ?_))).mono ?_); (exact HM.out); rintro e w3 ⟨rfl, hm3, hg3⟩; have d1 := (HBE.out.kept hg3 (by simp; omega)).alloc (.cells #[.int .i64 N, .int .i64 D] 25); have d2 := (HV.out.kept hg3 (by simp; omega)).alloc (.cells #[.int .i64 N, .int .i64 D] 25); have d3 := (HW.out.kept hg3 (by simp; omega)).alloc (.cells #[.int .i64 N, .int .i64 D] 25); obtain ⟨k5, k6, k7, k8⟩ := d1.c2; obtain ⟨k9, k10⟩ := d2.c1; have HBE3 := Lib.hid d1; have HV3 := Lib.hid d2; have HW3 := Lib.hid d3; have HR3 := Lib.hid ((HR.out.kept hg3 (row_ne_memo HR.out HM.out)).alloc (.cells #[.int .i64 N, .int .i64 D] 25)); have HM3 := Lib.hid (hm3.alloc (.cells #[.int .i64 N, .int .i64 D] 25)); have HG3 := Lib.hid hg3; clear hm3 hg3 d1 d2 d3))
      refine ⟨trivial, ?_⟩
      (with_reducible refine (CallsIn.inRound lv (callsIn_wide.2 (A62.out _))).mono ?_)
      rintro e w4 ⟨rfl, hb4⟩
      have e1 := HBE3.out.below hb4 HBE3.out.lt
      have e2 := HV3.out.below hb4 HV3.out.lt
      have e4 := (Blk.new w3 #[.int .i64 N, .int .i64 D] 25).below hb4 (by simp)
      have n34 : w2.heap.size + 1 + 1 < w3.heap.size := by have h1 := HBE.out.lt; have h2 := HG3.out.size; omega
      have n35 : w3.heap.size < w4.heap.size := e4.lt
      have e5 := ((e1.set 0 (.int .i64 N)).set 1 (.int .i64 D)).other (a := ⟨w2.heap.size + 1, 0, none⟩) (by simp) (.slice none 0 0)
      have e6 := (((e2.other (a := ⟨w2.heap.size + 1 + 1, 0, none⟩) (by simp) (.int .i64 N)).other (a := ⟨w2.heap.size + 1 + 1, 1, none⟩) (by simp) (.int .i64 D))).set 0 (.slice none 0 0)
      have e7 := (((e4.other (a := ⟨w2.heap.size + 1 + 1, 0, none⟩) (by simp; omega) (.int .i64 N)).other (a := ⟨w2.heap.size + 1 + 1, 1, none⟩) (by simp; omega) (.int .i64 D))).other (a := ⟨w2.heap.size + 1, 0, none⟩) (by simp; omega) (.slice none 0 0)
      have e5' : Blk ((((w4.setCell ⟨w2.heap.size + 1 + 1, 0, none⟩ (.int .i64 N)).setCell ⟨w2.heap.size + 1 + 1, 1, none⟩ (.int .i64 D)).setCell ⟨w2.heap.size + 1, 0, none⟩ (.slice none 0 0))) (w2.heap.size + 1 + 1) #[.int .i64 N, .int .i64 D] 25 := e5
      have e6' : Blk ((((w4.setCell ⟨w2.heap.size + 1 + 1, 0, none⟩ (.int .i64 N)).setCell ⟨w2.heap.size + 1 + 1, 1, none⟩ (.int .i64 D)).setCell ⟨w2.heap.size + 1, 0, none⟩ (.slice none 0 0))) (w2.heap.size + 1) #[.slice none 0 0] 40 := e6
      obtain ⟨a5, a6, a7, a8⟩ := e1.c2
      obtain ⟨a9, a10⟩ := e2.c1
      obtain ⟨b5, b6, b7, b8⟩ := e4.c2
      obtain ⟨p5, p6, p7, p8⟩ := e5'.c2
      obtain ⟨p9, p10⟩ := e6'.c1
      obtain ⟨q5, q6, q7, q8⟩ := e7.c2
      have HB4 := Lib.hid hb4
      have HE5 := Lib.hid e5'
      have HE6 := Lib.hid e6'
      have HE7 := Lib.hid e7
      have HM4 := Lib.hid (HM3.out.below hb4 HM3.out.lt)
      clear e1 e2 e4 e5 e5' e6 e6' e7 hb4
      have hn5 : w.heap.size ≤ w4.heap.size := by omega
      have NN := Lib.hid (show ∀ W : World, W.ownsRow w.heap.size 3 1 (.slice none 0 0) 0 [] from fun W => World.ownsRow_nil W _ _ _)
      gi_wp2_with fail
      refine ⟨trivial, ?_⟩
      (with_reducible refine (CallsIn.inRound lv (callsIn_wide.2 (B62.out _))).mono ?_)
      rintro e w6 ⟨rfl, hb6⟩
      have f5 := HE5.out.below hb6 HE5.out.lt
      have f6 := HE6.out.below hb6 HE6.out.lt
      obtain ⟨r9, r10⟩ := f6.c1
      have HF5 := Lib.hid f5
      have HF6 := Lib.hid f6
      have s6 : w.heap.size ≤ w6.heap.size := by have := hb6.size; simp [World.setCell] at this; omega
      have HB6 := Lib.hid hb6
      clear f5 f6 hb6
      gi_wp2_with (gi_at_builtin; refine wpListIn_append_own _ rfl _ _ 40 rfl w.heap.size 3 i0 (.int .i64 0) 1 8 Try.underlying40 hi hz0 hz1 hz2 rfl (by decide) _ _ _ rfl ((NN.out w6).alloc _) ⟨w6.heap.size, 0, none⟩ 1 1 [.int .i64 (x.1 : Nat)] rfl rfl (cell_one_new _ _ _) (by simp [Value.oneCell']) (by unfold maxLen; omega) (by omega) (by simp; omega) ?_; intro v' w7 hown' hgrow _; obtain ⟨g', cap', rfl⟩ := ownsRow_succ hown'; obtain ⟨hv1, hv2, hr2, hk2, hb2⟩ := Boxed.appended HF6.out (by decide) (NN.out w6) s6 (by omega) hown' hgrow; have hc1 := hv1.cell; have hf1 := hv1.frozen)
      have hmB : mb < W0.heap.size := by omega
      have hle3 : w.heap.size ≤ w3.heap.size := by omega
      refine ⟨?_, trivial, ⟨_, hv2, by rw [HX.out]; exact hr2, by rw [HX.out]; simp⟩, ?_, ?_, ?_, ?_⟩
      · exact ((((((keeps_row HG3.out hmB).trans ((KeepsOthers.alloc _ _).from _)).trans (keeps_below HB4.out)).trans ((KeepsOthers.setCell _ _ _).from _)).trans ((KeepsOthers.setCell _ _ _).from _)).trans ((KeepsOthers.setCell _ _ _).from _)).trans ((keeps_below HB6.out).trans (hk2.from _))
      · have g1 := ((((HW3.out.below HB4.out HW3.out.lt).other (a := ⟨w2.heap.size + 1 + 1, 0, none⟩) (by simp; omega) (.int .i64 N)).other (a := ⟨w2.heap.size + 1 + 1, 1, none⟩) (by simp; omega) (.int .i64 D))).other (a := ⟨w2.heap.size + 1, 0, none⟩) (by simp) (.slice none 0 0)
        exact (g1.below HB6.out g1.lt).app (by decide) (NN.out w6) hgrow (by omega)
      · rw [HX.out]
        exact HF5.out.app (by decide) (NN.out w6) hgrow (by omega)
      · have g1 := ((HM4.out.setCell (a := ⟨w2.heap.size + 1 + 1, 0, none⟩) (by simp; omega) (.int .i64 N)).setCell (a := ⟨w2.heap.size + 1 + 1, 1, none⟩) (by simp; omega) (.int .i64 D)).setCell (a := ⟨w2.heap.size + 1, 0, none⟩) (by simp; omega) (.slice none 0 0)
        exact (g1.below HB6.out g1.lt).app (NN.out w6) hgrow (by omega)
      · have g0 : Below w.heap.size w w3 := HBB.out.grown HG3.out HBB.out.size (fun j e => by cases e; omega)
        have g1 : Below w.heap.size w w4 := (g0.alloc hle3 _).trans (HB4.out.mono (by simp; omega))
        have g2 := ((g1.setCell (p := ⟨w2.heap.size + 1 + 1, 0, none⟩) (by simp; omega) (.int .i64 N)).setCell (p := ⟨w2.heap.size + 1 + 1, 1, none⟩) (by simp; omega) (.int .i64 D)).setCell (p := ⟨w2.heap.size + 1, 0, none⟩) (by simp; omega) (.slice none 0 0)
        exact (g2.trans (HB6.out.mono g2.size)).trans hb2
    · have c1' : lower b1 b2 N D = false := by simpa using c1
      rw [c1'] at A62
      by_cases hN0 : N = 0
      · have hst : scanStep (numOf l s f) (denOf l s) ((b1, b2), o) x.1 = ((b1, b2), o) := by
          exact Mis.scanStep_none (by rw [HN.out, HD.out]; exact c1') (by rw [HN.out]; exact hN0)
        rw [hst] at HX
        have t1 : decide (0 < N) = false := by simp; exact hN0
        clear hst c1 c1' hN0
        gi_wp2_with (first
          | (refine ⟨trivial, ?_⟩; gi_at_call 61; (with_reducible refine (CallsIn.inRound lv (callsIn_wide.2 (C61.out _ _ ?_))).mono ?_); (exact HM.out); rintro e w3 ⟨rfl, hm3, hg3⟩; have d1 := (HBE.out.kept hg3 (by simp; omega)).alloc (.cells #[.int .i64 N, .int .i64 D] 25); have d2 := (HV.out.kept hg3 (by simp; omega)).alloc (.cells #[.int .i64 N, .int .i64 D] 25); have d3 := (HW.out.kept hg3 (by simp; omega)).alloc (.cells #[.int .i64 N, .int .i64 D] 25); obtain ⟨k5, k6, k7, k8⟩ := d1.c2; obtain ⟨k9, k10⟩ := d2.c1; have HBE3 := Lib.hid d1; have HV3 := Lib.hid d2; have HW3 := Lib.hid d3; have HR3 := Lib.hid ((HR.out.kept hg3 (row_ne_memo HR.out HM.out)).alloc (.cells #[.int .i64 N, .int .i64 D] 25)); have HM3 := Lib.hid (hm3.alloc (.cells #[.int .i64 N, .int .i64 D] 25)); have HG3 := Lib.hid hg3; clear hm3 hg3 d1 d2 d3))
        refine ⟨trivial, ?_⟩
        (with_reducible refine (CallsIn.inRound lv (callsIn_wide.2 (A62.out _))).mono ?_)
        rintro e w4 ⟨rfl, hb4⟩
        have e1 := HBE3.out.below hb4 HBE3.out.lt
        have e2 := HV3.out.below hb4 HV3.out.lt
        have e4 := (Blk.new w3 #[.int .i64 N, .int .i64 D] 25).below hb4 (by simp)
        obtain ⟨b5, b6, b7, b8⟩ := e4.c2
        have HB4 := Lib.hid hb4
        have E1 := Lib.hid e1
        have E2 := Lib.hid e2
        clear e1 e2 e4 hb4
        gi_wp2_with fail
        refine ⟨trivial, ?_⟩
        gi_wp2_with fail
        have hmB : mb < W0.heap.size := by omega
        have hle3 : w.heap.size ≤ w3.heap.size := by have h1 := HBB.out.size; have h2 := HG3.out.size; omega
        refine ⟨?_, trivial, ⟨v, E2.out, by rw [HX.out]; exact row_below HR3.out HB4.out, by rw [HX.out]; exact HNI.out⟩, ?_, ?_, ?_, ?_⟩
        · exact ((keeps_row HG3.out hmB).trans ((KeepsOthers.alloc _ _).from _)).trans (keeps_below HB4.out)
        · exact HW3.out.below HB4.out HW3.out.lt
        · rw [HX.out]; exact E1.out
        · exact HM3.out.below HB4.out HM3.out.lt
        · have g0 : Below w.heap.size w w3 := HBB.out.grown HG3.out HBB.out.size (fun j e => by cases e; omega)
          exact (g0.alloc hle3 _).trans (HB4.out.mono (by simp; omega))
      · have B62 := Lib.hid (fun w => below_any N D b1 b2 w (by omega) (by omega) (by omega) (by omega))
        have t1 : decide (0 < N) = true := by simp; omega
        have hNp : 0 < N := by omega
        cases c2 : lower N D b1 b2 with
        | true =>
          have hst : scanStep (numOf l s f) (denOf l s) ((b1, b2), o) x.1 = ((b1, b2), o) := by
            exact Mis.scanStep_less (by rw [HN.out, HD.out]; exact c1') (by rw [HN.out, HD.out]; exact c2)
          rw [hst] at HX
          rw [c2] at B62
          clear hst c1 c1' c2 hN0 hNp
          gi_wp2_with (first
            | (refine ⟨trivial, ?_⟩; gi_at_call 61; (with_reducible refine (CallsIn.inRound lv (callsIn_wide.2 (C61.out _ _ ?_))).mono ?_); (exact HM.out); rintro e w3 ⟨rfl, hm3, hg3⟩; have d1 := (HBE.out.kept hg3 (by simp; omega)).alloc (.cells #[.int .i64 N, .int .i64 D] 25); have d2 := (HV.out.kept hg3 (by simp; omega)).alloc (.cells #[.int .i64 N, .int .i64 D] 25); have d3 := (HW.out.kept hg3 (by simp; omega)).alloc (.cells #[.int .i64 N, .int .i64 D] 25); obtain ⟨k5, k6, k7, k8⟩ := d1.c2; obtain ⟨k9, k10⟩ := d2.c1; have HBE3 := Lib.hid d1; have HV3 := Lib.hid d2; have HW3 := Lib.hid d3; have HR3 := Lib.hid ((HR.out.kept hg3 (row_ne_memo HR.out HM.out)).alloc (.cells #[.int .i64 N, .int .i64 D] 25)); have HM3 := Lib.hid (hm3.alloc (.cells #[.int .i64 N, .int .i64 D] 25)); have HG3 := Lib.hid hg3; clear hm3 hg3 d1 d2 d3))
          refine ⟨trivial, ?_⟩
          (with_reducible refine (CallsIn.inRound lv (callsIn_wide.2 (A62.out _))).mono ?_)
          rintro e w4 ⟨rfl, hb4⟩
          have e1 := HBE3.out.below hb4 HBE3.out.lt
          have e2 := HV3.out.below hb4 HV3.out.lt
          have e4 := (Blk.new w3 #[.int .i64 N, .int .i64 D] 25).below hb4 (by simp)
          obtain ⟨a5, a6, a7, a8⟩ := e1.c2
          obtain ⟨b5, b6, b7, b8⟩ := e4.c2
          have HB4 := Lib.hid hb4
          have E1 := Lib.hid e1
          have E2 := Lib.hid e2
          clear e1 e2 e4 hb4
          gi_wp2_with fail
          refine ⟨trivial, ?_⟩
          (with_reducible refine (CallsIn.inRound lv (callsIn_wide.2 (B62.out _))).mono ?_)
          rintro e w6 ⟨rfl, hb6⟩
          have HB6 := Lib.hid hb6
          clear hb6
          gi_wp2_with fail
          have hmB : mb < W0.heap.size := by omega
          have hle3 : w.heap.size ≤ w3.heap.size := by have h1 := HBB.out.size; have h2 := HG3.out.size; omega
          refine ⟨?_, trivial, ⟨v, E2.out.below HB6.out E2.out.lt, by rw [HX.out]; exact row_below (row_below HR3.out HB4.out) HB6.out, by rw [HX.out]; exact HNI.out⟩, ?_, ?_, ?_, ?_⟩
          · exact (((keeps_row HG3.out hmB).trans ((KeepsOthers.alloc _ _).from _)).trans (keeps_below HB4.out)).trans (keeps_below HB6.out)
          · have g1 := HW3.out.below HB4.out HW3.out.lt
            exact g1.below HB6.out g1.lt
          · rw [HX.out]; exact E1.out.below HB6.out E1.out.lt
          · have g1 := HM3.out.below HB4.out HM3.out.lt
            exact g1.below HB6.out g1.lt
          · have g0 : Below w.heap.size w w3 := HBB.out.grown HG3.out HBB.out.size (fun j e => by cases e; omega)
            have g1 := (g0.alloc hle3 (.cells #[.int .i64 N, .int .i64 D] 25)).trans (HB4.out.mono (by simp; omega))
            exact g1.trans (HB6.out.mono g1.size)
        | false =>
          have hst : scanStep (numOf l s f) (denOf l s) ((b1, b2), o) x.1 = ((b1, b2), o ++ [x.1]) := by
            exact Mis.scanStep_same (s := ((b1, b2), o)) (by rw [HN.out, HD.out]; exact c1') (by rw [HN.out]; exact hNp) (by rw [HN.out, HD.out]; exact c2)
          rw [hst] at HX
          rw [c2] at B62
          clear hst c1 c1' c2 hN0 hNp
          gi_wp2_with (first
            | (refine ⟨trivial, ?_⟩; gi_at_call 61; (with_reducible refine (CallsIn.inRound lv (callsIn_wide.2 (C61.out _ _ ?_))).mono ?_); (exact HM.out); rintro e w3 ⟨rfl, hm3, hg3⟩; have d1 := (HBE.out.kept hg3 (by simp; omega)).alloc (.cells #[.int .i64 N, .int .i64 D] 25); have d2 := (HV.out.kept hg3 (by simp; omega)).alloc (.cells #[.int .i64 N, .int .i64 D] 25); have d3 := (HW.out.kept hg3 (by simp; omega)).alloc (.cells #[.int .i64 N, .int .i64 D] 25); obtain ⟨k5, k6, k7, k8⟩ := d1.c2; obtain ⟨k9, k10⟩ := d2.c1; have HBE3 := Lib.hid d1; have HV3 := Lib.hid d2; have HW3 := Lib.hid d3; have HR3 := Lib.hid ((HR.out.kept hg3 (row_ne_memo HR.out HM.out)).alloc (.cells #[.int .i64 N, .int .i64 D] 25)); have HM3 := Lib.hid (hm3.alloc (.cells #[.int .i64 N, .int .i64 D] 25)); have HG3 := Lib.hid hg3; clear hm3 hg3 d1 d2 d3))
          refine ⟨trivial, ?_⟩
          (with_reducible refine (CallsIn.inRound lv (callsIn_wide.2 (A62.out _))).mono ?_)
          rintro e w4 ⟨rfl, hb4⟩
          have n34 : w2.heap.size + 1 + 1 < w3.heap.size := by have h1 := HBE.out.lt; have h2 := HG3.out.size; omega
          have e1 := HBE3.out.below hb4 HBE3.out.lt
          have e2 := HV3.out.below hb4 HV3.out.lt
          have e4 := (Blk.new w3 #[.int .i64 N, .int .i64 D] 25).below hb4 (by simp)
          obtain ⟨a5, a6, a7, a8⟩ := e1.c2
          obtain ⟨b5, b6, b7, b8⟩ := e4.c2
          have s4 := hb4.size
          rw [World.size_alloc] at s4
          have HB4 := Lib.hid hb4
          have E1 := Lib.hid e1
          have E2 := Lib.hid e2
          clear e1 e2 e4 hb4
          gi_wp2_with fail
          refine ⟨trivial, ?_⟩
          (with_reducible refine (CallsIn.inRound lv (callsIn_wide.2 (B62.out _))).mono ?_)
          rintro e w6 ⟨rfl, hb6⟩
          have e2 := E2.out.below hb6 E2.out.lt
          obtain ⟨r9, r10⟩ := e2.c1
          have E6 := Lib.hid e2
          have R6 := Lib.hid (row_below (row_below HR3.out HB4.out) hb6)
          have s6 := hb6.size
          have HB6 := Lib.hid hb6
          clear e2 hb6
          have hle6 : w.heap.size ≤ w6.heap.size := by omega
          gi_wp2_with (gi_at_builtin; refine wpListIn_append_own _ rfl _ _ 40 rfl w.heap.size 3 i0 (.int .i64 0) 1 8 Try.underlying40 hi hz0 hz1 hz2 rfl (by decide) _ _ _ rfl (R6.out.alloc _) ⟨w6.heap.size, 0, none⟩ 1 1 [.int .i64 (x.1 : Nat)] rfl rfl (cell_one_new _ _ _) (by simp [Value.oneCell']) (by unfold maxLen; omega) (by omega) (by simp; omega) ?_; intro v' w7 hown' hgrow _; obtain ⟨g', cap', rfl⟩ := ownsRow_succ hown'; obtain ⟨hv1, hv2, hr2, hk2, hb2⟩ := Boxed.appended E6.out (by decide) R6.out hle6 (by omega) hown' hgrow; have hc1 := hv1.cell; have hf1 := hv1.frozen)
          have hmB : mb < W0.heap.size := by omega
          have hle3 : w.heap.size ≤ w3.heap.size := by omega
          refine ⟨?_, trivial, ⟨_, hv2, by rw [HX.out]; simpa [intsV] using hr2, by rw [HX.out]; simp⟩, ?_, ?_, ?_, ?_⟩
          · exact (((keeps_row HG3.out hmB).trans ((KeepsOthers.alloc _ _).from _)).trans (keeps_below HB4.out)).trans ((keeps_below HB6.out).trans (hk2.from _))
          · have g1 := HW3.out.below HB4.out HW3.out.lt
            exact (g1.below HB6.out g1.lt).app (by decide) R6.out hgrow (by omega)
          · rw [HX.out]
            exact (E1.out.below HB6.out E1.out.lt).app (by decide) R6.out hgrow (by omega)
          · have g1 := HM3.out.below HB4.out HM3.out.lt
            exact (g1.below HB6.out g1.lt).app R6.out hgrow (by omega)
          · have g0 : Below w.heap.size w w3 := HBB.out.grown HG3.out HBB.out.size (fun j e => by cases e; omega)
            have g1 := (g0.alloc hle3 (.cells #[.int .i64 N, .int .i64 D] 25)).trans (HB4.out.mono (by simp; omega))
            exact (g1.trans (HB6.out.mono g1.size)).trans hb2
  case done =>
    rintro D ys W hD hys ⟨⟨v, hv, hrow, hnil⟩, hwk, hbest, hmem, hB⟩ hK
    have hO : (stOf l s f ys).2 = dueOf l M s f := by
      unfold stOf dueOf
      rw [hys, Mis.scanL_range]
      exact Mis.scan_likely _ _ (fun u => Mis.tot_pos l u s hs) (M + 1)
    have hL : (dueOf l M s f).length ≤ M + 1 := by
      unfold dueOf
      exact Nat.le_trans (List.length_filter_le _ _) (by simp)
    rw [hO] at hrow hnil
    generalize hdue : dueOf l M s f = due at *
    clear hwk hbest hmem hO
    by_cases hd : due = []
    · obtain rfl := hnil.2 hd
      have hc := hv.cell
      have HR := Lib.hid hrow
      have HB := Lib.hid hB
      have HD := Lib.hid hdue
      have HE := Lib.hid hd
      clear hrow hB hnil hdue hd hys
      gi_wp2
      refine ⟨by simp, .inl ⟨_, _, rfl, run_takeDeferred hK, ?_⟩⟩
      have hB' := fun o' => belowK_b (w := W0) (n₀ := w.heap.size) (by omega) W D _ o' hD hK rfl rfl
      refine ⟨_, results_tmp2 rfl _ _ _, .slice none 0 0, 9, rfl, fun _ => ⟨rfl, rfl⟩, fun h => absurd (HD.out.trans HE.out) h, ?_, HB.out.trans (hB' _)⟩
      rw [HD.out]
      exact ownsRow_putObj HR.out _ hK rfl
    · obtain ⟨x0, o0, rfl⟩ : ∃ x0 o0, due = x0 :: o0 := by
        cases due with
        | nil => exact absurd rfl hd
        | cons a b => exact ⟨a, b, rfl⟩
      obtain ⟨g', cap', rfl⟩ := ownsRow_succ hrow
      have hc := hv.cell
      have HR := Lib.hid hrow
      have HB := Lib.hid hB
      have HD := Lib.hid hdue
      have t1 : (((o0.length + 1 : Nat) : Int) == 0) = false := by simp; omega
      clear hrow hB hnil hdue hd hys
      gi_wp2
      refine ⟨by simp, .inl ⟨_, _, rfl, run_takeDeferred hK, ?_⟩⟩
      have hB' := fun o' => belowK_b (w := W0) (n₀ := w.heap.size) (by omega) W D _ o' hD hK rfl rfl
      refine ⟨_, results_tmp2 rfl _ _ _, _, 0, rfl, fun h => ?_, fun _ => rfl, ?_, HB.out.trans (hB' _)⟩
      · rw [HD.out] at h; cases h
      · rw [HD.out]
        exact ownsRow_putObj HR.out _ hK rfl
  case stop =>
    rintro D c pre W _ _ h _
    exact h.elim
end Go.Proofs.Ytkfobnhnehbkeaa
