/- Texts of package name, for this seat. -/
import Derived.Test.YtkdflgaahhnigaaC3
import Derived.Test.YtkdflgaahhnigaaC5
set_option linter.unusedVariables false
set_option linter.unusedSimpArgs false
namespace Go.Proofs.Ytkdflgaahhnigaa
open Go.RowKit Go.Shelf
attribute [local go_sem] Oper.semAt_some

theorem KZ.put1 {w W : World} {bs : List (Nat × Array Value × TypeId)} {b : Nat} {t : TypeId} {x x' : Value} (h : KZ w bs b #[x] t W) : KZ w bs b #[x'] t (W.setCell ⟨b, 0, none⟩ x') := h.set 0 x'
theorem KZ.put1D {w W : World} {bs : List (Nat × Array Value × TypeId)} {b : Nat} {t : TypeId} {x x' : Value} (h : KZ w bs b #[x] t W) : KZ w bs b #[x'] t (W.drew.setCell ⟨b, 0, none⟩ x') := h.drew.put1
theorem KZ.keep1 {w W : World} {bs : List (Nat × Array Value × TypeId)} {b : Nat} {t : TypeId} {x x' : Value} (h : KZ w bs b #[x] t W) : KS w bs (W.setCell ⟨b, 0, none⟩ x') := (h.set 0 x').ks
theorem minimum_any (b c : Nat) (p q : Nat) (w : World) (h0 : w.cell? ⟨b, 0, none⟩ = some (.int .i64 (p : Int))) (h1 : w.cell? ⟨b, 1, none⟩ = some (.int .i64 (q : Int))) :
    Calls Try.prog 44 #[.slice (some ⟨b, 0, none⟩) 2 c] w fun e w' => e = .returned (.int .i64 ((min p q : Nat) : Int)) ∧ w = w' := by
  have C := Lib.hid (Try.slices_Min_int b 0 2 c [(p : Int), (q : Int)] w (by omega) (by simp) (by omega) (fun j hj => by
    match j, hj with
    | 0, _ => simpa using h0
    | 1, _ => simpa using h1))
  have e : Lib.minOf ([(p : Int), (q : Int)].take 2) = ((min p q : Nat) : Int) := by
    unfold Lib.minOf
    show min (min (p : Int) p) q = _
    omega
  rw [e] at C
  clear e h0 h1
  generalize ((min p q : Nat) : Int) = r at *
  go_enter Try.func44, Try.ntmps44
  go_wp2_with (go_at_call 64; (with_reducible refine C.out.mono ?_); rintro e w' ⟨rfl, rfl⟩)
  go_ret
  exact ⟨rfl, rfl⟩
abbrev FV (s : ByteArray) (al ot sk ss db : Nat) (x y : ByteArray) (sn : UInt8 → UInt8) : Nat → Nat → Nat := csD s al ot sk ss db x y sn
/-- what the closure captures -/
structure Caps (W : World) (Bd Bf d : Nat) (a : Option Addr) (n c : Nat) (s : ByteArray) (al ot sk ss db : Nat) (x y : ByteArray) (sn : UInt8 → UInt8) (mb : Nat) : Prop where
  memo : Memo W mb (FV s al ot sk ss db x y sn)
  duel : DuelB W d a n c s al ot sk ss db x y sn mb
  bd : Blk W Bd #[.pointer (some ⟨d, 0, none⟩)] 49
  bf : Blk W Bf #[.func (.func 43) #[] #[.pointer (some ⟨Bd, 0, none⟩), .pointer (some ⟨Bf, 0, none⟩)]] 51
theorem Blk.ne_memo {W : World} {b mb : Nat} {cs : Array Value} {t : TypeId} {f : Nat → Nat → Nat} (h : Blk W b cs t) (hm : Memo W mb f) : b ≠ mb := by
  rintro rfl
  obtain ⟨es, clock, hb, _⟩ := hm
  have h' : W.heap[b]? = _ := h
  rw [hb] at h'; cases h'
section
variable {W W' : World} {Bd Bf d : Nat} {a : Option Addr} {n c : Nat} {s : ByteArray} {al ot sk ss db : Nat} {x y : ByteArray} {sn : UInt8 → UInt8} {mb : Nat}
theorem DuelB.ne_memo {f : Nat → Nat → Nat} (h : DuelB W d a n c s al ot sk ss db x y sn mb) (hm : Memo W mb f) : d ≠ mb := by
  rintro rfl
  obtain ⟨es, clock, hb, _⟩ := hm
  obtain ⟨ob, h1, h2⟩ := h.cells
  rw [hb] at h1; cases h1; cases h2
theorem Caps.after (h : Caps W Bd Bf d a n c s al ot sk ss db x y sn mb) (hm : Memo W' mb (FV s al ot sk ss db x y sn)) (hg : W.grownBy W' (some mb)) : Caps W' Bd Bf d a n c s al ot sk ss db x y sn mb :=
  ⟨hm, h.duel.kept (E := fun k => k = mb) (KpE.grown hg (fun r e => (by cases e; rfl))) (h.duel.ne_memo h.memo), h.bd.kept hg (by have := h.bd.ne_memo h.memo; simpa using this), h.bf.kept hg (by have := h.bf.ne_memo h.memo; simpa using this)⟩
theorem Caps.below (h : Caps W Bd Bf d a n c s al ot sk ss db x y sn mb) (hb : Below W.heap.size W W') : Caps W' Bd Bf d a n c s al ot sk ss db x y sn mb := h.after (h.memo.below hb h.memo.lt) (grownBy_below hb _)
end
theorem Memo.lookAll {w : World} {b : Nat} {f : Nat → Nat → Nat} (h : Memo w b f) (n k : Nat) (hn : n ≤ 60) (hk : k ≤ 60) :
    (∀ W, W.heap[b]? = w.heap[b]? → (Instr.lookup 81 (.map (some b)) (cellV n k) true).run Try.prog W = .ok (.tuple #[.int .i64 0, .bool false]) W) ∨
    (∀ W, W.heap[b]? = w.heap[b]? → (Instr.lookup 81 (.map (some b)) (cellV n k) true).run Try.prog W = .ok (.tuple #[.int .i64 (f n k : Nat), .bool true]) W) := by
  have key : ∀ W, W.heap[b]? = w.heap[b]? → Memo W b f := fun W e => by
    obtain ⟨es, clock, hb, F, hv⟩ := h
    exact ⟨es, clock, e.trans hb, F, hv⟩
  obtain ⟨es, clock, hb, F, hv⟩ := h
  obtain ⟨kl, hkl⟩ := key_cell n k (wf64 (by omega) (by omega)) (wf64 (by omega) (by omega))
  by_cases hex : ∃ e0, e0 ∈ es.toList ∧ e0.key = cellV n k
  · refine .inr fun W hW => ?_
    rcases Maps.fit_look (w := W) true law98 Try.underlying81 (Try.zeroValue3 _) (hW.trans hb) F hkl with ⟨_, h2, _⟩ | ⟨e0, y, hm, hkey, h1, _, _, _⟩
    · obtain ⟨e0, hm, hk⟩ := hex
      exact absurd hk (h2 e0 hm)
    · obtain ⟨n', k', _, _, h3, h4⟩ := hv e0 hm
      rw [hkey] at h3
      simp only [cellV, Value.agg.injEq, Array.mk.injEq, List.cons.injEq, Value.int.injEq, true_and, and_true] at h3
      obtain ⟨ha, hb'⟩ := h3
      obtain rfl : n = n' := by omega
      obtain rfl : k = k' := by omega
      rw [h4] at h1
      exact h1
  · refine .inl fun W hW => ?_
    rcases Maps.fit_look (w := W) true law98 Try.underlying81 (Try.zeroValue3 _) (hW.trans hb) F hkl with ⟨h1, _, _⟩ | ⟨e0, y, hm, hkey, h1, _, _, _⟩
    · exact h1
    · exact absurd ⟨e0, hm, hkey⟩ hex
def FromPost (v mb : Nat) (f : Nat → Nat → Nat) (w : World) (e : Ending) (w' : World) : Prop := e = .returned (.int .i64 (v : Nat)) ∧ Memo w' mb f ∧ w.grownBy w' (some mb)
set_option maxRecDepth 100000 in
set_option maxHeartbeats 1000000 in
theorem from_over (Bd Bf d i j : Nat) (a : Option Addr) (n c : Nat) (s : ByteArray) (al ot sk ss db : Nat) (x y : ByteArray) (sn : UInt8 → UInt8) (mb : Nat) (w : World) (hc : Caps w Bd Bf d a n c s al ot sk ss db x y sn mb) (hi : i ≤ x.size) (hj : j ≤ y.size) (h : i = x.size ∧ j = y.size) : Calls Try.prog 43 #[cellV i j, .pointer (some ⟨Bd, 0, none⟩), .pointer (some ⟨Bf, 0, none⟩)] w (FromPost 0 mb (FV s al ot sk ss db x y sn) w) := by
  have CO := Lib.hid (fun W (hW : Below w.heap.size w W) => over_yes d a n c s al ot sk ss db x y sn mb W (hc.below hW).duel.duel i j h.1 h.2)
  unfold FromPost
  have b1 := (hc.below ((Below.refl _ w).alloc (Nat.le_refl _) (.cells #[.int .i64 i, .int .i64 j] 53))).bd.c1.1
  have l1 := hc.bd.lt
  have HC := Lib.hid hc
  clear hc h hi hj
  go_enter Try.func43, Try.ntmps43
  go_wp2_with (go_at_call 25; (with_reducible refine (CO.out _ ((Below.refl _ _).alloc (Nat.le_refl _) _)).mono ?_); rintro e w1 ⟨rfl, hb⟩; have HB := Lib.hid (((Below.refl _ w).alloc (Nat.le_refl _) _).trans (hb.mono (by simp))); clear hb)
  go_ret
  exact ⟨rfl, HC.out.memo.below HB.out HC.out.memo.lt, grownBy_below HB.out _⟩
set_option maxRecDepth 100000 in
set_option maxHeartbeats 8000000 in
theorem from_known (Bd Bf d i j : Nat) (a : Option Addr) (n c : Nat) (s : ByteArray) (al ot sk ss db : Nat) (x y : ByteArray) (sn : UInt8 → UInt8) (mb : Nat) (w : World) (hc : Caps w Bd Bf d a n c s al ot sk ss db x y sn mb) (hi : i ≤ x.size) (hj : j ≤ y.size) (v : Nat) (hno : i < x.size ∨ j < y.size) (hl : ∀ W, W.heap[mb]? = w.heap[mb]? → (Instr.lookup 81 (.map (some mb)) (cellV i j) true).run Try.prog W = .ok (.tuple #[.int .i64 (v : Nat), .bool true]) W) :
    Calls Try.prog 43 #[cellV i j, .pointer (some ⟨Bd, 0, none⟩), .pointer (some ⟨Bf, 0, none⟩)] w (FromPost v mb (FV s al ot sk ss db x y sn) w) := by
  have CO := Lib.hid (fun W (hW : Below w.heap.size w W) => over_any d a n c s al ot sk ss db x y sn mb W (hc.below hW).duel.duel i j hi hj)
  rw [show decide (i = x.size ∧ j = y.size) = false by simp only [decide_eq_false_iff_not]; omega] at CO
  have b1 := (hc.below ((Below.refl _ w).alloc (Nat.le_refl _) (.cells #[.int .i64 i, .int .i64 j] 53))).bd.c1.1
  have l1 := hc.bd.lt
  have ld := hc.duel.duel.lt
  have HC := Lib.hid hc
  have HL := Lib.hid hl
  have HI := Lib.hid (And.intro hi hj)
  have HNO := Lib.hid hno
  have hs0 := (KS.start w).new #[.int .i64 i, .int .i64 j] 53
  have S0 := Lib.hid hs0
  clear hc hl hi hj hno hs0
  go_enter Try.func43, Try.ntmps43
  go_wp2_with (go_at_call 25; (with_reducible refine (CO.out _ ((Below.refl _ _).alloc (Nat.le_refl _) _)).mono ?_); rintro e w1 ⟨rfl, hb⟩; have S1 := Lib.hid (S0.out.below hb); clear hb)
  obtain ⟨BS, hBS⟩ : ∃ BS : List (Nat × Array Value × TypeId), BS = [(w.heap.size, #[.int .i64 i, .int .i64 j], 53)] := ⟨_, rfl⟩
  have hS : KS w BS w1 := by rw [hBS]; exact S1.out
  have K0_0 : ∀ W, KS w BS W → W.cell? ⟨w.heap.size, 0, none⟩ = some (.int .i64 i) := fun W h => by rw [hBS] at h; exact (h.blkAt 0 rfl).cell 0
  have K0_1 : ∀ W, KS w BS W → W.cell? ⟨w.heap.size, 1, none⟩ = some (.int .i64 j) := fun W h => by rw [hBS] at h; exact (h.blkAt 0 rfl).cell 1
  have hBd : ∀ W, KS w BS W → W.cell? ⟨Bd, 0, none⟩ = some (.pointer (some ⟨d, 0, none⟩)) := fun W h => ((HC.out.below h.bel).bd.cell 0)
  have hMp : ∀ W, KS w BS W → W.cell? ⟨d, 35, none⟩ = some (.map (some mb)) := fun W h => (HC.out.below h.bel).duel.duel.mp
  have hLk : ∀ W, KS w BS W → (Instr.lookup 81 (.map (some mb)) (.agg #[.int .i64 i, .int .i64 j]) true).run Try.prog W = .ok (.tuple #[.int .i64 (v : Nat), .bool true]) W := fun W h => HL.out W (h.bel.block mb HC.out.memo.lt)
  have KZ0 : ∀ W b, KZ w BS b #[.int .i64 0] 3 W → W.cell? ⟨b, 0, none⟩ = some (.int .i64 0) := fun W b h => h.2.1.cell 0
  have KF0 : ∀ W b, KZ w BS b #[.int .i64 0] 3 W → W.frozen? ⟨b, 0, none⟩ = false := fun W b h => h.f 0
  have HBS := Lib.hid hBS
  clear hBS b1
  refine wp_joinG (ι := Nat) (f := fun aa bb => (((((((((((aa.put (some 13) (.pointer (some ⟨d, 0, none⟩))).put (some 14) (.pointer (some ⟨d, 0, none⟩))).put (some 15) (.pointer (some ⟨d, 35, none⟩))).put (some 16) (.map (some mb))).put (some 17) (.agg #[.int .i64 i, .int .i64 j])).put (some 18) (.tuple #[.int .i64 (v : Nat), .bool true])).put (some 12) (.tuple #[.int .i64 (v : Nat), .bool true])).put (some 19) (.int .i64 (v : Nat))).put (some 20) (.bool true)).put (some 6) (.bool true)).put (some 5) (.pointer (some ⟨bb, 0, none⟩)))) (mid := fun bb W' => KZ w BS bb #[.int .i64 (v : Nat)] 3 W') ?_ ?_
  · go_region_held3 (KS w BS)
      (first | assumption | exact KS.drew (by assumption) | exact KS.alloc (by assumption) _ | exact KS.drew (KS.alloc (by assumption) _) | exact KS.alloc (KS.drew (by assumption)) _ | exact KZ.ks (by assumption) | exact (KZ.new (by assumption) _ _).ks | exact KZ.keep1 (by assumption) | exact (KZ.keep1 (by assumption)).drew | exact (KZ.drew (by assumption)).keep1 | go_keep)
      (first | fail)
    all_goals first | exact ⟨rfl, _, rfl, KZ.new (by assumption) _ _⟩ | exact ⟨rfl, _, rfl, KZ.newD (by assumption) _ _⟩ | exact ⟨rfl, _, rfl, KZ.put1 (by assumption)⟩ | exact ⟨rfl, _, rfl, KZ.put1D (by assumption)⟩ | exact ⟨rfl, _, rfl, (KZ.put1 (by assumption)).drew⟩ | exact ⟨rfl, _, rfl, (KZ.put1D (by assumption)).drew⟩
  intro nb w2 hM
  simp only [Act.put, List.setIfInBounds_toArray, List.set_cons_zero, List.set_cons_succ]
  clear hS KZ0 KF0 K0_0 K0_1 hBd hMp hLk
  have k0 := hM.2.1.c1.1
  have HM := Lib.hid hM
  clear hM
  go_wp2_with fail
  go_ret
  exact ⟨rfl, HC.out.memo.below HM.out.1.bel HC.out.memo.lt, grownBy_below HM.out.1.bel _⟩
def Bnd (s : ByteArray) (al ot sk ss db : Nat) (x y : ByteArray) (sn : UInt8 → UInt8) : Prop := (∀ i j, csD s al ot sk ss db x y sn i j ≤ 2400) ∧ (∀ i j t, t ∈ stL s al ot sk ss db x y sn i j → t.2 ≤ 100) ∧ x.size ≤ 60 ∧ y.size ≤ 60
theorem grownBy_rowAny {w w' w'' : World} {mb : Nat} {row : Option Nat} (h : w.grownBy w' (some mb)) (k : w'.grownBy w'' row) (hr : ∀ r, row = some r → w.heap.size ≤ r) : w.grownBy w'' (some mb) :=
  ⟨k.os.trans h.os, k.tape.trans h.tape, k.output.trans h.output, Nat.le_trans h.size k.size, fun i hi hne => (k.block i (Nat.lt_of_lt_of_le hi h.size) (fun e => by have := hr i e.symm; omega)).trans (h.block i hi hne)⟩
section
variable {W W' : World} {Bd Bf d : Nat} {a : Option Addr} {n c : Nat} {s : ByteArray} {al ot sk ss db : Nat} {x y : ByteArray} {sn : UInt8 → UInt8} {mb : Nat}
theorem Caps.row (h : Caps W Bd Bf d a n c s al ot sk ss db x y sn mb) {row : Option Nat} (hg : W.grownBy W' row) {B : Nat} (hr : ∀ r, row = some r → B ≤ r) (h1 : Bd < B) (h2 : Bf < B) (h3 : d < B) (h4 : mb < B) : Caps W' Bd Bf d a n c s al ot sk ss db x y sn mb :=
  ⟨h.memo.kept hg (fun e => by have := hr _ e.symm; omega), h.duel.kept (E := fun k => B ≤ k) (KpE.grown hg hr) (by omega), h.bd.kept hg (fun e => by have := hr _ e.symm; omega), h.bf.kept hg (fun e => by have := hr _ e.symm; omega)⟩
theorem Caps.set (h : Caps W Bd Bf d a n c s al ot sk ss db x y sn mb) {ad : Addr} (v : Value) (h1 : Bd ≠ ad.block) (h2 : Bf ≠ ad.block) (h3 : d ≠ ad.block) (h4 : mb ≠ ad.block) : Caps (W.setCell ad v) Bd Bf d a n c s al ot sk ss db x y sn mb :=
  ⟨h.memo.setCell h4 v, h.duel.kept (E := fun k => k = ad.block) (KpE.set (E := fun k => k = ad.block) rfl v) h3, h.bd.other h1 v, h.bf.other h2 v⟩
end
/-- what the end of the closure reads -/
def MS (cb nb Bd d i j mb v : Nat) (W : World) : Prop := Blk W nb #[.int .i64 (v : Nat)] 3 ∧ Blk W cb #[.int .i64 i, .int .i64 j] 53 ∧ W.cell? ⟨Bd, 0, none⟩ = some (.pointer (some ⟨d, 0, none⟩)) ∧ W.cell? ⟨d, 35, none⟩ = some (.map (some mb))
theorem step_memo_store {ops : Array Oper} {o : Oper} {a : Act} {w : World} {K : Act → World → Prop} {Q : Exit → Act → World → Prop} {E : Prop}
    (hg : o.guard = none) (m x v : Operand) (hop : o.op = Op.mapUpdate 81 m x v) (b n k : Nat) {f : Nat → Nat → Nat} (hc : f n k ≤ 2400) (hm : a.eval m = .map (some b)) (hmemo : Memo w b f) (hn : n ≤ 60) (hk : k ≤ 60)
    (hx : a.eval x = cellV n k) (hv : a.eval v = .int .i64 (f n k : Nat)) (hK : ∀ w', Memo w' b f → w.grownBy w' (some b) → K (a.put o.dst undef) w') :
    if Region.wanted o (yielded ops a.tmps) = true then Oper.wp Try.prog o a w K Q else E := by
  have hw : Region.wanted o (yielded ops a.tmps) = true := by simp [Region.wanted, hg]
  rw [if_pos hw]
  obtain ⟨w', hrun, r1, r2⟩ := hmemo.store n k (Nat.le_trans hc (by omega)) hn hk
  unfold Oper.wp
  simp [execOp, hop, hm, hx, hv, hrun, Result.andThen]
  exact hK _ r1 r2
/-- what has come so far, the least -/
def accS (s : ByteArray) (al ot sk ss db : Nat) (x y : ByteArray) (sn : UInt8 → UInt8) (i j : Nat) (pre : List (StS s al ot sk ss db x y sn i j)) : Nat :=
  (pre.map (·.1)).foldl (fun v t => min v (t.2 + csD s al ot sk ss db x y sn (Nm.aft (i, j) t.1).1 (Nm.aft (i, j) t.1).2)) 5000
theorem accS_snoc (s : ByteArray) (al ot sk ss db : Nat) (x y : ByteArray) (sn : UInt8 → UInt8) (i j : Nat) (pre : List (StS s al ot sk ss db x y sn i j)) (t : StS s al ot sk ss db x y sn i j) :
    accS s al ot sk ss db x y sn i j (pre ++ [t]) = min (accS s al ot sk ss db x y sn i j pre) (t.1.2 + csD s al ot sk ss db x y sn (Nm.aft (i, j) t.1.1).1 (Nm.aft (i, j) t.1.1).2) := by
  unfold accS; rw [List.map_append, List.foldl_append]; rfl
theorem accS_le (s : ByteArray) (al ot sk ss db : Nat) (x y : ByteArray) (sn : UInt8 → UInt8) (i j : Nat) (pre : List (StS s al ot sk ss db x y sn i j)) : accS s al ot sk ss db x y sn i j pre ≤ 5000 := by
  unfold accS
  have : ∀ (l : List Nm.St) (v : Nat), l.foldl (fun v t => min v (t.2 + csD s al ot sk ss db x y sn (Nm.aft (i, j) t.1).1 (Nm.aft (i, j) t.1).2)) v ≤ v := by
    intro l
    induction l with
    | nil => intro v; exact Nat.le_refl _
    | cons t l ih => intro v; exact Nat.le_trans (ih _) (Nat.min_le_left _ _)
  exact this _ _
theorem after_any (s : ByteArray) (al ot sk ss db : Nat) (x y : ByteArray) (sn : UInt8 → UInt8) (i j : Nat) (t : Nm.St) (ht : t ∈ stL s al ot sk ss db x y sn i j) (hi : i ≤ x.size) (hj : j ≤ y.size) (h60 : x.size ≤ 60) (h60' : y.size ≤ 60) (w : World) :
    Calls Try.prog 27 #[cellV i j, .agg #[.int .i64 t.1.1, .int .i64 t.1.2]] w fun e w' => e = .returned (cellV ((Nm.aft (i, j) t.1).1 : Nat) ((Nm.aft (i, j) t.1).2 : Nat)) ∧ Below w.heap.size w w' := by
  rcases Nm.stepsOf_cases ht with ⟨rfl, h1, h2, h3⟩ | ⟨rfl, h1, h3⟩ | ⟨rfl, h1, h3⟩
  · rw [h3]; exact after_both i j (by omega) (by omega) w
  · rw [h3]; exact after_first i j (by omega) (by omega) w
  · rw [h3]; exact after_second i j (by omega) (by omega) w
theorem aft_ok (s : ByteArray) (al ot sk ss db : Nat) (x y : ByteArray) (sn : UInt8 → UInt8) (i j : Nat) (t : Nm.St) (ht : t ∈ stL s al ot sk ss db x y sn i j) (hi : i ≤ x.size) (hj : j ≤ y.size) :
    (Nm.aft (i, j) t.1).1 ≤ x.size ∧ (Nm.aft (i, j) t.1).2 ≤ y.size ∧ i + j < (Nm.aft (i, j) t.1).1 + (Nm.aft (i, j) t.1).2 := by
  rcases Nm.stepsOf_cases ht with ⟨rfl, h1, h2, h3⟩ | ⟨rfl, h1, h3⟩ | ⟨rfl, h1, h3⟩ <;> rw [h3] <;> simp only <;> omega
theorem keepsBelow {W W' : World} {B : Nat} (hb : Below W.heap.size W W') : KeepsFrom B W W' := KeepsFrom.of_grownBy (grownBy_below hb none) (fun j e => by cases e)
/-- between two rounds -/
def FI (w : World) (B1 nb Bd Bf d i j : Nat) (a : Option Addr) (n c : Nat) (s : ByteArray) (al ot sk ss db : Nat) (x y : ByteArray) (sn : UInt8 → UInt8) (mb : Nat) (pre : List (StS s al ot sk ss db x y sn i j)) (W : World) : Prop :=
  Blk W nb #[.int .i64 (accS s al ot sk ss db x y sn i j pre : Nat)] 3 ∧ Blk W w.heap.size #[.int .i64 i, .int .i64 j] 53 ∧ Caps W Bd Bf d a n c s al ot sk ss db x y sn mb ∧ w.grownBy W (some mb) ∧ B1 + 1 < W.heap.size
/-- within a round -/
def RS (w Wr : World) (B nb Bx Bd Bf d i j : Nat) (t1 t2 : Int) (a : Option Addr) (n c : Nat) (s : ByteArray) (al ot sk ss db : Nat) (x y : ByteArray) (sn : UInt8 → UInt8) (mb : Nat) (W : World) : Prop :=
  Blk W w.heap.size #[.int .i64 i, .int .i64 j] 53 ∧ Blk W Bx #[.int .i64 t1, .int .i64 t2] 41 ∧ Caps W Bd Bf d a n c s al ot sk ss db x y sn mb ∧ w.grownBy W (some mb) ∧ KeepsFrom B Wr W ∧ KpE (fun k => k = mb ∨ k = nb) Wr W
section
variable {w Wr W W' : World} {B nb Bx Bd Bf d i j : Nat} {t1 t2 : Int} {a : Option Addr} {n c : Nat} {s : ByteArray} {al ot sk ss db : Nat} {x y : ByteArray} {sn : UInt8 → UInt8} {mb : Nat}
theorem RS.caps (h : RS w Wr B nb Bx Bd Bf d i j t1 t2 a n c s al ot sk ss db x y sn mb W) : Caps W Bd Bf d a n c s al ot sk ss db x y sn mb := h.2.2.1
theorem RS.below (h : RS w Wr B nb Bx Bd Bf d i j t1 t2 a n c s al ot sk ss db x y sn mb W) (hb : Below W.heap.size W W') : RS w Wr B nb Bx Bd Bf d i j t1 t2 a n c s al ot sk ss db x y sn mb W' :=
  ⟨h.1.b hb, h.2.1.b hb, h.2.2.1.below hb, h.2.2.2.1.trans' (grownBy_below hb _), h.2.2.2.2.1.trans (keepsBelow hb), h.2.2.2.2.2.trans (KpE.below hb)⟩
theorem RS.after (h : RS w Wr B nb Bx Bd Bf d i j t1 t2 a n c s al ot sk ss db x y sn mb W) (hm : Memo W' mb (FV s al ot sk ss db x y sn)) (hg : W.grownBy W' (some mb)) (hB : mb < B) : RS w Wr B nb Bx Bd Bf d i j t1 t2 a n c s al ot sk ss db x y sn mb W' :=
  ⟨h.1.kept hg (by have := h.1.ne_memo h.2.2.1.memo; simpa using this), h.2.1.kept hg (by have := h.2.1.ne_memo h.2.2.1.memo; simpa using this), h.2.2.1.after hm hg, h.2.2.2.1.trans' hg, h.2.2.2.2.1.trans (KeepsFrom.of_grownBy hg (fun r e => by cases e; exact hB)), h.2.2.2.2.2.trans (KpE.grown hg (fun r e => by cases e; exact .inl rfl))⟩
theorem RS.set (h : RS w Wr B nb Bx Bd Bf d i j t1 t2 a n c s al ot sk ss db x y sn mb W) (v : Value) (h0 : w.heap.size < nb) (hx : Bx ≠ nb) (h1 : Bd ≠ nb) (h2 : Bf ≠ nb) (h3 : d ≠ nb) (h4 : mb ≠ nb) : RS w Wr B nb Bx Bd Bf d i j t1 t2 a n c s al ot sk ss db x y sn mb (W.setCell ⟨nb, 0, none⟩ v) :=
  ⟨h.1.other (by show w.heap.size ≠ nb; omega) v, h.2.1.other hx v, h.2.2.1.set v h1 h2 h3 h4, grownBy_setNew h.2.2.2.1 (by show w.heap.size ≤ nb; omega) v, h.2.2.2.2.1.trans ((KeepsOthers.setCell _ _ _).from _), h.2.2.2.2.2.trans (KpE.set (.inr rfl) v)⟩
end
set_option maxRecDepth 100000 in
set_option maxHeartbeats 8000000 in
theorem from_sum (Bd Bf d i j : Nat) (a : Option Addr) (n c : Nat) (s : ByteArray) (al ot sk ss db : Nat) (x y : ByteArray) (sn : UInt8 → UInt8) (mb : Nat) (w : World) (hc : Caps w Bd Bf d a n c s al ot sk ss db x y sn mb) (hi : i ≤ x.size) (hj : j ≤ y.size) (hx : NameB x) (hy : NameB y) (hbd : Bnd s al ot sk ss db x y sn) (ih : ∀ i2 j2, i2 ≤ x.size → j2 ≤ y.size → i + j < i2 + j2 → ∀ W, Caps W Bd Bf d a n c s al ot sk ss db x y sn mb → Calls Try.prog 43 #[cellV (i2 : Nat) (j2 : Nat), .pointer (some ⟨Bd, 0, none⟩), .pointer (some ⟨Bf, 0, none⟩)] W (FromPost (csD s al ot sk ss db x y sn i2 j2) mb (FV s al ot sk ss db x y sn) W)) (hno : i < x.size ∨ j < y.size) (hl : ∀ W, W.heap[mb]? = w.heap[mb]? → (Instr.lookup 81 (.map (some mb)) (cellV i j) true).run Try.prog W = .ok (.tuple #[.int .i64 0, .bool false]) W) :
    Calls Try.prog 43 #[cellV i j, .pointer (some ⟨Bd, 0, none⟩), .pointer (some ⟨Bf, 0, none⟩)] w (FromPost (csD s al ot sk ss db x y sn i j) mb (FV s al ot sk ss db x y sn) w) := by
  refine (callsIn_wide (n := 8)).1 ?_
  have CO := Lib.hid (fun W (hW : Below w.heap.size w W) => over_any d a n c s al ot sk ss db x y sn mb W (hc.below hW).duel.duel i j hi hj)
  rw [show decide (i = x.size ∧ j = y.size) = false by simp only [decide_eq_false_iff_not]; omega] at CO
  have b1 := (hc.below ((Below.refl _ w).alloc (Nat.le_refl _) (.cells #[.int .i64 i, .int .i64 j] 53))).bd.c1.1
  have l1 := hc.bd.lt
  have ld := hc.duel.duel.lt
  have HC := Lib.hid hc
  have HL := Lib.hid hl
  have HI := Lib.hid (And.intro hi hj)
  have HNO := Lib.hid hno
  have HXY := Lib.hid (And.intro hx hy)
  have HBD := Lib.hid hbd
  have IH := Lib.hid ih
  clear hx hy hbd ih
  have hs0 := (KS.start w).new #[.int .i64 i, .int .i64 j] 53
  have S0 := Lib.hid hs0
  clear hc hl hi hj hno hs0
  refine callsIn_of_wp_marks Try.func43 rfl trivial ?_ rfl
  simp only [Try.ntmps43, List.size_toArray, List.length_cons, List.length_nil, Nat.reduceAdd, Nat.reduceSub, Array.replicate_succ, Array.replicate_zero, List.push_toArray, List.append_toArray, List.nil_append, List.cons_append]
  gi_wp2_with (refine ⟨trivial, ?_⟩; gi_at_call 25; (with_reducible refine (callsIn_wide.2 (CO.out _ ((Below.refl _ _).alloc (Nat.le_refl _) _))).mono ?_); rintro e w1 ⟨rfl, hb⟩; have S1 := Lib.hid (S0.out.below hb); clear hb)
  refine wpIn_wide.2 ?_
  obtain ⟨BS, hBS⟩ : ∃ BS : List (Nat × Array Value × TypeId), BS = [(w.heap.size, #[.int .i64 i, .int .i64 j], 53)] := ⟨_, rfl⟩
  have hS : KS w BS w1 := by rw [hBS]; exact S1.out
  have K0_0 : ∀ W, KS w BS W → W.cell? ⟨w.heap.size, 0, none⟩ = some (.int .i64 i) := fun W h => by rw [hBS] at h; exact (h.blkAt 0 rfl).cell 0
  have K0_1 : ∀ W, KS w BS W → W.cell? ⟨w.heap.size, 1, none⟩ = some (.int .i64 j) := fun W h => by rw [hBS] at h; exact (h.blkAt 0 rfl).cell 1
  have hBd : ∀ W, KS w BS W → W.cell? ⟨Bd, 0, none⟩ = some (.pointer (some ⟨d, 0, none⟩)) := fun W h => ((HC.out.below h.bel).bd.cell 0)
  have hMp : ∀ W, KS w BS W → W.cell? ⟨d, 35, none⟩ = some (.map (some mb)) := fun W h => (HC.out.below h.bel).duel.duel.mp
  have hLk : ∀ W, KS w BS W → (Instr.lookup 81 (.map (some mb)) (.agg #[.int .i64 i, .int .i64 j]) true).run Try.prog W = .ok (.tuple #[.int .i64 0, .bool false]) W := fun W h => HL.out W (h.bel.block mb HC.out.memo.lt)
  have KZ0 : ∀ W b, KZ w BS b #[.int .i64 0] 3 W → W.cell? ⟨b, 0, none⟩ = some (.int .i64 0) := fun W b h => h.2.1.cell 0
  have KF0 : ∀ W b, KZ w BS b #[.int .i64 0] 3 W → W.frozen? ⟨b, 0, none⟩ = false := fun W b h => h.f 0
  have HBS := Lib.hid hBS
  clear hBS b1
  refine wp_joinG (ι := Nat) (f := fun aa bb => (((((((((((aa.put (some 13) (.pointer (some ⟨d, 0, none⟩))).put (some 14) (.pointer (some ⟨d, 0, none⟩))).put (some 15) (.pointer (some ⟨d, 35, none⟩))).put (some 16) (.map (some mb))).put (some 17) (.agg #[.int .i64 i, .int .i64 j])).put (some 18) (.tuple #[.int .i64 0, .bool false])).put (some 12) (.tuple #[.int .i64 0, .bool false])).put (some 19) (.int .i64 0)).put (some 20) (.bool false)).put (some 6) (.bool false)).put (some 5) (.pointer (some ⟨bb, 0, none⟩)))) (mid := fun bb W' => KZ w BS bb #[.int .i64 0] 3 W') ?_ ?_
  · go_region_held3 (KS w BS)
      (first | assumption | exact KS.drew (by assumption) | exact KS.alloc (by assumption) _ | exact KS.drew (KS.alloc (by assumption) _) | exact KS.alloc (KS.drew (by assumption)) _ | exact KZ.ks (by assumption) | exact (KZ.new (by assumption) _ _).ks | exact KZ.keep1 (by assumption) | exact (KZ.keep1 (by assumption)).drew | exact (KZ.drew (by assumption)).keep1 | go_keep)
      (first | fail)
    all_goals first | exact ⟨rfl, _, rfl, KZ.new (by assumption) _ _⟩ | exact ⟨rfl, _, rfl, KZ.newD (by assumption) _ _⟩ | exact ⟨rfl, _, rfl, KZ.put1 (by assumption)⟩ | exact ⟨rfl, _, rfl, KZ.put1D (by assumption)⟩ | exact ⟨rfl, _, rfl, (KZ.put1 (by assumption)).drew⟩ | exact ⟨rfl, _, rfl, (KZ.put1D (by assumption)).drew⟩
  intro nb w2 hM
  simp only [Act.put, List.setIfInBounds_toArray, List.set_cons_zero, List.set_cons_succ]
  clear hS KZ0 KF0 K0_0 K0_1 hBd hMp hLk
  have k0 := hM.2.1.c1
  obtain ⟨k0, f0⟩ := k0
  have bd2 := (HC.out.below hM.1.bel).bd.c1.1
  have hb98 := hM.1
  rw [HBS.out] at hb98
  obtain ⟨c0, c1, _⟩ := (hb98.blkAt 0 rfl).c2
  have n1 : w.heap.size ≠ nb := fun e => hM.2.2.1 (w.heap.size, #[.int .i64 i, .int .i64 j], 53) (by rw [HBS.out]; simp) e
  have n2 : Bd ≠ nb := by have := hM.2.2.2; omega
  have n3 := n1.symm
  have n4 := n2.symm
  have HM := Lib.hid hM
  have HB98 := Lib.hid (hb98.blkAt 0 rfl)
  clear hM hb98
  gi_wp2_with (refine ⟨trivial, ?_⟩; gi_at_call 26; (with_reducible refine (callsIn_wide.2 (steps_any _ _ _ _)).mono ?_); rintro e w3 ⟨rfl, rfl⟩)
  have hbelow : Below w.heap.size w (((w2.setCell ⟨nb, 0, none⟩ (.int .i64 5000)).alloc (.cells #[.pointer (some ⟨d, 0, none⟩)] 49)).alloc (.cells #[.int .i64 i, .int .i64 j] 53)) := by
    have h1 := HM.out.1.bel.setCell (p := ⟨nb, 0, none⟩) HM.out.2.2.2 (.int .i64 5000)
    have h2 := h1.alloc h1.size (.cells #[.pointer (some ⟨d, 0, none⟩)] 49)
    exact h2.alloc h2.size _
  have hsz : (w2.setCell ⟨nb, 0, none⟩ (.int .i64 5000)).heap.size = w2.heap.size := by simp [World.setCell]
  have hnew := two_new (w2.setCell ⟨nb, 0, none⟩ (.int .i64 5000)) #[.pointer (some ⟨d, 0, none⟩)] #[.int .i64 i, .int .i64 j] 49 53
  rw [hsz] at hnew
  obtain ⟨g1, g2, _, g4⟩ := hnew
  have g5 : Blk (((w2.setCell ⟨nb, 0, none⟩ (.int .i64 5000)).alloc (.cells #[.pointer (some ⟨d, 0, none⟩)] 49)).alloc (.cells #[.int .i64 i, .int .i64 j] 53)) nb #[.int .i64 (5000 : Nat)] 3 := ((HM.out.put1 (x' := .int .i64 5000)).2.1.alloc _).alloc _
  have g6 : Blk (((w2.setCell ⟨nb, 0, none⟩ (.int .i64 5000)).alloc (.cells #[.pointer (some ⟨d, 0, none⟩)] 49)).alloc (.cells #[.int .i64 i, .int .i64 j] 53)) w.heap.size #[.int .i64 i, .int .i64 j] 53 := ((HB98.out.other n1 _).alloc _).alloc _
  have hnbw : w.heap.size < nb := by have := HM.out.2.2.2; omega
  have hnbs : nb < w2.heap.size := HM.out.2.1.lt
  have hB1 : w.heap.size < w2.heap.size := by omega
  clear k0 f0 bd2 c0 c1 n1 n2 n3 n4 hsz HM HB98
  generalize hW0 : (((w2.setCell ⟨nb, 0, none⟩ (.int .i64 5000)).alloc (.cells #[.pointer (some ⟨d, 0, none⟩)] 49)).alloc (.cells #[.int .i64 i, .int .i64 j] 53)) = W0 at *
  clear hW0
  generalize w2.heap.size = B1 at *
  have g4a := Nat.le_of_eq g4
  have g4b := Nat.le_of_eq g4.symm
  clear g4
  have hcap := HC.out.below hbelow
  have lmb := HC.out.memo.lt
  have lbf := HC.out.bf.lt
  have hi := HI.out.1
  have hj := HI.out.2
  have hEd : ¬ (d = mb ∨ d = nb) := fun h => by
    rcases h with h | h
    · exact hcap.duel.ne_memo hcap.memo h
    · omega
  have h60 := HBD.out.2.2.1
  have h60' := HBD.out.2.2.2
  refine wpIn_rangeFunc_ownH rfl (by omega) (gf := 48) (lb := #[.pointer (some ⟨B1, 0, none⟩), .pointer (some ⟨B1 + 1, 0, none⟩)]) rfl trivial (enters_of Try.func48 (by kernel_rfl) rfl)
    (steps_stops (fun k => k = mb ∨ k = nb) d B1 (B1 + 1) i j a n c s al ot sk ss db x y sn mb W0 hi hj HXY.out.1 HXY.out.2 (fun k hk => by rcases hk with rfl | rfl <;> omega) hEd (by omega) (by omega) hcap.duel g1 g2 7)
    (fun h k => h.trans k) (fun W l ob ob' _ h hc _ => KpE.putObj l ob ob' h hc) (Below.refl _ _) (fun _ => rfl)
    (FI w B1 nb Bd Bf d i j a n c s al ot sk ss db x y sn mb) (fun _ _ _ => False)
    (fun st X Y row ⟨h1, h2, h3, h4, h5⟩ hg hr => ⟨h1.kept hg (fun e => by have := (hr _ e.symm).1; omega), h2.kept hg (fun e => by have := (hr _ e.symm).1; omega), h3.row hg (fun r e => (hr r e).1) (by omega) (by omega) (by omega) (by omega), grownBy_rowAny h4 hg (fun r e => by have := (hr r e).1; omega), Nat.lt_of_lt_of_le h5 hg.size⟩)
    (fun _ _ _ _ _ hs _ _ => hs)
    ⟨g5, g6, hcap, grownBy_below hbelow _, by omega⟩
    (fun t a' W => ∃ Bx, B1 < Bx ∧ Blk W Bx #[.int .i64 t.1.1.1, .int .i64 t.1.1.2] 41 ∧ a' = { tmps := #[cellV ↑i ↑j, .pointer (some ⟨Bd, 0, none⟩), .pointer (some ⟨Bf, 0, none⟩), .pointer (some ⟨w.heap.size, 0, none⟩), .int .i64 0, .pointer (some ⟨nb, 0, none⟩), .bool false, .pointer (some ⟨Bx, 0, none⟩), .int .i64 (t.1.2 : Nat), .pointer (some ⟨d, 0, none⟩), .agg #[.int .i64 ↑i, .int .i64 ↑j], .bool false, .tuple #[.int .i64 0, .bool false], .pointer (some ⟨d, 0, none⟩), .pointer (some ⟨d, 0, none⟩), .pointer (some ⟨d, 35, none⟩), .map (some mb), .agg #[.int .i64 ↑i, .int .i64 ↑j], .tuple #[.int .i64 0, .bool false], .int .i64 0, .bool false, .bool false, undef, .pointer (some ⟨d, 0, none⟩), .agg #[.int .i64 ↑i, .int .i64 ↑j], .func (.func 48) #[] #[.pointer (some ⟨B1, 0, none⟩), .pointer (some ⟨B1 + 1, 0, none⟩)], .agg #[.int .i64 t.1.1.1, .int .i64 t.1.1.2], .int .i64 (t.1.2 : Nat), undef, undef, undef, undef, undef, undef, undef, undef, undef, undef, undef, undef, undef, undef, undef, undef, undef], defers := [] })
    (fun t a' st X Y row hs hg hr => by
      obtain ⟨Bx, h1, h2, h3⟩ := hs
      refine ⟨Bx, h1, h2.kept hg (fun e => ?_), h3⟩
      obtain ⟨ob, ho, hc⟩ := (hr Bx e.symm).2
      have h2' : X.heap[Bx]? = _ := h2
      rw [h2'] at ho; cases ho; cases hc)
    ?assign ?body ?done ?stop
  case assign =>
    rintro l pre t W K ⟨b1, b2, b3, b4, b5⟩ hK
    have HK := Lib.hid hK
    have hl0 := b1.lt
    clear hK
    gi_wp2
    exact HK.out _ _ ((KeepsOthers.alloc _ _).from _) (KpE.below ((Below.refl _ _).alloc (Nat.le_refl _) _)) ⟨b1.alloc _, b2.alloc _, b3.below ((Below.refl _ _).alloc (Nat.le_refl _) _), b4.trans' (World.grownBy_alloc _ _ _), by rw [World.size_alloc]; omega⟩ ⟨W.heap.size, by omega, Blk.new _ _ _, rfl⟩
  case body =>
    rintro l pre t a' W hl ⟨r, hr⟩ ⟨b1, b2, b3, b4, b5⟩ ⟨Bx, hBx, bX, rfl⟩ hlt
    have hmem := t.2
    obtain ⟨q1, q2, q3⟩ := aft_ok s al ot sk ss db x y sn i j t.1 hmem hi hj
    have CA := Lib.hid (fun W => after_any s al ot sk ss db x y sn i j t.1 hmem hi hj h60 h60' W)
    have CI := Lib.hid (IH.out _ _ q1 q2 q3)
    have hm1 := HBD.out.2.1 i j t.1 hmem
    have hc1 := HBD.out.1 (Nm.aft (i, j) t.1.1).1 (Nm.aft (i, j) t.1.1).2
    have hacc := accS_le s al ot sk ss db x y sn i j pre
    have R0 : ∀ W', RS w W W0.heap.size nb Bx Bd Bf d i j t.1.1.1 t.1.1.2 a n c s al ot sk ss db x y sn mb W' → W'.cell? ⟨w.heap.size, 0, none⟩ = some (.int .i64 i) := fun W' h => h.1.cell 0
    have R1 : ∀ W', RS w W W0.heap.size nb Bx Bd Bf d i j t.1.1.1 t.1.1.2 a n c s al ot sk ss db x y sn mb W' → W'.cell? ⟨w.heap.size, 1, none⟩ = some (.int .i64 j) := fun W' h => h.1.cell 1
    have R2 : ∀ W', RS w W W0.heap.size nb Bx Bd Bf d i j t.1.1.1 t.1.1.2 a n c s al ot sk ss db x y sn mb W' → W'.cell? ⟨Bx, 0, none⟩ = some (.int .i64 t.1.1.1) := fun W' h => h.2.1.cell 0
    have R3 : ∀ W', RS w W W0.heap.size nb Bx Bd Bf d i j t.1.1.1 t.1.1.2 a n c s al ot sk ss db x y sn mb W' → W'.cell? ⟨Bx, 1, none⟩ = some (.int .i64 t.1.1.2) := fun W' h => h.2.1.cell 1
    have R4 : ∀ W', RS w W W0.heap.size nb Bx Bd Bf d i j t.1.1.1 t.1.1.2 a n c s al ot sk ss db x y sn mb W' → W'.cell? ⟨Bf, 0, none⟩ = some (.func (.func 43) #[] #[.pointer (some ⟨Bd, 0, none⟩), .pointer (some ⟨Bf, 0, none⟩)]) := fun W' h => h.2.2.1.bf.cell 0
    have hS0 : RS w W W0.heap.size nb Bx Bd Bf d i j t.1.1.1 t.1.1.2 a n c s al ot sk ss db x y sn mb W := ⟨b2, bX, b3, b4, KeepsFrom.refl _ _, KpE.below (Below.refl _ _)⟩
    have hS1 := hS0.below (Below.refl _ W).drew
    have HNB := Lib.hid b1.drew
    generalize hcv : csD s al ot sk ss db x y sn (Nm.aft (i, j) t.1.1).1 (Nm.aft (i, j) t.1.1).2 = cv at *
    generalize hac : accS s al ot sk ss db x y sn i j pre = acc at *
    generalize hmm : t.1.2 = m at *
    have HCV := Lib.hid hcv
    have HACC := Lib.hid hac
    have HM := Lib.hid hmm
    have e1 : IntKind.i64.wrap ((m : Int) + (cv : Int)) = (m : Int) + (cv : Int) := by rw [IntWalk.i64_in _ (by omega)]
    have lmbB : mb < W0.heap.size := by omega
    have hnmb : some nb ≠ some mb := by simp; omega
    have hxn : Bx ≠ nb := by omega
    have hdn : Bd ≠ nb := by omega
    have hfn : Bf ≠ nb := by omega
    have hddn : d ≠ nb := by omega
    have hmn : mb ≠ nb := by omega
    have hb5 := b5
    obtain ⟨hn, hnf⟩ := HNB.out.c1
    clear b1 b2 b3 b4 b5 bX hcv hac hmm hmem q1 q2 q3 hm1 hc1 hacc hS0
    gi_wp2_with fail
    refine wpIn_region_round (S := RS w W W0.heap.size nb Bx Bd Bf d i j t.1.1.1 t.1.1.2 a n c s al ot sk ss db x y sn mb) (by kernel_rfl) (by kernel_rfl) (fun ⟨_, _, h⟩ => h) hS1 (fun hHeld => ?_)
    clear hS1
    refine wpAnyH_take (i := 1) (v := ?_) rfl (by kernel_rfl) (by kernel_rfl) (by kernel_rfl) (fun _ _ _ h => h) (Or.inl ⟨by rfl, ?h1⟩) hHeld ?_
    case h1 =>
      intro w' hSw
      (try dsimp only at hSw)
      go_simp
      (try with_reducible rfl)
    (try simp only [Act.put]); (try simp only [List.setIfInBounds_toArray]); (try simp only [List.set_cons_succ]); (try simp only [List.set_cons_zero])
    refine wpAnyH_take (i := 2) (v := ?_) rfl (by kernel_rfl) (by kernel_rfl) (by kernel_rfl) (fun _ _ _ h => h) (Or.inl ⟨by rfl, ?h2⟩) hHeld ?_
    case h2 =>
      intro w' hSw
      (try dsimp only at hSw)
      go_simp
      (try with_reducible rfl)
    (try simp only [Act.put]); (try simp only [List.setIfInBounds_toArray]); (try simp only [List.set_cons_succ]); (try simp only [List.set_cons_zero])
    refine wpAnyH_take (i := 3) (v := ?_) rfl (by kernel_rfl) (by kernel_rfl) (by kernel_rfl) (fun _ _ _ h => h) (Or.inl ⟨by rfl, ?h3⟩) hHeld ?_
    case h3 =>
      intro w' hSw
      (try dsimp only at hSw)
      go_simp
      (try with_reducible rfl)
    (try simp only [Act.put]); (try simp only [List.setIfInBounds_toArray]); (try simp only [List.set_cons_succ]); (try simp only [List.set_cons_zero])
    refine wpAnyH_take (i := 4) (v := ?_) rfl (by kernel_rfl) (by kernel_rfl) (by kernel_rfl) (fun _ _ _ h => h) (Or.inl ⟨by rfl, ?h4⟩) hHeld ?_
    case h4 =>
      intro w' hSw
      (try dsimp only at hSw)
      go_simp
      (try with_reducible rfl)
    (try simp only [Act.put]); (try simp only [List.setIfInBounds_toArray]); (try simp only [List.set_cons_succ]); (try simp only [List.set_cons_zero])
    refine wpAnyH_ready (rs := [0, 5]) (by kernel_rfl) (by simp) ?_
    refine AllReadyH.cons rfl (fun K hK => ?_) (AllReadyH.cons rfl (fun K hK => ?_) (AllReadyH.nil))
    · go_simp
      refine hK.out _ _ hHeld (fun hHeld => ?_)
      clear hK K
      (try simp only [Act.put]); (try simp only [List.setIfInBounds_toArray]); (try simp only [List.set_cons_succ]); (try simp only [List.set_cons_zero])
      refine wpAnyH_ready (rs := [5]) (by kernel_rfl) (by simp) ?_
      refine AllReadyH.cons rfl (fun K hK => ?_) (AllReadyH.nil)
      go_simp
      (with_reducible refine (CA.out _).mono ?_)
      rintro e wn ⟨rfl, hb⟩
      have hSn := hHeld.below hb
      have HNB := Lib.hid (HNB.out.b hb)
      have hn := HNB.out.c1
      obtain ⟨hn, hnf⟩ := hn
      clear hb hHeld
      (try gi_wp2_with fail)
      refine hK.out _ _ hSn (fun hHeld => ?_)
      clear hK K hSn
      (try simp only [Act.put]); (try simp only [List.setIfInBounds_toArray]); (try simp only [List.set_cons_succ]); (try simp only [List.set_cons_zero])
      refine wpAnyH_ready (rs := [6]) (by kernel_rfl) (by simp) ?_
      refine AllReadyH.cons rfl (fun K hK => ?_) (AllReadyH.nil)
      go_simp
      (with_reducible refine (CI.out _ hHeld.caps).mono ?_)
      rintro e wn ⟨rfl, hm, hg⟩
      have hSn := hHeld.after hm hg lmbB
      have HNB := Lib.hid (HNB.out.kept hg hnmb)
      obtain ⟨hn, hnf⟩ := HNB.out.c1
      clear hm hg hHeld
      refine hK.out _ _ hSn (fun hHeld => ?_)
      clear hK K hSn
      (try simp only [Act.put]); (try simp only [List.setIfInBounds_toArray]); (try simp only [List.set_cons_succ]); (try simp only [List.set_cons_zero])
      refine wpAnyH_take (i := 7) (v := ?_) rfl (by kernel_rfl) (by kernel_rfl) (by kernel_rfl) (fun _ _ _ h => h) (Or.inl ⟨by rfl, ?h7⟩) hHeld ?_
      case h7 =>
        intro w' hSw
        (try dsimp only at hSw)
        go_simp
        (try with_reducible rfl)
      (try simp only [Act.put]); (try simp only [List.setIfInBounds_toArray]); (try simp only [List.set_cons_succ]); (try simp only [List.set_cons_zero])
      refine wpAnyH_ready (rs := [8]) (by kernel_rfl) (by simp) ?_
      refine AllReadyH.cons rfl (fun K hK => ?_) (AllReadyH.nil)
      go_simp
      have hSn := hHeld.below ((Below.refl _ _).alloc (Nat.le_refl _) (.cells #[.int .i64 (acc : Nat), .int .i64 ((m : Int) + (cv : Int))] 3))
      have HNB := Lib.hid (HNB.out.alloc (.cells #[.int .i64 (acc : Nat), .int .i64 ((m : Int) + (cv : Int))] 3))
      obtain ⟨hn, hnf⟩ := HNB.out.c1
      refine hK.out _ _ hSn (fun hHeld => ?_)
      clear hK K hSn
      (try simp only [Act.put]); (try simp only [List.setIfInBounds_toArray]); (try simp only [List.set_cons_succ]); (try simp only [List.set_cons_zero])
      refine wpAnyH_ready (rs := [9]) (by kernel_rfl) (by simp) ?_
      refine AllReadyH.cons rfl (fun K hK => ?_) (AllReadyH.nil)
      go_simp
      (with_reducible refine (minimum_any _ _ acc (m + cv) _ (by simp) (by simp)).mono ?_)
      rintro e wn ⟨rfl, rfl⟩
      refine hK.out _ _ hHeld (fun hHeld => ?_)
      clear hK K
      (try simp only [Act.put]); (try simp only [List.setIfInBounds_toArray]); (try simp only [List.set_cons_succ]); (try simp only [List.set_cons_zero])
      refine wpAnyH_ready (rs := [10]) (by kernel_rfl) (by simp) ?_
      refine AllReadyH.cons rfl (fun K hK => ?_) (AllReadyH.nil)
      go_simp
      refine hK.out _ _ (hHeld.set _ hnbw hxn hdn hfn hddn hmn) (fun hHeld => ?_)
      clear hK K
      refine wpAnyH_done (by kernel_rfl) ?_ _
      exact ⟨hHeld.2.2.2.2.1, hHeld.2.2.2.2.2, by rw [accS_snoc, HACC.out, HM.out, HCV.out]; exact HNB.out.set 0 _, hHeld.1, hHeld.2.2.1, hHeld.2.2.2.1, Nat.lt_of_lt_of_le hb5 hHeld.2.2.2.2.1.size⟩
    · go_simp
      (with_reducible refine (CA.out _).mono ?_)
      rintro e wn ⟨rfl, hb⟩
      have hSn := hHeld.below hb
      have HNB := Lib.hid (HNB.out.b hb)
      have hn := HNB.out.c1
      obtain ⟨hn, hnf⟩ := hn
      clear hb hHeld
      (try gi_wp2_with fail)
      refine hK.out _ _ hSn (fun hHeld => ?_)
      clear hK K hSn
      (try simp only [Act.put]); (try simp only [List.setIfInBounds_toArray]); (try simp only [List.set_cons_succ]); (try simp only [List.set_cons_zero])
      refine wpAnyH_ready (rs := [0, 6]) (by kernel_rfl) (by simp) ?_
      refine AllReadyH.cons rfl (fun K hK => ?_) (AllReadyH.cons rfl (fun K hK => ?_) (AllReadyH.nil))
      · go_simp
        refine hK.out _ _ hHeld (fun hHeld => ?_)
        clear hK K
        (try simp only [Act.put]); (try simp only [List.setIfInBounds_toArray]); (try simp only [List.set_cons_succ]); (try simp only [List.set_cons_zero])
        refine wpAnyH_ready (rs := [6]) (by kernel_rfl) (by simp) ?_
        refine AllReadyH.cons rfl (fun K hK => ?_) (AllReadyH.nil)
        go_simp
        (with_reducible refine (CI.out _ hHeld.caps).mono ?_)
        rintro e wn ⟨rfl, hm, hg⟩
        have hSn := hHeld.after hm hg lmbB
        have HNB := Lib.hid (HNB.out.kept hg hnmb)
        obtain ⟨hn, hnf⟩ := HNB.out.c1
        clear hm hg hHeld
        refine hK.out _ _ hSn (fun hHeld => ?_)
        clear hK K hSn
        (try simp only [Act.put]); (try simp only [List.setIfInBounds_toArray]); (try simp only [List.set_cons_succ]); (try simp only [List.set_cons_zero])
        refine wpAnyH_take (i := 7) (v := ?_) rfl (by kernel_rfl) (by kernel_rfl) (by kernel_rfl) (fun _ _ _ h => h) (Or.inl ⟨by rfl, ?h7⟩) hHeld ?_
        case h7 =>
          intro w' hSw
          (try dsimp only at hSw)
          go_simp
          (try with_reducible rfl)
        (try simp only [Act.put]); (try simp only [List.setIfInBounds_toArray]); (try simp only [List.set_cons_succ]); (try simp only [List.set_cons_zero])
        refine wpAnyH_ready (rs := [8]) (by kernel_rfl) (by simp) ?_
        refine AllReadyH.cons rfl (fun K hK => ?_) (AllReadyH.nil)
        go_simp
        have hSn := hHeld.below ((Below.refl _ _).alloc (Nat.le_refl _) (.cells #[.int .i64 (acc : Nat), .int .i64 ((m : Int) + (cv : Int))] 3))
        have HNB := Lib.hid (HNB.out.alloc (.cells #[.int .i64 (acc : Nat), .int .i64 ((m : Int) + (cv : Int))] 3))
        obtain ⟨hn, hnf⟩ := HNB.out.c1
        refine hK.out _ _ hSn (fun hHeld => ?_)
        clear hK K hSn
        (try simp only [Act.put]); (try simp only [List.setIfInBounds_toArray]); (try simp only [List.set_cons_succ]); (try simp only [List.set_cons_zero])
        refine wpAnyH_ready (rs := [9]) (by kernel_rfl) (by simp) ?_
        refine AllReadyH.cons rfl (fun K hK => ?_) (AllReadyH.nil)
        go_simp
        (with_reducible refine (minimum_any _ _ acc (m + cv) _ (by simp) (by simp)).mono ?_)
        rintro e wn ⟨rfl, rfl⟩
        refine hK.out _ _ hHeld (fun hHeld => ?_)
        clear hK K
        (try simp only [Act.put]); (try simp only [List.setIfInBounds_toArray]); (try simp only [List.set_cons_succ]); (try simp only [List.set_cons_zero])
        refine wpAnyH_ready (rs := [10]) (by kernel_rfl) (by simp) ?_
        refine AllReadyH.cons rfl (fun K hK => ?_) (AllReadyH.nil)
        go_simp
        refine hK.out _ _ (hHeld.set _ hnbw hxn hdn hfn hddn hmn) (fun hHeld => ?_)
        clear hK K
        refine wpAnyH_done (by kernel_rfl) ?_ _
        exact ⟨hHeld.2.2.2.2.1, hHeld.2.2.2.2.2, by rw [accS_snoc, HACC.out, HM.out, HCV.out]; exact HNB.out.set 0 _, hHeld.1, hHeld.2.2.1, hHeld.2.2.2.1, Nat.lt_of_lt_of_le hb5 hHeld.2.2.2.2.1.size⟩
      · go_simp
        (with_reducible refine (CI.out _ hHeld.caps).mono ?_)
        rintro e wn ⟨rfl, hm, hg⟩
        have hSn := hHeld.after hm hg lmbB
        have HNB := Lib.hid (HNB.out.kept hg hnmb)
        obtain ⟨hn, hnf⟩ := HNB.out.c1
        clear hm hg hHeld
        refine hK.out _ _ hSn (fun hHeld => ?_)
        clear hK K hSn
        (try simp only [Act.put]); (try simp only [List.setIfInBounds_toArray]); (try simp only [List.set_cons_succ]); (try simp only [List.set_cons_zero])
        refine wpAnyH_take (i := 7) (v := ?_) rfl (by kernel_rfl) (by kernel_rfl) (by kernel_rfl) (fun _ _ _ h => h) (Or.inl ⟨by rfl, ?h7⟩) hHeld ?_
        case h7 =>
          intro w' hSw
          (try dsimp only at hSw)
          go_simp
          (try with_reducible rfl)
        (try simp only [Act.put]); (try simp only [List.setIfInBounds_toArray]); (try simp only [List.set_cons_succ]); (try simp only [List.set_cons_zero])
        refine wpAnyH_ready (rs := [0]) (by kernel_rfl) (by simp) ?_
        refine AllReadyH.cons rfl (fun K hK => ?_) (AllReadyH.nil)
        go_simp
        refine hK.out _ _ hHeld (fun hHeld => ?_)
        clear hK K
        (try simp only [Act.put]); (try simp only [List.setIfInBounds_toArray]); (try simp only [List.set_cons_succ]); (try simp only [List.set_cons_zero])
        refine wpAnyH_ready (rs := [8]) (by kernel_rfl) (by simp) ?_
        refine AllReadyH.cons rfl (fun K hK => ?_) (AllReadyH.nil)
        go_simp
        have hSn := hHeld.below ((Below.refl _ _).alloc (Nat.le_refl _) (.cells #[.int .i64 (acc : Nat), .int .i64 ((m : Int) + (cv : Int))] 3))
        have HNB := Lib.hid (HNB.out.alloc (.cells #[.int .i64 (acc : Nat), .int .i64 ((m : Int) + (cv : Int))] 3))
        obtain ⟨hn, hnf⟩ := HNB.out.c1
        refine hK.out _ _ hSn (fun hHeld => ?_)
        clear hK K hSn
        (try simp only [Act.put]); (try simp only [List.setIfInBounds_toArray]); (try simp only [List.set_cons_succ]); (try simp only [List.set_cons_zero])
        refine wpAnyH_ready (rs := [9]) (by kernel_rfl) (by simp) ?_
        refine AllReadyH.cons rfl (fun K hK => ?_) (AllReadyH.nil)
        go_simp
        (with_reducible refine (minimum_any _ _ acc (m + cv) _ (by simp) (by simp)).mono ?_)
        rintro e wn ⟨rfl, rfl⟩
        refine hK.out _ _ hHeld (fun hHeld => ?_)
        clear hK K
        (try simp only [Act.put]); (try simp only [List.setIfInBounds_toArray]); (try simp only [List.set_cons_succ]); (try simp only [List.set_cons_zero])
        refine wpAnyH_ready (rs := [10]) (by kernel_rfl) (by simp) ?_
        refine AllReadyH.cons rfl (fun K hK => ?_) (AllReadyH.nil)
        go_simp
        refine hK.out _ _ (hHeld.set _ hnbw hxn hdn hfn hddn hmn) (fun hHeld => ?_)
        clear hK K
        refine wpAnyH_done (by kernel_rfl) ?_ _
        exact ⟨hHeld.2.2.2.2.1, hHeld.2.2.2.2.2, by rw [accS_snoc, HACC.out, HM.out, HCV.out]; exact HNB.out.set 0 _, hHeld.1, hHeld.2.2.1, hHeld.2.2.2.1, Nat.lt_of_lt_of_le hb5 hHeld.2.2.2.2.1.size⟩
  case done =>
    rintro D ys W hD hys ⟨b1, b2, b3, b4, b5⟩ hK
    have hacc : accS s al ot sk ss db x y sn i j ys = csD s al ot sk ss db x y sn i j := by
      unfold accS
      rw [hys]
      exact Nm.cs_steps hi hj HNO.out 5000 (Nat.le_trans (HBD.out.1 i j) (by omega))
    rw [hacc] at b1
    have hcs := HBD.out.1 i j
    have HST := Lib.hid (fun (w : World) (h : Memo w mb (FV s al ot sk ss db x y sn)) => h)
    have e1 := b3.bd.c1.1
    have e2 := b3.duel.duel.mp
    have hMS : MS w.heap.size nb Bd d i j mb (csD s al ot sk ss db x y sn i j) W := ⟨b1, b2, e1, e2⟩
    have Q0 : ∀ W', MS w.heap.size nb Bd d i j mb (csD s al ot sk ss db x y sn i j) W' → W'.cell? ⟨nb, 0, none⟩ = some (.int .i64 (csD s al ot sk ss db x y sn i j : Nat)) := fun W' h => h.1.cell 0
    have Q1 : ∀ W', MS w.heap.size nb Bd d i j mb (csD s al ot sk ss db x y sn i j) W' → W'.cell? ⟨w.heap.size, 0, none⟩ = some (.int .i64 i) := fun W' h => h.2.1.cell 0
    have Q2 : ∀ W', MS w.heap.size nb Bd d i j mb (csD s al ot sk ss db x y sn i j) W' → W'.cell? ⟨w.heap.size, 1, none⟩ = some (.int .i64 j) := fun W' h => h.2.1.cell 1
    have Q3 : ∀ W', MS w.heap.size nb Bd d i j mb (csD s al ot sk ss db x y sn i j) W' → W'.cell? ⟨Bd, 0, none⟩ = some (.pointer (some ⟨d, 0, none⟩)) := fun W' h => h.2.2.1
    have Q4 : ∀ W', MS w.heap.size nb Bd d i j mb (csD s al ot sk ss db x y sn i j) W' → W'.cell? ⟨d, 35, none⟩ = some (.map (some mb)) := fun W' h => h.2.2.2
    have HB3 := Lib.hid b3
    have HB4 := Lib.hid b4
    have hMS1 : MS w.heap.size nb Bd d i j mb (csD s al ot sk ss db x y sn i j) W.drew := hMS
    have HKK := Lib.hid hK
    have hnm : nb ≠ mb := by omega
    have hwm : w.heap.size ≠ mb := by omega
    have hbm : Bd ≠ mb := b3.bd.ne_memo b3.memo
    have hdm : d ≠ mb := b3.duel.ne_memo b3.memo
    clear b1 b2 b3 b4 b5 e1 e2 hK hMS hys hacc HST
    gi_wp2_with fail
    refine wpIn_wide.2 ?_
    refine wp_joinG (ι := Unit) (f := fun aa _ => ((((((aa.put (some 38) (.pointer (some ⟨d, 0, none⟩))).put (some 39) (.pointer (some ⟨d, 0, none⟩))).put (some 40) (.pointer (some ⟨d, 35, none⟩))).put (some 41) (.map (some mb))).put (some 42) (.agg #[.int .i64 i, .int .i64 j])).put (some 43) (.int .i64 (csD s al ot sk ss db x y sn i j : Nat)))) (mid := fun _ W' => MS w.heap.size nb Bd d i j mb (csD s al ot sk ss db x y sn i j) W' ∧ Memo W' mb (FV s al ot sk ss db x y sn) ∧ W.grownBy W' (some mb)) ?_ ?_
    · refine wp_region_held_drew (S := MS w.heap.size nb Bd d i j mb (csD s al ot sk ss db x y sn i j)) (by kernel_rfl) hMS1 (fun hHeld => ?_)
      clear hMS1
      refine wpAnyH_take (i := 0) (v := ?_) rfl (by kernel_rfl) (by kernel_rfl) (by kernel_rfl) (fun _ _ _ h => (by cases h.1)) (Or.inl ⟨by rfl, ?h0⟩) hHeld ?_
      case h0 =>
        intro w' hSw
        (try dsimp only at hSw)
        go_simp
        (try with_reducible rfl)
      (try simp only [Act.put]); (try simp only [List.setIfInBounds_toArray]); (try simp only [List.set_cons_succ]); (try simp only [List.set_cons_zero])
      refine wpAnyH_take (i := 1) (v := ?_) rfl (by kernel_rfl) (by kernel_rfl) (by kernel_rfl) (fun _ _ _ h => (by cases h.1)) (Or.inl ⟨by rfl, ?h1⟩) hHeld ?_
      case h1 =>
        intro w' hSw
        (try dsimp only at hSw)
        go_simp
        (try with_reducible rfl)
      (try simp only [Act.put]); (try simp only [List.setIfInBounds_toArray]); (try simp only [List.set_cons_succ]); (try simp only [List.set_cons_zero])
      refine wpAnyH_take (i := 2) (v := ?_) rfl (by kernel_rfl) (by kernel_rfl) (by kernel_rfl) (fun _ _ _ h => (by cases h.1)) (Or.inl ⟨by rfl, ?h2⟩) hHeld ?_
      case h2 =>
        intro w' hSw
        (try dsimp only at hSw)
        go_simp
        (try with_reducible rfl)
      (try simp only [Act.put]); (try simp only [List.setIfInBounds_toArray]); (try simp only [List.set_cons_succ]); (try simp only [List.set_cons_zero])
      refine wpAnyH_take (i := 3) (v := ?_) rfl (by kernel_rfl) (by kernel_rfl) (by kernel_rfl) (fun _ _ _ h => (by cases h.1)) (Or.inl ⟨by rfl, ?h3⟩) hHeld ?_
      case h3 =>
        intro w' hSw
        (try dsimp only at hSw)
        go_simp
        (try with_reducible rfl)
      (try simp only [Act.put]); (try simp only [List.setIfInBounds_toArray]); (try simp only [List.set_cons_succ]); (try simp only [List.set_cons_zero])
      refine wpAnyH_take (i := 4) (v := ?_) rfl (by kernel_rfl) (by kernel_rfl) (by kernel_rfl) (fun _ _ _ h => (by cases h.1)) (Or.inl ⟨by rfl, ?h4⟩) hHeld ?_
      case h4 =>
        intro w' hSw
        (try dsimp only at hSw)
        go_simp
        (try with_reducible rfl)
      (try simp only [Act.put]); (try simp only [List.setIfInBounds_toArray]); (try simp only [List.set_cons_succ]); (try simp only [List.set_cons_zero])
      refine wpAnyH_take (i := 5) (v := ?_) rfl (by kernel_rfl) (by kernel_rfl) (by kernel_rfl) (fun _ _ _ h => (by cases h.1)) (Or.inl ⟨by rfl, ?h5⟩) hHeld ?_
      case h5 =>
        intro w' hSw
        (try dsimp only at hSw)
        go_simp
        (try with_reducible rfl)
      (try simp only [Act.put]); (try simp only [List.setIfInBounds_toArray]); (try simp only [List.set_cons_succ]); (try simp only [List.set_cons_zero])
      refine wpAnyH_ready (rs := [6]) (by kernel_rfl) (by simp) ?_
      refine AllReadyH.cons rfl (fun K hK => ?_) (AllReadyH.nil)
      refine step_memo_store rfl _ _ _ rfl mb i j hcs rfl HB3.out.memo.drew (by omega) (by omega) rfl rfl (fun W6 hm6 hg6 => ?_)
      have hS6 : MS w.heap.size nb Bd d i j mb (csD s al ot sk ss db x y sn i j) W6 := ⟨hHeld.1.kept hg6 (by simpa using hnm), hHeld.2.1.kept hg6 (by simpa using hwm), hg6.cell hHeld.2.2.1 (by simpa using hbm), hg6.cell hHeld.2.2.2 (by simpa using hdm)⟩
      refine hK.out _ _ hS6 (fun hHeld => ?_)
      exact wpAnyH_done (by kernel_rfl) ⟨rfl, (), rfl, hHeld, hm6, World.grownBy.drew' hg6⟩ _
    rintro _ W6 ⟨hHeld, hm6, hg6⟩
    have hn6 := hHeld.1.c1.1
    have hD6 : W6.heap[D]? = some (.deferred (some [])) := (hg6.block D (Array.getElem?_eq_some_iff.1 HKK.out).1 (by simp; omega)).trans HKK.out
    have HM6 := Lib.hid hm6
    have HG6 := Lib.hid hg6
    have HD6 := Lib.hid hD6
    clear hm6 hg6 hD6 hHeld
    simp only [Act.put, List.setIfInBounds_toArray, List.set_cons_zero, List.set_cons_succ]
    gi_wp2
    refine ⟨by simp, .inl ⟨_, _, rfl, run_takeDeferred HD6.out, ?_⟩⟩
    refine ⟨_, results_tmp rfl _ _ _, rfl, ?_, ?_⟩
    · exact HM6.out.kept (grownBy_putObj' _ D _) (by simp; omega)
    · exact grownBy_rowAny (HB4.out.trans' HG6.out) (grownBy_putObj' _ D _) (fun r e => by cases e; omega)
  case stop =>
    rintro D c pre W _ _ h _
    exact h.elim
end Go.Proofs.Ytkdflgaahhnigaa

namespace Go.Proofs.Ytkdflgaahhnigaa
open Go.RowKit Go.Shelf

theorem from_any (Bd Bf d : Nat) (a : Option Addr) (n c : Nat) (s : ByteArray) (al ot sk ss db : Nat) (x y : ByteArray) (sn : UInt8 → UInt8) (mb : Nat) (hx : NameB x) (hy : NameB y) (hbd : Bnd s al ot sk ss db x y sn) : ∀ (m i j : Nat), x.size - i + (y.size - j) ≤ m → i ≤ x.size → j ≤ y.size → ∀ w, Caps w Bd Bf d a n c s al ot sk ss db x y sn mb →
    Calls Try.prog 43 #[cellV i j, .pointer (some ⟨Bd, 0, none⟩), .pointer (some ⟨Bf, 0, none⟩)] w (FromPost (csD s al ot sk ss db x y sn i j) mb (FV s al ot sk ss db x y sn) w) := by
  intro m
  induction m with
  | zero =>
    intro i j hm hi hj w hc
    have h : i = x.size ∧ j = y.size := by omega
    have e : csD s al ot sk ss db x y sn i j = 0 := by
      obtain ⟨rfl, rfl⟩ := h; exact Nm.cs_end
    rw [e]
    exact from_over Bd Bf d i j a n c s al ot sk ss db x y sn mb w hc hi hj h
  | succ m ih =>
    intro i j hm hi hj w hc
    by_cases h : i = x.size ∧ j = y.size
    · have e : csD s al ot sk ss db x y sn i j = 0 := by
        obtain ⟨rfl, rfl⟩ := h; exact Nm.cs_end
      rw [e]
      exact from_over Bd Bf d i j a n c s al ot sk ss db x y sn mb w hc hi hj h
    · have hno : i < x.size ∨ j < y.size := by omega
      have h60 := hbd.2.2.1
      have h60' := hbd.2.2.2
      rcases hc.memo.lookAll i j (by omega) (by omega) with hl | hl
      · exact from_sum Bd Bf d i j a n c s al ot sk ss db x y sn mb w hc hi hj hx hy hbd (fun i2 j2 h1 h2 h3 W hW => ih i2 j2 (by omega) h1 h2 W hW) hno hl
      · exact from_known Bd Bf d i j a n c s al ot sk ss db x y sn mb w hc hi hj _ hno hl
set_option maxRecDepth 100000 in
set_option maxHeartbeats 1000000 in
theorem cost_any (d i j : Nat) (a : Option Addr) (n c : Nat) (s : ByteArray) (al ot sk ss db : Nat) (x y : ByteArray) (sn : UInt8 → UInt8) (mb : Nat) (hx : NameB x) (hy : NameB y) (hbd : Bnd s al ot sk ss db x y sn) (hi : i ≤ x.size) (hj : j ≤ y.size) (w : World) (hm : Memo w mb (FV s al ot sk ss db x y sn)) (hd : DuelB w d a n c s al ot sk ss db x y sn mb) :
    Calls Try.prog 18 #[.pointer (some ⟨d, 0, none⟩), cellV i j] w (FromPost (csD s al ot sk ss db x y sn i j) mb (FV s al ot sk ss db x y sn) w) := by
  have C := Lib.hid (from_any w.heap.size (w.heap.size + 1 + 1) d a n c s al ot sk ss db x y sn mb hx hy hbd _ i j (Nat.le_refl _) hi hj)
  have b3 := three_new w #[.pointer (some ⟨d, 0, none⟩)] #[.int .i64 i, .int .i64 j] #[.func (.func 43) #[] #[.pointer (some ⟨w.heap.size, 0, none⟩), .pointer (some ⟨w.heap.size + 1 + 1, 0, none⟩)]] 49 53 51
  have hb := b3.2.2.2.1
  have HC := Lib.hid (show Caps (((w.alloc (.cells #[.pointer (some ⟨d, 0, none⟩)] 49)).alloc (.cells #[.int .i64 i, .int .i64 j] 53)).alloc (.cells #[.func (.func 43) #[] #[.pointer (some ⟨w.heap.size, 0, none⟩), .pointer (some ⟨w.heap.size + 1 + 1, 0, none⟩)]] 51)) w.heap.size (w.heap.size + 1 + 1) d a n c s al ot sk ss db x y sn mb from ⟨hm.below hb hm.lt, hd.below hb, b3.1, b3.2.2.1⟩)
  have HB := Lib.hid hb
  unfold FromPost at *
  clear b3 hb hm hd hx hy hbd hi hj
  generalize csD s al ot sk ss db x y sn i j = v at *
  go_enter Try.func18, Try.ntmps18
  go_wp2_with fail
  refine (C.out _ HC.out).mono ?_
  rintro e w1 ⟨rfl, hm1, hg1⟩
  have HM1 := Lib.hid hm1
  have HG1 := Lib.hid hg1
  clear hm1 hg1
  go_wp2
  go_ret
  exact ⟨rfl, HM1.out, (grownBy_below HB.out (some mb)).trans' HG1.out⟩
end Go.Proofs.Ytkdflgaahhnigaa
