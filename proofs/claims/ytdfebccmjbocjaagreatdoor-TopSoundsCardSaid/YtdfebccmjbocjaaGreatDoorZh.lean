/- sheet: the cells of a work; the block of an entry. -/
import Derived.Test.YtdfebccmjbocjaaGreatDoorZg
import Derived.Lib.OwnBridge
import Derived.Lib.SmallJoins
set_option linter.unusedVariables false
set_option linter.unusedSimpArgs false
namespace Go.Proofs.YtdfebccmjbocjaaGreatDoor
open Go.RowKit Go.Shelf

/-- whatever lay there lies there, but for the blocks E -/
structure Kx (E : Nat → Prop) (W W' : World) : Prop where
  os : W'.os = W.os
  tape : W'.tape = W.tape
  output : W'.output = W.output
  size : W.heap.size ≤ W'.heap.size
  block : ∀ k, k < W.heap.size → ¬ E k → W'.heap[k]? = W.heap[k]?
section
variable {E : Nat → Prop} {W W' W'' : World}
theorem Kx.refl (E : Nat → Prop) (W : World) : Kx E W W := ⟨rfl, rfl, rfl, Nat.le_refl _, fun _ _ _ => rfl⟩
theorem Kx.trans (h : Kx E W W') (k : Kx E W' W'') : Kx E W W'' := ⟨k.os.trans h.os, k.tape.trans h.tape, k.output.trans h.output, Nat.le_trans h.size k.size, fun i hi hE => (k.block i (Nat.lt_of_lt_of_le hi h.size) hE).trans (h.block i hi hE)⟩
theorem Kx.below (h : Below W.heap.size W W') : Kx E W W' := ⟨h.os, h.tape, h.output, h.size, fun i hi _ => h.block i hi⟩
theorem Kx.grown {row : Option Nat} (h : W.grownBy W' row) (hr : ∀ r, row = some r → E r) : Kx E W W' := ⟨h.os, h.tape, h.output, h.size, fun i hi hE => h.block i hi (fun e => hE (hr i e.symm))⟩
theorem Kx.set {a : Addr} (hE : E a.block) (v : Value) : Kx E W (W.setCell a v) := ⟨rfl, rfl, rfl, by simp [World.setCell], fun i _ hi => Below.heap_setCell W a v i (fun e => hi (by rw [e]; exact hE))⟩
theorem Kx.drew : Kx E W W.drew := Kx.below (Below.refl _ _).drew
theorem Kx.mono {E' : Nat → Prop} (h : Kx E W W') (he : ∀ k, E k → E' k) : Kx E' W W' := ⟨h.os, h.tape, h.output, h.size, fun i hi hE => h.block i hi (fun e => hE (he i e))⟩
theorem Kx.bel {B : Nat} (h : Kx E W W') (hB : B ≤ W.heap.size) (he : ∀ k, E k → B ≤ k) : Below B W W' := ⟨h.os, h.tape, h.output, h.size, fun i hi => h.block i (by omega) (fun e => by have := he i e; omega)⟩
theorem Kx.blk (h : Kx E W W') {b : Nat} {cs : Array Value} {t : TypeId} (hb : Blk W b cs t) (hE : ¬ E b) : Blk W' b cs t := (h.block b hb.lt hE).trans hb
theorem Kx.cell (h : Kx E W W') {p : Addr} (hl : p.block < W.heap.size) (hE : ¬ E p.block) : W'.cell? p = W.cell? p := by
  unfold World.cell?; rw [h.block p.block hl hE]
theorem Kx.own {base : Nat} {e : TypeId} {size n : Nat} {v : Value} {xs : List Value} (h : Kx E W W') (ho : W.ownsRow base e size v n xs) (hE : ∀ r, v.ownBlock = some r → ¬ E r) : W'.ownsRow base e size v n xs := by
  rcases ho with ⟨h1, ⟨rfl, rfl⟩ | ⟨g, cap, cur, rfl, hb, hg, hn, hm, hs, ht⟩⟩
  · exact ⟨h1, .inl ⟨rfl, rfl⟩⟩
  · exact ⟨h1, .inr ⟨g, cap, cur, rfl, hb, (h.block g (Array.getElem?_eq_some_iff.1 hg).1 (hE g (by simp [Value.ownBlock]))).trans hg, hn, hm, hs, ht⟩⟩
end

def setsV (l : List Nat) : List Value := l.map fun (k : Nat) => Value.int .u64 (k : Int)
def OwnS (W : World) (base : Nat) (v : Value) (l : List Nat) : Prop := W.ownsRow base 109 1 v l.length (setsV l)
/-- the cells of a work -/
structure WkC (cs : Array Value) (e s a : Value) (ol oh nl nh : Int) (bv : Value) (one : Nat → Bool) (L : Nat → Nat) : Prop where
  size : cs.size = 2056
  c0 : cs[0]? = some e
  c1 : cs[1]? = some s
  c2 : cs[2]? = some a
  c3 : cs[3]? = some (.int .i64 ol)
  c4 : cs[4]? = some (.int .i64 oh)
  c5 : cs[5]? = some (.int .i64 nl)
  c6 : cs[6]? = some (.int .i64 nh)
  c7 : cs[7]? = some bv
  one : ∀ j, j < 1024 → cs[8 + j]? = some (.bool (one j))
  least : ∀ j, j < 1024 → cs[1032 + j]? = some (.int .i64 (L j : Int))
section
variable {cs : Array Value} {e s a : Value} {ol oh nl nh : Int} {bv : Value} {one : Nat → Bool} {L : Nat → Nat}
theorem get_set_ne {cs : Array Value} {i j : Nat} {v : Value} {r : Option Value} (h : cs[j]? = r) (hne : i ≠ j) : (cs.setIfInBounds i v)[j]? = r := by
  rw [Array.getElem?_setIfInBounds, if_neg hne]; exact h
theorem get_set_eq {cs : Array Value} {i : Nat} {v : Value} (h : i < cs.size) : (cs.setIfInBounds i v)[i]? = some v := by
  rw [Array.getElem?_setIfInBounds, if_pos rfl, if_pos h]
theorem WkC.setB (h : WkC cs e s a ol oh nl nh bv one L) (v : Value) : WkC (cs.setIfInBounds 7 v) e s a ol oh nl nh v one L :=
  ⟨by simp [h.size], get_set_ne h.c0 (by omega), get_set_ne h.c1 (by omega), get_set_ne h.c2 (by omega), get_set_ne h.c3 (by omega), get_set_ne h.c4 (by omega), get_set_ne h.c5 (by omega), get_set_ne h.c6 (by omega), get_set_eq (by rw [h.size]; omega), fun j hj => get_set_ne (h.one j hj) (by omega), fun j hj => get_set_ne (h.least j hj) (by omega)⟩
theorem WkC.setO (h : WkC cs e s a ol oh nl nh bv one L) {i : Nat} (hi : i < 1024) (b : Bool) : WkC (cs.setIfInBounds (8 + i) (.bool b)) e s a ol oh nl nh bv (fun j => if j = i then b else one j) L :=
  ⟨by simp [h.size], get_set_ne h.c0 (by omega), get_set_ne h.c1 (by omega), get_set_ne h.c2 (by omega), get_set_ne h.c3 (by omega), get_set_ne h.c4 (by omega), get_set_ne h.c5 (by omega), get_set_ne h.c6 (by omega), get_set_ne h.c7 (by omega), fun j hj => by
    by_cases hji : j = i
    · subst hji; rw [get_set_eq (by rw [h.size]; omega)]; simp
    · rw [get_set_ne (h.one j hj) (by omega)]; simp [hji], fun j hj => get_set_ne (h.least j hj) (by omega)⟩
theorem WkC.setL (h : WkC cs e s a ol oh nl nh bv one L) {i : Nat} (hi : i < 1024) (x : Nat) : WkC (cs.setIfInBounds (1032 + i) (.int .i64 (x : Int))) e s a ol oh nl nh bv one (fun j => if j = i then x else L j) :=
  ⟨by simp [h.size], get_set_ne h.c0 (by omega), get_set_ne h.c1 (by omega), get_set_ne h.c2 (by omega), get_set_ne h.c3 (by omega), get_set_ne h.c4 (by omega), get_set_ne h.c5 (by omega), get_set_ne h.c6 (by omega), get_set_ne h.c7 (by omega), fun j hj => get_set_ne (h.one j hj) (by omega), fun j hj => by
    by_cases hji : j = i
    · subst hji; rw [get_set_eq (by rw [h.size]; omega)]; simp
    · rw [get_set_ne (h.least j hj) (by omega)]; simp [hji]⟩
end
/-- sets in a row -/
def SetsAt (W : World) (b o : Nat) (l : List Nat) : Prop := ∀ (i : Nat) (x : Nat), l[i]? = some x → W.cell? ⟨b, o + i, none⟩ = some (.int .u64 (x : Int))
theorem SetsAt.below {W W' : World} {B b o : Nat} {l : List Nat} (h : SetsAt W b o l) (hb : Below B W W') (hlt : b < B) : SetsAt W' b o l := fun i x hi => (hb.cell (p := ⟨b, _, none⟩) hlt).trans (h i x hi)
theorem OwnS.at_ {W : World} {base g n c : Nat} {l : List Nat} (h : OwnS W base (.slice (some ⟨g, 0, none⟩) n c) l) : SetsAt W g 0 l := fun i x hi => by
  have hl := (List.getElem?_eq_some_iff.1 hi).1
  have hn : n = l.length := by
    rcases h.2 with ⟨e, _⟩ | ⟨g2, cap, cur, e, _⟩
    · cases e
    · cases e; rfl
  subst hn
  have h' : W.ownsRow base 109 1 (.slice (some ⟨g, 0, none⟩) l.length c) l.length (setsV l) := h
  rw [Nat.zero_add, h'.cellAt i (by rw [Nat.mul_one]; exact hl)]
  simp [setsV, hi]
theorem OwnS.form {W : World} {base : Nat} {v : Value} {l : List Nat} (h : OwnS W base v l) (h0 : 0 < l.length) : ∃ g c, v = .slice (some ⟨g, 0, none⟩) l.length c := Joins.ownsRow_form h h0
set_option maxRecDepth 100000 in
set_option maxHeartbeats 800000 in
theorem indexS_any (b o bx cap n : Nat) (l : List Nat) (en : Nat) (w : World) (hN : l.length = n) (hb : b < w.heap.size) (hbx : bx < w.heap.size) (hn : n ≤ 1000) (hl : ∀ x ∈ l, x < 1024) (hen : en < 64) (ha : SetsAt w b o l) (hx : w.cell? ⟨bx, 0, none⟩ = some (.int .i64 (en : Int))) (hex : ∃ x ∈ l, x.testBit en = true) :
    Calls Tryz.prog 162 #[.slice (some ⟨b, o, none⟩) n cap, .func (.func 163) #[] #[.pointer (some ⟨bx, 0, none⟩)]] w fun e w' => e = .returned (.int .i64 ((Sh.blockAt l en : Nat) : Int)) ∧ w = w' := by
  have HA := Lib.hid ha
  have HN := Lib.hid hN
  have HL := Lib.hid hl
  have HE := Lib.hid hex
  have CC := Lib.hid (fun (x : Nat) (hx1 : x < 1024) => (show Calls Tryz.prog 163 #[.int .u64 (x : Int), .pointer (some ⟨bx, 0, none⟩)] w fun e w' => e = .returned (.bool (x.testBit en)) ∧ w = w' by
    have C := Lib.hid (has_any x en hx1 hen w)
    clear ha hN hl hex hx1
    generalize x.testBit en = q at *
    go_enter Tryz.func163, Tryz.ntmps163
    go_wp2_with (go_at_call 41; (with_reducible refine C.out.mono ?_); rintro e w' ⟨rfl, rfl⟩)
    go_ret
    exact ⟨rfl, rfl⟩))
  clear ha hN hl hex hx
  go_enter Tryz.func162, Tryz.ntmps162
  go_wp2
  go_loop [8] (fun x => ∃ i : Nat, i ≤ n ∧ x = .int .i64 (i : Int) ∧ Hid (∀ j a, j < i → l[j]? = some a → a.testBit en = false)) (fun x => n - (intOf x).toNat)
  case atStart => exact ⟨0, by omega, rfl, fun j a h => by omega⟩
  case round =>
    obtain ⟨i, hi, rfl, H⟩ := hrel
    by_cases hlt : i < n
    · obtain ⟨x, hai⟩ : ∃ a, l[i]? = some a := ⟨l[i]'(by rw [HN.out]; exact hlt), by simp⟩
      have k0 := HA.out i x hai
      have p0 : (0 : Int) ≤ (i : Int) := by omega
      have p1 : (i : Int) < (n : Int) := by omega
      have C := Lib.hid (CC.out x (HL.out x (List.mem_of_getElem? hai)))
      have HI := Lib.hid hai
      clear hai
      cases hok : x.testBit en with
      | false =>
        rw [hok] at C
        have OK := Lib.hid hok
        clear hok
        go_wp2_with (go_at_call 163; (with_reducible refine C.out.mono ?_); rintro e w' ⟨rfl, rfl⟩)
        go_round
        case rel =>
          refine ⟨i + 1, by omega, by go_num, fun j a hj hja => ?_⟩
          rcases Nat.lt_succ_iff_lt_or_eq.1 hj with h | rfl
          · exact H.out j a h hja
          · rw [HI.out] at hja; cases hja; exact OK.out
        case measure => simp [intOf]; omega
      | true =>
        rw [hok] at C
        have OK := Lib.hid hok
        clear hok
        have he : Sh.blockAt l en = i := by
          unfold Sh.blockAt
          have hil : i < l.length := by rw [HN.out]; exact hlt
          refine (List.findIdx_eq hil).2 ⟨?_, fun j hj => ?_⟩
          · have h1 := HI.out
            rw [List.getElem?_eq_getElem hil] at h1
            cases h1; exact OK.out
          · exact H.out j _ hj (List.getElem?_eq_getElem (by omega))
        have HEQ := Lib.hid he
        clear he
        go_wp2_with (go_at_call 163; (with_reducible refine C.out.mono ?_); rintro e w' ⟨rfl, rfl⟩)
        go_ret
        exact ⟨by rw [HEQ.out]; rfl, rfl⟩
    · exfalso
      obtain ⟨x, hx, ht⟩ := HE.out
      obtain ⟨j, hj⟩ := List.getElem?_of_mem hx
      have hjl : j < l.length := (List.getElem?_eq_some_iff.1 hj).1
      rw [H.out j x (by rw [HN.out] at hjl; omega) hj] at ht
      cases ht
theorem block_any (g gr cap n en : Nat) (l : List Nat) (w : World) (hg : g < w.heap.size) (hgr : gr < w.heap.size) (h7 : w.cell? ⟨g, 7, none⟩ = some (.slice (some ⟨gr, 0, none⟩) n cap)) (hN : l.length = n) (hn : n ≤ 1000) (hl : ∀ x ∈ l, x < 1024) (hen : en < 64) (ha : SetsAt w gr 0 l) (hex : ∃ x ∈ l, x.testBit en = true) :
    Calls Tryz.prog 141 #[.pointer (some ⟨g, 0, none⟩), .int .i64 (en : Int)] w fun e w' => e = .returned (.int .i64 ((Sh.blockAt l en : Nat) : Int)) ∧ Below w.heap.size w w' := by
  have B1 : Below w.heap.size w (w.alloc (.cells #[.int .i64 (en : Int)] 3)) := (Below.refl _ _).alloc (Nat.le_refl _) _
  have C := Lib.hid (indexS_any gr 0 w.heap.size cap n l en _ hN (Nat.lt_of_lt_of_le hgr B1.size) (by simp) hn hl hen (ha.below B1 hgr) ((Blk.new w #[.int .i64 (en : Int)] 3).cell 0) hex)
  have h7' := (B1.cell (p := ⟨g, 7, none⟩) hg).trans h7
  have BB := Lib.hid B1
  clear h7 hN hl ha hex B1
  generalize Sh.blockAt l en = r at *
  go_enter Tryz.func141, Tryz.ntmps141
  go_wp2_with (go_at_call 162; (with_reducible refine C.out.mono ?_); rintro e w' ⟨rfl, rfl⟩)
  go_ret
  exact ⟨rfl, BB.out⟩
end Go.Proofs.YtdfebccmjbocjaaGreatDoor
