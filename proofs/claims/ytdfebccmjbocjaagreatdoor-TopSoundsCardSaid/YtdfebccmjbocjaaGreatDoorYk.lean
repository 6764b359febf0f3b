/- tithinglaw02: Truly. -/
import Derived.Test.YtdfebccmjbocjaaGreatDoorYj
set_option linter.unusedVariables false
set_option linter.unusedSimpArgs false
namespace Go.Proofs.YtdfebccmjbocjaaGreatDoor
open Go.RowKit Go.Shelf
/-- the truth of a census by words -/
structure TF (es : List Ent) (sm ap : List (Nat × Nat)) (of : List Nat) (om nu : Nat × Nat) : Prop where
  tp : TP es of
  n9 : of.length ≤ 9
  psm : PrT of true sm
  pap : PrT of false ap
  s5 : sm.length ≤ 5
  a5 : ap.length ≤ 5
  rom : om.1 ≤ om.2 ∧ om.2 ≤ 100
  rnu : nu.1 ≤ nu.2 ∧ nu.2 ≤ 200
  lo : nu.1 ≤ manyL of + om.2
  hi : manyL of + om.1 ≤ nu.2
def TrulyPost (m : Nat) (w : World) (x : Ending) (w' : World) : Prop :=
  ∃ (ve vs va vo : Value) (es : List Ent) (sm ap : List (Nat × Nat)) (of : List Nat) (om nu : Nat × Nat), x = .returned (.tuple #[cenV ve vs va (om.1 : Int) (om.2 : Int) (nu.1 : Int) (nu.2 : Int), vo]) ∧ TF es sm ap of om nu ∧
    (w'.ownsRow (w.heap.size + 2) 47 5 ve es.length (entsV es) ∧ w'.ownsRow (w.heap.size + 2) 92 2 vs sm.length (pairsV sm) ∧ w'.ownsRow (w.heap.size + 2) 92 2 va ap.length (pairsV ap) ∧ OwnN w' (w.heap.size + 2) vo of) ∧ (Below w.heap.size w w' ∧ of.length ≤ m)
def freeB (es : List Ent) (of : List Nat) (p sc k : Nat) : Bool := (List.range k).all fun j => !(ofF of j == p) || !((entG es j).s == sc)
theorem freeB_succ (es : List Ent) (of : List Nat) (p sc k : Nat) : freeB es of p sc (k + 1) = (freeB es of p sc k && (!(ofF of k == p) || !((entG es k).s == sc))) := by
  unfold freeB; rw [List.range_succ, List.all_append]; simp
theorem freeB_spec {es : List Ent} {of : List Nat} {p sc k : Nat} (h : freeB es of p sc k = true) : ∀ j, j < k → ofF of j = p → (entG es j).s ≠ sc := by
  intro j hj hp hs
  unfold freeB at h
  have := List.all_eq_true.1 h j (List.mem_range.2 hj)
  simp [hp, hs] at this
def ageR (es : List Ent) (of : List Nat) (p a0 k A : Nat) : Prop := (A = a0 ∧ ∀ j, j < k → ofF of j ≠ p) ∨ ∃ j, j < k ∧ ofF of j = p ∧ (entG es j).lo = A
theorem ageR_zero (es : List Ent) (of : List Nat) (p a0 : Nat) : ageR es of p a0 0 a0 := .inl ⟨rfl, fun j h => absurd h (Nat.not_lt_zero _)⟩
theorem ageR_skip {es : List Ent} {of : List Nat} {p a0 k A : Nat} (h : ageR es of p a0 k A) (hk : ofF of k ≠ p) : ageR es of p a0 (k + 1) A := by
  rcases h with ⟨h1, h2⟩ | ⟨j, h1, h2, h3⟩
  · exact .inl ⟨h1, fun j hj => by rcases Nat.lt_succ_iff_lt_or_eq.1 hj with h | rfl; exact h2 j h; exact hk⟩
  · exact .inr ⟨j, by omega, h2, h3⟩
theorem ageR_take {es : List Ent} {of : List Nat} {p a0 k A : Nat} (hk : ofF of k = p) (hA : (entG es k).lo = A) : ageR es of p a0 (k + 1) A := .inr ⟨k, by omega, hk, hA⟩
theorem ageR_all {es : List Ent} {of : List Nat} {p a0 A : Nat} (h : ageR es of p a0 of.length A) (hT : TP es of) (h0 : 30 ≤ a0 ∧ a0 ≤ 31) : (30 ≤ A ∧ A ≤ 31) ∧ ∀ j, j < of.length → ofF of j = p → (entG es j).lo = A := by
  rcases h with ⟨h1, h2⟩ | ⟨j, h1, h2, h3⟩
  · subst h1
    exact ⟨h0, fun j hj hp => absurd hp (h2 j hj)⟩
  · have := hT.ent j h1
    refine ⟨by omega, fun j' hj' hp' => ?_⟩
    by_cases e : j' = j
    · subst e; exact h3
    · rw [(hT.same j' j hj' h1 e (hp'.trans h2.symm)).2, h3]
/-- the cells of the list of persons and of the entries -/
theorem ofF_get {of : List Nat} {i : Nat} (h : i < of.length) : of[i]? = some (ofF of i) := by
  unfold ofF; rw [List.getD_eq_getElem?_getD, List.getElem?_eq_getElem h]; rfl
theorem entG_get {es : List Ent} {i : Nat} (h : i < es.length) : es[i]? = some (entG es i) := by
  unfold entG; rw [List.getD_eq_getElem?_getD, List.getElem?_eq_getElem h]; rfl
theorem nat_forms (a b : Nat) : ((a : Int).tmod (b : Int) = ((a % b : Nat) : Int) ∧ (a : Int) % (b : Int) = ((a % b : Nat) : Int)) ∧ ((a : Int).tdiv (b : Int) = ((a / b : Nat) : Int) ∧ (a : Int) / (b : Int) = ((a / b : Nat) : Int)) :=
  ⟨⟨(Int.ofNat_tmod a b).symm, (Int.natCast_emod a b).symm⟩, (Int.ofNat_tdiv a b).symm, (Int.natCast_ediv a b).symm⟩
theorem wordN_lt {W : World} {a : Option Addr} {g o n : Nat} {l : List Nat} (h : U16K W a g o n l) (k : Nat) : wordN l k ≤ 65535 := by
  unfold wordN
  rw [List.getD_eq_getElem?_getD]
  cases hx : l[k % l.length]? with
  | none => simp
  | some x => have := h.2.2.2.2 x (List.mem_of_getElem? hx); simp; omega
theorem TI.boxS {w W W' : World} {ve vs va vo : Value} {es : List Ent} {sm ap : List (Nat × Nat)} {of : List Nat} {ol oh nl nh : Int} (h : TI w ve vs va vo es sm ap of ol oh nl nh W) (hg : W.grownBy W' vs.ownBlock) : Blk W' (w.heap.size + 1) (cenA ve vs va ol oh nl nh) 40 := (h.boxG hg (fun r e => (h.s.lt r e).1)).1
theorem TI.boxA {w W W' : World} {ve vs va vo : Value} {es : List Ent} {sm ap : List (Nat × Nat)} {of : List Nat} {ol oh nl nh : Int} (h : TI w ve vs va vo es sm ap of ol oh nl nh W) (hg : W.grownBy W' va.ownBlock) : Blk W' (w.heap.size + 1) (cenA ve vs va ol oh nl nh) 40 := (h.boxG hg (fun r e => (h.a.lt r e).1)).1
theorem new_dr2 (w : World) (o : Obj) (q q2 : Nat) (cs : Array Value) (t : TypeId) : Blk ((((w.alloc o).drewN q).drewN q2).alloc (.cells cs t)) (w.heap.size + 1) cs t := by
  have h := Blk.new (((w.alloc o).drewN q).drewN q2) cs t
  have e : (((w.alloc o).drewN q).drewN q2).heap.size = w.heap.size + 1 := by simp [World.drewN]
  rwa [e] at h
theorem new_dr (w : World) (o : Obj) (q : Nat) (cs : Array Value) (t : TypeId) : Blk (((w.alloc o).drewN q).alloc (.cells cs t)) (w.heap.size + 1) cs t := by
  have h := Blk.new ((w.alloc o).drewN q) cs t
  have e : ((w.alloc o).drewN q).heap.size = w.heap.size + 1 := by simp [World.drewN]
  rwa [e] at h
theorem TI.setO {w W : World} {ve vs va vo : Value} {es : List Ent} {sm ap : List (Nat × Nat)} {of : List Nat} {ol oh nl nh : Int} (h : TI w ve vs va vo es sm ap of ol oh nl nh W) (x y : Int) : TI w ve vs va vo es sm ap of x y nl nh ((W.setCell ⟨w.heap.size + 1, 3, none⟩ (.int .i64 x)).setCell ⟨w.heap.size + 1, 4, none⟩ (.int .i64 y)) := by
  have hb := (h.box.set 3 (.int .i64 x)).set 4 (.int .i64 y)
  simp only [List.setIfInBounds_toArray, List.set_cons_zero, List.set_cons_succ] at hb
  exact ⟨(h.res.other (a := ⟨w.heap.size + 1, 3, none⟩) (by show w.heap.size ≠ w.heap.size + 1; omega) _).other (a := ⟨w.heap.size + 1, 4, none⟩) (by show w.heap.size ≠ w.heap.size + 1; omega) _, hb, own_setc (B := 0) (own_setc (B := 0) h.e _) _, own_setc (B := 0) (own_setc (B := 0) h.s _) _, own_setc (B := 0) (own_setc (B := 0) h.a _) _, h.sa, own_setc (B := 0) (own_setc (B := 0) h.o _) _, (h.bel.setCell (p := ⟨w.heap.size + 1, 3, none⟩) (Nat.le_succ _) _).setCell (p := ⟨w.heap.size + 1, 4, none⟩) (Nat.le_succ _) _⟩
theorem TI.setN {w W : World} {ve vs va vo : Value} {es : List Ent} {sm ap : List (Nat × Nat)} {of : List Nat} {ol oh nl nh : Int} (h : TI w ve vs va vo es sm ap of ol oh nl nh W) (x y : Int) : TI w ve vs va vo es sm ap of ol oh x y ((W.setCell ⟨w.heap.size + 1, 5, none⟩ (.int .i64 x)).setCell ⟨w.heap.size + 1, 6, none⟩ (.int .i64 y)) := by
  have hb := (h.box.set 5 (.int .i64 x)).set 6 (.int .i64 y)
  simp only [List.setIfInBounds_toArray, List.set_cons_zero, List.set_cons_succ] at hb
  exact ⟨(h.res.other (a := ⟨w.heap.size + 1, 5, none⟩) (by show w.heap.size ≠ w.heap.size + 1; omega) _).other (a := ⟨w.heap.size + 1, 6, none⟩) (by show w.heap.size ≠ w.heap.size + 1; omega) _, hb, own_setc (B := 0) (own_setc (B := 0) h.e _) _, own_setc (B := 0) (own_setc (B := 0) h.s _) _, own_setc (B := 0) (own_setc (B := 0) h.a _) _, h.sa, own_setc (B := 0) (own_setc (B := 0) h.o _) _, (h.bel.setCell (p := ⟨w.heap.size + 1, 5, none⟩) (Nat.le_succ _) _).setCell (p := ⟨w.heap.size + 1, 6, none⟩) (Nat.le_succ _) _⟩
theorem TI.call32 {w W : World} {ve vs va vo : Value} {es : List Ent} {sm ap : List (Nat × Nat)} {of : List Nat} {ol oh nl nh : Int} (h : TI w ve vs va vo es sm ap of ol oh nl nh W) (hT : TP es of) (h9 : of.length ≤ 9) : Calls Tryz.prog 32 #[vo] W fun e w' => e = .returned (.int .i64 (manyL of : Nat)) ∧ Below W.heap.size W w' := by
  obtain ⟨s, hv, hs, _⟩ := SlN.of_own h.o
  rw [hv]
  exact persons32 s of.length of W rfl hs (by omega) (fun i hi => by have := hT.lt5 i hi; omega)
theorem set_new (w : World) (a : Addr) (v : Value) (cs : Array Value) (t : TypeId) : Blk ((w.setCell a v).alloc (.cells cs t)) w.heap.size cs t := by
  have h := Blk.new (w.setCell a v) cs t
  have e : (w.setCell a v).heap.size = w.heap.size := by simp [World.setCell]
  rwa [e] at h
set_option maxRecDepth 100000 in
set_option maxHeartbeats 8000000 in
theorem Truly_any (a : Option Addr) (g o c m : Nat) (ws : List Nat) (w : World) (hW : U16K w a g o m ws) (hm : m ≤ 9223372036854775807) : Calls Tryz.prog 11 #[.slice a m c] w (TrulyPost m w) := by
  have s0 := ((KS.start w).new (cenA (.slice none 0 0) (.slice none 0 0) (.slice none 0 0) 0 0 0 0) 40).new (cenA (.slice none 0 0) (.slice none 0 0) (.slice none 0 0) 0 0 0 0) 40
  simp only [World.size_alloc] at s0
  have h0 : TI w (.slice none 0 0) (.slice none 0 0) (.slice none 0 0) (.slice none 0 0) [] [] [] [] 0 0 0 0 ((w.alloc (.cells (cenA (.slice none 0 0) (.slice none 0 0) (.slice none 0 0) 0 0 0 0) 40)).alloc (.cells (cenA (.slice none 0 0) (.slice none 0 0) (.slice none 0 0) 0 0 0 0) 40)) :=
    ⟨s0.blkAt 1 rfl, s0.blkAt 0 rfl, ⟨rfl, .inl ⟨rfl, rfl⟩⟩, ⟨rfl, .inl ⟨rfl, rfl⟩⟩, ⟨rfl, .inl ⟨rfl, rfl⟩⟩, fun r e => (by cases e), ⟨rfl, .inl ⟨rfl, rfl⟩⟩, s0.bel⟩
  have H0 := Lib.hid h0
  have HW := Lib.hid hW
  obtain ⟨i3, hi0, hz0, hz1, hz2⟩ := info_parts Tryz.info3'
  have HI3 := Lib.hid (And.intro hi0 (And.intro hz0 (And.intro hz1 hz2)))
  obtain ⟨i47, hi0', hz0', hz1', hz2'⟩ := info_parts Tryz.info47
  have HI47 := Lib.hid (And.intro hi0' (And.intro hz0' (And.intro hz1' hz2')))
  obtain ⟨i92, hi0'', hz0'', hz1'', hz2''⟩ := info_parts Tryz.info92
  have HI92 := Lib.hid (And.intro hi0'' (And.intro hz0'' (And.intro hz1'' hz2'')))
  clear s0 h0 hW hi0 hz0 hz1 hz2 hi0' hz0' hz1' hz2' hi0'' hz0'' hz1'' hz2''
  go_enter Tryz.func11, Tryz.ntmps11
  go_wp2_with fail
  go_loopw [6, 5] (fun x v wr => ∃ (i : Nat) (ve : Value) (es : List Ent) (of : List Nat), i ≤ 9 ∧ x = .int .i64 (i : Int) ∧ Hid (TI w ve (.slice none 0 0) (.slice none 0 0) v es [] [] of 0 0 0 0 wr ∧ TP es of ∧ (of.length ≤ i ∧ of.length ≤ m))) (fun x _ _ => 9 - (intOf x).toNat)
  case atStart => exact ⟨0, _, [], [], by omega, rfl, Lib.hid ⟨H0.out, TP.nil, by simp⟩⟩
  case round =>
    clear H0
    obtain ⟨i, ve, es, of, hi, rfl, H⟩ := hrel
    by_cases hlt : i < m ∧ i < 9
    · obtain ⟨hlm, hl9⟩ := hlt
      obtain ⟨ol, hv, hsl, _⟩ := SlN.of_own H.out.1.o
      subst hv
      obtain ⟨el, hv2, hse, _, _⟩ := own_sle H.out.1.e
      subst hv2
      have hwl := HW.out.below H.out.1.bel
      obtain ⟨wd, hwd⟩ : ∃ x, ws[i]? = some x := ⟨_, List.getElem?_eq_getElem (by rw [HW.out.1]; exact hlm)⟩
      have hne : ws ≠ [] := by rintro rfl; simp at hwd
      have e1 := HW.out.2.1 hne
      subst e1
      have cw := hwl.2.2.1 i wd hwd
      have lw := hwl.2.2.2.1 hne
      have hx16 := HW.out.2.2.2.2 wd (List.mem_of_getElem? hwd)
      have ex : IntKind.i64.wrap (wd : Int) = (wd : Int) := IntWalk.i64_in _ (by omega)
      have b0 : (0 : Int) ≤ (i : Int) := by omega
      have b1 : (i : Int) < (m : Int) := by omega
      have b2 : (i : Int) < 9 := by omega
      have F5 := nat_forms wd 5
      obtain ⟨P, hP⟩ : ∃ P, P = wd % 5 := ⟨_, rfl⟩
      obtain ⟨D, hD⟩ : ∃ D, D = wd / 5 := ⟨_, rfl⟩
      rw [← hP, ← hD] at F5
      obtain ⟨⟨m1, m2⟩, m3, m4⟩ := F5
      have F10 := nat_forms D 10
      obtain ⟨S, hS⟩ : ∃ S, S = D % 10 := ⟨_, rfl⟩
      rw [← hS] at F10
      obtain ⟨⟨m5, m6⟩, -, -⟩ := F10
      change (wd : Int).tmod 5 = (P : Int) at m1
      change (wd : Int) % 5 = (P : Int) at m2
      change (wd : Int).tdiv 5 = (D : Int) at m3
      change (wd : Int) / 5 = (D : Int) at m4
      change (D : Int).tmod 10 = (S : Int) at m5
      change (D : Int) % 10 = (S : Int) at m6
      have hP5 : P < 5 := by omega
      have hS9 : S ≤ 9 := by omega
      have HN := Lib.hid (And.intro hsl hse)
      have HPS := Lib.hid (And.intro hP (And.intro hD (And.intro hS hx16)))
      obtain ⟨y0, y1, y2, y3, y4, y5, y6⟩ := H.out.1.box.c7
      have yl := H.out.1.box.lt
      clear hsl hse hwl hwd hne hP hD hS
      go_wp2_with fail
      go_loopw [11, 10] (fun x f wr2 => ∃ k : Nat, k ≤ of.length ∧ x = .int .i64 (k : Int) ∧ f = .bool (freeB es of P S k) ∧ wr2 = wr) (fun x _ _ => of.length - (intOf x).toNat)
      case atStart => exact ⟨0, Nat.zero_le _, rfl, rfl, rfl⟩
      case round =>
        obtain ⟨k, hk, rfl, rfl, rfl⟩ := hrel
        by_cases hkl : k < of.length
        · have hel : k < es.length := by have := H.out.2.1.len; omega
          have ck := HN.out.1.cells k _ (ofF_get hkl)
          obtain ⟨d0, -, -, -, -⟩ := HN.out.2.cells k _ (entG_get hel)
          have hofn : of ≠ [] := by rintro rfl; simp at hkl
          have hesn : es ≠ [] := by rintro rfl; simp at hel
          have oa := HN.out.1.at_ hofn
          have ea := HN.out.2.at_ hesn
          have olt := HN.out.1.lt hofn
          have elt := HN.out.2.lt hesn
          have HF := Lib.hid (freeB_succ es of P S k)
          have HE5 := H.out.2.1.lt5 k hkl
          obtain ⟨ola, olb, olo, olc⟩ := ol
          obtain ⟨ela, elb, elo, elc⟩ := el
          dsimp only at *
          subst oa
          subst ea
          have p0 : (0 : Int) ≤ (k : Int) := by omega
          have p1 : (k : Int) < (of.length : Int) := by omega
          have p2 : (k : Int) < (es.length : Int) := by omega
          have p3 : (k : Int) < 9 := by have := H.out.2.2; omega
          obtain ⟨q, hq⟩ : ∃ q, q = ofF of k := ⟨_, rfl⟩
          obtain ⟨r, hr⟩ : ∃ r, r = (entG es k).s := ⟨_, rfl⟩
          rw [← hq, ← hr] at HF
          rw [← hq] at ck HE5
          rw [← hr] at d0
          clear hq hr hofn hesn
          cases hf : freeB es of P S k with
          | true =>
            rw [hf] at HF
            by_cases he : q = P
            · by_cases hs : r = S
              · have t1 : ((q : Int) != (P : Int)) = false := by rw [he]; simp
                have t2 : ((r : Int) != (S : Int)) = false := by rw [hs]; simp
                have t3 : (q == P) = true := by rw [he]; simp
                have t4 : (r == S) = true := by rw [hs]; simp
                rw [t3, t4] at HF
                clear he hs hf t3 t4
                go_wp2_with fail
                go_roundw
                case rel => exact ⟨k + 1, by omega, by go_num, by rw [HF.out]; rfl, by first | rfl | trivial⟩
                case measure => simp [intOf]; omega
              · have t1 : ((q : Int) != (P : Int)) = false := by rw [he]; simp
                have t2 : ((r : Int) != (S : Int)) = true := by simp; omega
                have t3 : (q == P) = true := by rw [he]; simp
                have t4 : (r == S) = false := by simp [hs]
                rw [t3, t4] at HF
                clear he hs hf t3 t4
                go_wp2_with fail
                go_roundw
                case rel => exact ⟨k + 1, by omega, by go_num, by rw [HF.out]; rfl, by first | rfl | trivial⟩
                case measure => simp [intOf]; omega
            · have t1 : ((q : Int) != (P : Int)) = true := by simp; omega
              have t3 : (q == P) = false := by simp [he]
              rw [t3] at HF
              clear he hf t3
              go_wp2_with fail
              go_roundw
              case rel => exact ⟨k + 1, by omega, by go_num, by rw [HF.out]; rfl, by first | rfl | trivial⟩
              case measure => simp [intOf]; omega
          | false =>
            rw [hf] at HF
            clear hf
            go_wp2_with fail
            go_roundw
            case rel => exact ⟨k + 1, by omega, by go_num, by rw [HF.out]; rfl, by first | rfl | trivial⟩
            case measure => simp [intOf]; omega
        · obtain rfl : k = of.length := by omega
          cases hf : freeB es of P S of.length with
          | false =>
            clear hf
            go_wp2_with fail
            go_roundw
            case rel => exact ⟨i + 1, _, es, of, by omega, by go_num, Lib.hid ⟨H.out.1, H.out.2.1, by have := H.out.2.2; omega⟩⟩
            case measure => simp [intOf]; omega
          | true =>
            have HFR := Lib.hid (freeB_spec hf)
            clear hf
            have G64 := nat_forms (P * wd) 64
            obtain ⟨PW, hPW⟩ : ∃ PW, PW = P * wd := ⟨_, rfl⟩
            obtain ⟨PQ, hPQ⟩ : ∃ PQ, PQ = P * wd / 64 := ⟨_, rfl⟩
            rw [← hPQ, ← hPW] at G64
            obtain ⟨-, n3, n4⟩ := G64
            have G2 := nat_forms PQ 2
            obtain ⟨PR, hPR⟩ : ∃ PR, PR = PQ % 2 := ⟨_, rfl⟩
            rw [← hPR] at G2
            obtain ⟨⟨n5, n6⟩, -, -⟩ := G2
            have hPWl : P * wd ≤ 4 * 65535 := Nat.mul_le_mul (by omega) (by have := HPS.out.2.2.2; omega)
            have n0 : (P : Int) * (wd : Int) = (PW : Int) := by rw [hPW]; exact (Int.natCast_mul P wd).symm
            change (PW : Int).tdiv 64 = (PQ : Int) at n3
            change (PW : Int) / 64 = (PQ : Int) at n4
            change (PQ : Int).tmod 2 = (PR : Int) at n5
            change (PQ : Int) % 2 = (PR : Int) at n6
            have n7 : IntKind.i64.wrap (PW : Int) = (PW : Int) := IntWalk.i64_in _ (by omega)
            have n8 : (PQ : Int) ≤ 262140 := by omega
            have n9 : PR ≤ 1 := by omega
            have HPR := Lib.hid n9
            clear hPW hPQ hPR hPWl
            go_wp2_with fail
            obtain ⟨A0, hA0⟩ : ∃ A0 : Nat, (A0 : Int) = 30 + (PR : Int) := ⟨30 + PR, by omega⟩
            have hA30 : 30 ≤ A0 ∧ A0 ≤ 31 := by omega
            rw [← hA0]
            have HA0 := Lib.hid hA30
            clear hA0 hA30 n0 n3 n4 n5 n6 n7 n8 n9
            go_loopw [13, 12] (fun x f wr2 => ∃ (k A : Nat), k ≤ of.length ∧ x = .int .i64 (k : Int) ∧ f = .int .i64 (A : Int) ∧ Hid (ageR es of P A0 k A) ∧ wr2 = wr) (fun x _ _ => of.length - (intOf x).toNat)
            case atStart => exact ⟨0, A0, Nat.zero_le _, rfl, rfl, Lib.hid (ageR_zero _ _ _ _), rfl⟩
            case round =>
              obtain ⟨k, A, hk, rfl, rfl, HA, rfl⟩ := hrel
              by_cases hkl : k < of.length
              · have hel : k < es.length := by have := H.out.2.1.len; omega
                have ck := HN.out.1.cells k _ (ofF_get hkl)
                obtain ⟨-, -, -, d3, -⟩ := HN.out.2.cells k _ (entG_get hel)
                have hofn : of ≠ [] := by rintro rfl; simp at hkl
                have hesn : es ≠ [] := by rintro rfl; simp at hel
                have oa := HN.out.1.at_ hofn
                have ea := HN.out.2.at_ hesn
                have olt := HN.out.1.lt hofn
                have elt := HN.out.2.lt hesn
                have HE5 := H.out.2.1.lt5 k hkl
                obtain ⟨ola, olb, olo, olc⟩ := ol
                obtain ⟨ela, elb, elo, elc⟩ := el
                dsimp only at *
                subst oa
                subst ea
                have p0 : (0 : Int) ≤ (k : Int) := by omega
                have p1 : (k : Int) < (of.length : Int) := by omega
                have p2 : (k : Int) < (es.length : Int) := by omega
                have p3 : (k : Int) < 9 := by have := H.out.2.2; omega
                obtain ⟨q, hq⟩ : ∃ q, q = ofF of k := ⟨_, rfl⟩
                obtain ⟨r, hr⟩ : ∃ r, r = (entG es k).lo := ⟨_, rfl⟩
                rw [← hq] at ck HE5
                rw [← hr] at d3
                have HQ := Lib.hid (And.intro hq hr)
                clear hq hr hofn hesn
                by_cases he : q = P
                · have t1 : ((q : Int) == (P : Int)) = true := by rw [he]; simp
                  have HE := Lib.hid he
                  clear he
                  go_wp2_with fail
                  go_roundw
                  case rel => exact ⟨k + 1, r, by omega, by go_num, rfl, Lib.hid (ageR_take (HQ.out.1.symm.trans HE.out) HQ.out.2.symm), by first | rfl | trivial⟩
                  case measure => simp [intOf]; omega
                · have t1 : ((q : Int) == (P : Int)) = false := by simp; omega
                  have HE := Lib.hid he
                  clear he
                  go_wp2_with fail
                  go_roundw
                  case rel => exact ⟨k + 1, A, by omega, by go_num, rfl, Lib.hid (ageR_skip HA.out (fun e => HE.out (HQ.out.1.trans e))), by first | rfl | trivial⟩
                  case measure => simp [intOf]; omega
              · obtain rfl : k = of.length := by omega
                obtain ⟨ha1, ha2⟩ := ageR_all HA.out H.out.2.1 HA0.out
                have HA2 := Lib.hid ha2
                have G128 := nat_forms wd 128
                obtain ⟨WQ, hWQ⟩ : ∃ WQ, WQ = wd / 128 := ⟨_, rfl⟩
                rw [← hWQ] at G128
                obtain ⟨-, n3, n4⟩ := G128
                have G3 := nat_forms WQ 3
                obtain ⟨WR, hWR⟩ : ∃ WR, WR = WQ % 3 := ⟨_, rfl⟩
                rw [← hWR] at G3
                obtain ⟨⟨n5, n6⟩, -, -⟩ := G3
                change (wd : Int).tdiv 128 = (WQ : Int) at n3
                change (wd : Int) / 128 = (WQ : Int) at n4
                change (WQ : Int).tmod 3 = (WR : Int) at n5
                change (WQ : Int) % 3 = (WR : Int) at n6
                have n7 : (WQ : Int) ≤ 600 := by have := HPS.out.2.2.2; omega
                have n8 : WR ≤ 2 := by omega
                have P2 := nat_forms P 2
                have P3 := nat_forms P 3
                obtain ⟨X2, hX2⟩ : ∃ X, X = P % 2 := ⟨_, rfl⟩
                obtain ⟨X3, hX3⟩ : ∃ X, X = P / 3 := ⟨_, rfl⟩
                rw [← hX2] at P2
                rw [← hX3] at P3
                obtain ⟨⟨n10, n11⟩, -, -⟩ := P2
                obtain ⟨-, n12, n13⟩ := P3
                change (P : Int).tmod 2 = (X2 : Int) at n10
                change (P : Int) % 2 = (X2 : Int) at n11
                change (P : Int).tdiv 3 = (X3 : Int) at n12
                change (P : Int) / 3 = (X3 : Int) at n13
                have HX := Lib.hid (And.intro hX2 hX3)
                have HLE := Lib.hid (And.intro ha1 n8)
                have HTP := Lib.hid (H.out.2.1.app (p := P) (sc := S) (lo := A) (hi := A + WR) hP5 hS9 ha1 ⟨by omega, by omega⟩ HFR.out ha2)
                rw [← hX2, ← hX3] at HTP
                clear hWQ hWR hX2 hX3 ha2
                have hle9 : es.length ≤ 9 := by have := H.out.2.1.len; have := H.out.2.2; omega
                have hof9 : of.length ≤ 9 := by have := H.out.2.2; omega
                obtain ⟨Z, hZ⟩ : ∃ Z, Z = A + WR := ⟨_, rfl⟩
                rw [← hZ] at HTP
                have eA : (A : Int) + (WR : Int) = (Z : Int) := by omega
                have eZ : (Z : Int) ≤ 40 := by omega
                have HZ := Lib.hid hZ
                clear hZ
                have HA1 : Hid (TI w (.slice el.a es.length el.c) (.slice none 0 0) (.slice none 0 0) (.slice ol.a of.length ol.c) es [] [] of 0 0 0 0 (wr.alloc (.cells (entA ⟨S, X2, X3, A, Z⟩) 47))) := Lib.hid (H.out.1.below ((Below.refl _ _).alloc (Nat.le_refl _) _))
                have HL := Lib.hid (And.intro hle9 hof9)
                go_wp2_with (first
                  | (at_builtin; refine wpList_append_own _ rfl _ _ 35 rfl (w.heap.size + 2) 47 i47 _ 5 40 Tryz.underlying35 HI47.out.1 HI47.out.2.1 HI47.out.2.2.1 HI47.out.2.2.2 rfl (by decide) _ _ _ rfl HA1.out.e ⟨wr.heap.size, 0, none⟩ 1 1 (entsV [⟨S, X2, X3, A, Z⟩]) rfl rfl (news_five (Blk.new _ _ _)) (by simp [Value.oneCell', entsV]) (by unfold maxLen; omega) (by omega) HA1.out.size ?_; intro v' w1 hown' hgrow _; obtain ⟨gr, cr, hv'⟩ := Joins.ownsRow_form hown' (by omega); subst hv'; have hbx := (HA1.out.boxG hgrow (fun r e => (HA1.out.e.lt r e).1)).1; have c8 := hbx.cell 0; have f8 := hbx.frozen 0; have g8 := hbx.lt; have HT2 := Lib.hid (HA1.out.appE hgrow ⟨S, X2, X3, A, Z⟩ hown'); clear hown' hgrow hbx)
                  | (at_builtin; refine wpList_append_own _ rfl _ _ 41 rfl (w.heap.size + 2) 3 i3 (.int .i64 0) 1 8 Tryz.underlying41 HI3.out.1 HI3.out.2.1 HI3.out.2.2.1 HI3.out.2.2.2 rfl (by decide) _ _ _ rfl ((HT2.out.below ((Below.refl _ _).alloc (Nat.le_refl _) _)).o) ⟨_, 0, none⟩ 1 1 [.int .i64 (P : Int)] rfl rfl (news_one' ((set_new _ _ _ _ _).cell 0)) (by simp [Value.oneCell']) (by unfold maxLen; omega) (by omega) ((HT2.out.below ((Below.refl _ _).alloc (Nat.le_refl _) _)).size) ?_; intro v2 w2 hown2 hgrow2 _; have HT3 := Lib.hid ((HT2.out.below ((Below.refl _ _).alloc (Nat.le_refl _) _)).appO hgrow2 P hown2); clear hown2 hgrow2))
                go_roundw
                case rel => exact ⟨i + 1, _, _, _, by omega, by go_num, Lib.hid ⟨HT3.out, HTP.out, by have := H.out.2.2; simp; omega⟩⟩
                case measure => simp [intOf]; omega
    · by_cases hm1 : i < m
      · have b1 : (i : Int) < (m : Int) := by omega
        have b2 : ¬ (i : Int) < 9 := by omega
        obtain ⟨ol, hv, hsl, _⟩ := SlN.of_own H.out.1.o
        subst hv
        have HN := Lib.hid hsl
        have hof9 : of.length ≤ 9 := by have := H.out.2.2.1; omega
        have CW := Lib.hid (fun W (hb : Below w.heap.size w W) (n : Nat) (hn : n ≤ 1000) => word_any a g o c m ws n W (HW.out.below hb) hm (by omega))
        have HWL := Lib.hid (fun n => wordN_lt HW.out n)
        have H1 : Hid (TI w ve (.slice none 0 0) (.slice none 0 0) (.slice ol.a of.length ol.c) es [] [] of 0 0 0 0 wr ∧ PrT of true [] ∧ PrT of false [] ∧ ([] : List (Nat × Nat)).length ≤ 5 ∧ ([] : List (Nat × Nat)).length ≤ 5) := Lib.hid ⟨H.out.1, PrT.nil _ _, PrT.nil _ _, by simp, by simp⟩
        clear hsl
        go_wp2_with fail
        go_loopw [14] (fun x wr2 => ∃ (j : Nat) (vs va : Value) (sm ap : List (Nat × Nat)), 1 ≤ j ∧ j ≤ 10 ∧ x = .int .i64 (j : Int) ∧ Hid (TI w ve vs va (.slice ol.a of.length ol.c) es sm ap of 0 0 0 0 wr2 ∧ PrT of true sm ∧ PrT of false ap ∧ sm.length ≤ 5 ∧ ap.length ≤ 5)) (fun x _ => 11 - (intOf x).toNat)
        case atStart => exact ⟨1, _, _, [], [], by omega, by omega, rfl, H1⟩
        case round =>
          clear H1
          obtain ⟨j, vs, va, sm, ap, hj1, hj10, rfl, G⟩ := hrel
          by_cases hjl : j < of.length
          · have cj := (G.out.1.o)
            obtain ⟨N1, hN1⟩ : ∃ N, N = wordN ws (j + 3) := ⟨_, rfl⟩
            obtain ⟨N2, hN2⟩ : ∃ N, N = wordN ws (j + 5) := ⟨_, rfl⟩
            have n1l : N1 ≤ 65535 := by rw [hN1]; exact HWL.out _
            have n2l : N2 ≤ 65535 := by rw [hN2]; exact HWL.out _
            have C3 := Lib.hid (CW.out wr G.out.1.bel (j + 3) (by omega))
            have hbp : ∀ k : Nat, Below wr.heap.size wr (wr.alloc (.cells (prA (j, k)) 92)) := fun k => (Below.refl _ _).alloc (Nat.le_refl _) _
            have C5 := Lib.hid (fun k => CW.out (wr.alloc (.cells (prA (j, k)) 92)) (G.out.1.below (hbp k)).bel (j + 5) (by omega))
            rw [← hN1] at C3
            rw [← hN2] at C5
            have F1 := nat_forms N1 j
            obtain ⟨k, hk⟩ : ∃ k, k = N1 % j := ⟨_, rfl⟩
            have hkj : k < j := by rw [hk]; exact Nat.mod_lt _ (by omega)
            rw [← hk] at F1
            obtain ⟨⟨f1, f2⟩, -, -⟩ := F1
            have F3 := nat_forms N2 3
            obtain ⟨R, hR⟩ : ∃ R, R = N2 % 3 := ⟨_, rfl⟩
            rw [← hR] at F3
            obtain ⟨⟨f3, f4⟩, -, -⟩ := F3
            change (N2 : Int).tmod 3 = (R : Int) at f3
            change (N2 : Int) % 3 = (R : Int) at f4
            have hmz : ¬ (j : Int) = 0 := by omega
            have hmz2 : ((j : Int) == 0) = false := by rw [beq_eq_false_iff_ne]; omega
            have hmz3 : ¬ j = 0 := by omega
            have p0 : (0 : Int) ≤ (j : Int) := by omega
            have p1 : (j : Int) < (of.length : Int) := by omega
            have p2 : (0 : Int) ≤ (k : Int) := by omega
            have p3 : (k : Int) < (of.length : Int) := by omega
            have p4 : (j : Int) ≤ 9 := by omega
            have hkl : k < of.length := by omega
            have e3 : (j : Int) + 3 = ((j + 3 : Nat) : Int) := by omega
            have e5 : (j : Int) + 5 = ((j + 5 : Nat) : Int) := by omega
            rw [← e3] at C3
            rw [← e5] at C5
            have HJ := Lib.hid (And.intro hkj hjl)
            clear hN1 hN2 hk hR e3 e5 cj
            by_cases hR0 : 0 < R
            · have r1 : (0 : Int) < (R : Int) := by omega
              go_wp2_with (first
                | (go_at_call 31; (with_reducible refine C3.out.mono ?_); rintro e w' ⟨rfl, rfl⟩)
                | (go_at_call 31; (with_reducible refine (C5.out k).mono ?_); rintro e w' ⟨rfl, rfl⟩))
              go_roundw
              case rel => exact ⟨j + 1, vs, va, sm, ap, by omega, by omega, by go_num, Lib.hid ⟨G.out.1.below (hbp k), G.out.2⟩⟩
              case measure => simp [intOf]; omega
            · have r1 : ¬ (0 : Int) < (R : Int) := by omega
              have hg5 := G.out.1.below (hbp k)
              obtain ⟨gr, cr, hv⟩ := Joins.ownsRow_form hg5.o (by omega)
              obtain ⟨sl, hvs, -⟩ := own_slp2 G.out.1.s
              obtain ⟨al, hva, -⟩ := own_slp2 G.out.1.a
              have ho5 := hg5.o
              obtain ⟨ola, olb, olo, olc⟩ := ol
              dsimp only at *
              simp only [Value.slice.injEq, true_and] at hv
              obtain ⟨hv1, hv2⟩ := hv
              subst hv1
              subst hv2
              subst hvs
              subst hva
              have cj : (wr.alloc (.cells (prA (j, k)) 92)).cell? ⟨gr, j, none⟩ = some (.int .i64 ((ofF of j : Nat) : Int)) := (World.ownsRow.cellAt ho5 j (by omega)).trans (by simp [natV, ofF_get hjl])
              have ck : (wr.alloc (.cells (prA (j, k)) 92)).cell? ⟨gr, k, none⟩ = some (.int .i64 ((ofF of k : Nat) : Int)) := (World.ownsRow.cellAt ho5 k (by omega)).trans (by simp [natV, ofF_get hkl])
              have lg := (World.ownsRow.lt ho5 gr rfl).2
              obtain ⟨y0, y1, y2, y3, y4, y5, y6⟩ := hg5.box.c7
              have yl := hg5.box.lt
              have HG5 := Lib.hid hg5
              clear ho5 hg5
              obtain ⟨qj, hqj⟩ : ∃ q, q = ofF of j := ⟨_, rfl⟩
              obtain ⟨qk, hqk⟩ : ∃ q, q = ofF of k := ⟨_, rfl⟩
              rw [← hqj] at cj
              rw [← hqk] at ck
              have HQ := Lib.hid (And.intro hqj hqk)
              have HBP := Lib.hid hbp
              have HSA := Lib.hid (And.intro G.out.2.2.2.1 G.out.2.2.2.2)
              clear hqj hqk hbp
              by_cases he : qj = qk
              · have t1 : ((qj : Int) == (qk : Int)) = true := by rw [he]; simp
                have t2 : ((qj : Int) != (qk : Int)) = false := by rw [he]; simp
                have HEQ := Lib.hid he
                clear he
                by_cases h5 : sm.length < 5
                · have u1 : (sm.length : Int) < 5 := by omega
                  go_wp2_with (first
                    | (go_at_call 31; (with_reducible refine C3.out.mono ?_); rintro e w' ⟨rfl, rfl⟩)
                    | (go_at_call 31; (with_reducible refine (C5.out k).mono ?_); rintro e w' ⟨rfl, rfl⟩))
                  go_quiet (fail)
                  go_wp2_with (at_builtin; go_loud (refine wpList_append_own_at _ rfl _ _ 36 rfl (w.heap.size + 2) 92 i92 _ 2 16 Tryz.underlying36 HI92.out.1 HI92.out.2.1 HI92.out.2.2.1 HI92.out.2.2.2 rfl (by decide) _ _ _ rfl ((HG5.out.below ((Below.refl _ _).drewN' _)).below ((Below.refl _ _).alloc (Nat.le_refl _) _)).s ⟨_, 0, none⟩ 1 1 (pairsV [(j, k)]) rfl rfl (news_two (new_dr _ _ _ _ _)) (by simp [Value.oneCell', pairsV]) (by unfold maxLen; omega) (by omega) ((HG5.out.below ((Below.refl _ _).drewN' _)).below ((Below.refl _ _).alloc (Nat.le_refl _) _)).size ?_); intro v' w1 hown' hgrow _ hat; obtain ⟨g2, c2, hv'⟩ := Joins.ownsRow_form hown' (by omega); subst hv'; have hbx := TI.boxS ((HG5.out.below ((Below.refl _ _).drewN' _)).below ((Below.refl _ _).alloc (Nat.le_refl _) _)) hgrow; have c8 := hbx.cell 1; have f8 := hbx.frozen 1; have g8 := hbx.lt; have HT2 := Lib.hid (TI.appS ((HG5.out.below ((Below.refl _ _).drewN' _)).below ((Below.refl _ _).alloc (Nat.le_refl _) _)) hgrow hat (j, k) hown'); clear hown' hgrow hbx hat)
                  go_roundw
                  case rel => exact ⟨j + 1, _, _, _, _, by omega, by omega, by go_num, Lib.hid ⟨HT2.out, G.out.2.1.app HJ.out.2 HJ.out.1 (by rw [← HQ.out.1, ← HQ.out.2]; exact decide_eq_true HEQ.out), G.out.2.2.1, by simp; omega, HSA.out.2⟩⟩
                  case measure => simp [intOf]; omega
                · have u1 : ¬ (sm.length : Int) < 5 := by omega
                  go_wp2_with (first
                    | (go_at_call 31; (with_reducible refine C3.out.mono ?_); rintro e w' ⟨rfl, rfl⟩)
                    | (go_at_call 31; (with_reducible refine (C5.out k).mono ?_); rintro e w' ⟨rfl, rfl⟩))
                  go_quiet (fail)
                  go_wp2_with fail
                  go_quiet (fail)
                  go_wp2_with fail
                  go_roundw
                  case rel => exact ⟨j + 1, _, _, _, _, by omega, by omega, by go_num, Lib.hid ⟨(by first | exact HG5.out.below ((Below.refl _ _).drewN' _) | exact (HG5.out.below ((Below.refl _ _).drewN' _)).below ((Below.refl _ _).drewN' _)), G.out.2.1, G.out.2.2.1, HSA.out.1, HSA.out.2⟩⟩
                  case measure => simp [intOf]; omega
              · have t1 : ((qj : Int) == (qk : Int)) = false := by simp; omega
                have t2 : ((qj : Int) != (qk : Int)) = true := by simp; omega
                have HEQ := Lib.hid he
                clear he
                by_cases h5 : ap.length < 5
                · have u1 : (ap.length : Int) < 5 := by omega
                  go_wp2_with (first
                    | (go_at_call 31; (with_reducible refine C3.out.mono ?_); rintro e w' ⟨rfl, rfl⟩)
                    | (go_at_call 31; (with_reducible refine (C5.out k).mono ?_); rintro e w' ⟨rfl, rfl⟩))
                  go_quiet (fail)
                  go_wp2_with fail
                  go_quiet (fail)
                  go_wp2_with (at_builtin; go_loud (refine wpList_append_own_at _ rfl _ _ 36 rfl (w.heap.size + 2) 92 i92 _ 2 16 Tryz.underlying36 HI92.out.1 HI92.out.2.1 HI92.out.2.2.1 HI92.out.2.2.2 rfl (by decide) _ _ _ rfl ((HG5.out.below ((Below.refl _ _).drewN' _)).below ((Below.refl _ _).alloc (Nat.le_refl _) _)).a ⟨_, 0, none⟩ 1 1 (pairsV [(j, k)]) rfl rfl (news_two (new_dr _ _ _ _ _)) (by simp [Value.oneCell', pairsV]) (by unfold maxLen; omega) (by omega) ((HG5.out.below ((Below.refl _ _).drewN' _)).below ((Below.refl _ _).alloc (Nat.le_refl _) _)).size ?_); intro v' w1 hown' hgrow _ hat; obtain ⟨g2, c2, hv'⟩ := Joins.ownsRow_form hown' (by omega); subst hv'; have hbx := TI.boxA ((HG5.out.below ((Below.refl _ _).drewN' _)).below ((Below.refl _ _).alloc (Nat.le_refl _) _)) hgrow; have c8 := hbx.cell 2; have f8 := hbx.frozen 2; have g8 := hbx.lt; have HT2 := Lib.hid (TI.appA ((HG5.out.below ((Below.refl _ _).drewN' _)).below ((Below.refl _ _).alloc (Nat.le_refl _) _)) hgrow hat (j, k) hown'); clear hown' hgrow hbx hat)
                  go_roundw
                  case rel => exact ⟨j + 1, _, _, _, _, by omega, by omega, by go_num, Lib.hid ⟨HT2.out, G.out.2.1, G.out.2.2.1.app HJ.out.2 HJ.out.1 (by rw [← HQ.out.1, ← HQ.out.2]; exact decide_eq_false HEQ.out), HSA.out.1, by simp; omega⟩⟩
                  case measure => simp [intOf]; omega
                · have u1 : ¬ (ap.length : Int) < 5 := by omega
                  go_wp2_with (first
                    | (go_at_call 31; (with_reducible refine C3.out.mono ?_); rintro e w' ⟨rfl, rfl⟩)
                    | (go_at_call 31; (with_reducible refine (C5.out k).mono ?_); rintro e w' ⟨rfl, rfl⟩))
                  go_quiet (fail)
                  go_wp2_with fail
                  go_quiet (fail)
                  go_wp2_with fail
                  go_roundw
                  case rel => exact ⟨j + 1, _, _, _, _, by omega, by omega, by go_num, Lib.hid ⟨(by first | exact HG5.out.below ((Below.refl _ _).drewN' _) | exact (HG5.out.below ((Below.refl _ _).drewN' _)).below ((Below.refl _ _).drewN' _)), G.out.2.1, G.out.2.2.1, HSA.out.1, HSA.out.2⟩⟩
                  case measure => simp [intOf]; omega
          · have hjx := hjl
            obtain ⟨el, hve, -, -⟩ := own_sle G.out.1.e
            obtain ⟨sl, hvs, -⟩ := own_slp2 G.out.1.s
            obtain ⟨al, hva, -⟩ := own_slp2 G.out.1.a
            subst hve
            subst hvs
            subst hva
            have CX := Lib.hid (fun W (hb : Below w.heap.size w W) => And.intro (CW.out W hb 1 (by omega)) (And.intro (CW.out W hb 2 (by omega)) (And.intro (CW.out W hb 4 (by omega)) (CW.out W hb 6 (by omega)))))
            obtain ⟨X1, hX1⟩ : ∃ N, N = wordN ws 1 := ⟨_, rfl⟩
            obtain ⟨X2, hX2⟩ : ∃ N, N = wordN ws 2 := ⟨_, rfl⟩
            obtain ⟨X4, hX4⟩ : ∃ N, N = wordN ws 4 := ⟨_, rfl⟩
            obtain ⟨X6, hX6⟩ : ∃ N, N = wordN ws 6 := ⟨_, rfl⟩
            have x1l : X1 ≤ 65535 := by rw [hX1]; exact HWL.out _
            have x2l : X2 ≤ 65535 := by rw [hX2]; exact HWL.out _
            have x4l : X4 ≤ 65535 := by rw [hX4]; exact HWL.out _
            have x6l : X6 ≤ 65535 := by rw [hX6]; exact HWL.out _
            rw [← hX1, ← hX2, ← hX4, ← hX6] at CX
            change Hid (∀ W, Below w.heap.size w W → (Calls Tryz.prog 31 #[.slice a m c, .int .i64 1] W fun e w' => e = .returned (.int .i64 (X1 : Nat)) ∧ w' = W) ∧ (Calls Tryz.prog 31 #[.slice a m c, .int .i64 2] W fun e w' => e = .returned (.int .i64 (X2 : Nat)) ∧ w' = W) ∧ (Calls Tryz.prog 31 #[.slice a m c, .int .i64 4] W fun e w' => e = .returned (.int .i64 (X4 : Nat)) ∧ w' = W) ∧ (Calls Tryz.prog 31 #[.slice a m c, .int .i64 6] W fun e w' => e = .returned (.int .i64 (X6 : Nat)) ∧ w' = W)) at CX
            clear hX1 hX2 hX4 hX6
            obtain ⟨M, hM⟩ : ∃ M, M = X2 % 7 := ⟨_, rfl⟩
            have hM7 : M < 7 := by omega
            obtain ⟨⟨f1, f2⟩, -, -⟩ := nat_forms X2 7
            rw [← hM] at f1 f2
            change (X2 : Int).tmod 7 = (M : Int) at f1
            change (X2 : Int) % 7 = (M : Int) at f2
            obtain ⟨R1, hR1⟩ : ∃ M, M = X1 % 4 := ⟨_, rfl⟩
            have hR14 : R1 < 4 := by omega
            obtain ⟨⟨f3, f4⟩, -, -⟩ := nat_forms X1 4
            rw [← hR1] at f3 f4
            change (X1 : Int).tmod 4 = (R1 : Int) at f3
            change (X1 : Int) % 4 = (R1 : Int) at f4
            obtain ⟨R4, hR4⟩ : ∃ M, M = X4 % 4 := ⟨_, rfl⟩
            have hR44 : R4 < 4 := by omega
            obtain ⟨⟨f5, f6⟩, -, -⟩ := nat_forms X4 4
            rw [← hR4] at f5 f6
            change (X4 : Int).tmod 4 = (R4 : Int) at f5
            change (X4 : Int) % 4 = (R4 : Int) at f6
            obtain ⟨R6, hR6⟩ : ∃ M, M = X6 % 3 := ⟨_, rfl⟩
            have hR63 : R6 < 3 := by omega
            obtain ⟨⟨f7, f8⟩, -, -⟩ := nat_forms X6 3
            rw [← hR6] at f7 f8
            change (X6 : Int).tmod 3 = (R6 : Int) at f7
            change (X6 : Int) % 3 = (R6 : Int) at f8
            obtain ⟨M3, hM3⟩ : ∃ q, q = M % 3 := ⟨_, rfl⟩
            have hM33 : M3 ≤ M := by omega
            obtain ⟨⟨f9, f10⟩, -, -⟩ := nat_forms M 3
            rw [← hM3] at f9 f10
            change (M : Int).tmod 3 = (M3 : Int) at f9
            change (M : Int) % 3 = (M3 : Int) at f10
            clear hM hR1 hR4 hR6 hM3
            obtain ⟨L0, hL0⟩ : ∃ q, q = M - M3 := ⟨_, rfl⟩
            have s1 : (M : Int) - (M3 : Int) = (L0 : Int) := by omega
            obtain ⟨Z1, hZ1⟩ : ∃ q, q = M + R1 := ⟨_, rfl⟩
            have s2 : (M : Int) + (R1 : Int) = (Z1 : Int) := by omega
            have hmn : manyL of ≤ of.length := many_le _ _
            obtain ⟨P, hP⟩ : ∃ P, P = manyL of := ⟨_, rfl⟩
            obtain ⟨T0, hT0⟩ : ∃ q, q = M + P := ⟨_, rfl⟩
            obtain ⟨N0, hN0⟩ : ∃ q, q = T0 - R4 := ⟨_, rfl⟩
            obtain ⟨Z6, hZ6⟩ : ∃ q, q = T0 + R6 := ⟨_, rfl⟩
            have s3 : (M : Int) + (P : Int) = (T0 : Int) := by omega
            have s4 : max (0 : Int) ((T0 : Int) - (R4 : Int)) = (N0 : Int) := by omega
            have s5 : (T0 : Int) + (R6 : Int) = (Z6 : Int) := by omega
            have hT9 : T0 ≤ 100 := by omega
            have hZZ : Z1 ≤ 100 := by omega
            have HRR := Lib.hid (And.intro hL0 (And.intro hZ1 (And.intro hP (And.intro hT0 (And.intro hN0 (And.intro hZ6 (And.intro hM7 (And.intro hR14 (And.intro hR44 (And.intro hR63 (And.intro hM33 (And.intro hmn hof9))))))))))))
            obtain ⟨-, -, -, x3, x4, -, -⟩ := G.out.1.box.c7
            have fx3 := G.out.1.box.frozen 3
            have fx4 := G.out.1.box.frozen 4
            have yl := G.out.1.box.lt
            have HK := Lib.hid (TI.setO G.out.1 (L0 : Int) (Z1 : Int))
            have C32 := Lib.hid (TI.call32 HK.out H.out.2.1 hof9)
            rw [← hP] at C32
            have C1 := Lib.hid (CX.out wr G.out.1.bel).1
            have C2 := Lib.hid (CX.out wr G.out.1.bel).2.1
            clear hP hmn hL0 hZ1 hT0 hN0 hZ6 hR14 hR44 hR63
            go_wp2_with (first
              | (go_at_call 31; (with_reducible refine C2.out.mono ?_); rintro e w' ⟨rfl, rfl⟩)
              | (go_at_call 31; (with_reducible refine C1.out.mono ?_); rintro e w' ⟨rfl, rfl⟩)
              | (go_at_call 32; (with_reducible refine C32.out.mono ?_); rintro e w3 ⟨rfl, hb3⟩; have hk3 := HK.out.below hb3; have C4 := Lib.hid (CX.out w3 hk3.bel).2.2.1; have C6 := Lib.hid (CX.out w3 hk3.bel).2.2.2; obtain ⟨-, -, -, -, -, x5, x6⟩ := hk3.box.c7; have fx5 := hk3.box.frozen 5; have fx6 := hk3.box.frozen 6; have yl3 := hk3.box.lt; have HK3 := Lib.hid (TI.setN hk3 (N0 : Int) (Z6 : Int)); obtain ⟨q0, q1, q2, q3, q4, q5, q6⟩ := HK3.out.box.c7; obtain ⟨r0, r1, r2, r3, r4, r5, r6⟩ := HK3.out.res.c7; have t0 := HK3.out.res.frozen 0; have t1 := HK3.out.res.frozen 1; have t2 := HK3.out.res.frozen 2; have t3 := HK3.out.res.frozen 3; have t4 := HK3.out.res.frozen 4; have t5 := HK3.out.res.frozen 5; have t6 := HK3.out.res.frozen 6; have rl := HK3.out.res.lt; clear hk3 hb3)
              | (go_at_call 31; (with_reducible refine C4.out.mono ?_); rintro e w' ⟨rfl, rfl⟩)
              | (go_at_call 31; (with_reducible refine C6.out.mono ?_); rintro e w' ⟨rfl, rfl⟩))
            have hF := HK3.out.res.set7 (y0 := .slice el.a es.length el.c) (y1 := .slice sl.a sm.length sl.c) (y2 := .slice al.a ap.length al.c) (y3 := .int .i64 (L0 : Int)) (y4 := .int .i64 (Z1 : Int)) (y5 := .int .i64 (N0 : Int)) (y6 := .int .i64 (Z6 : Int))
            obtain ⟨e0, e1, e2, e3, e4, e5, e6⟩ := hF.c7
            have hel := hF.lt
            refine bodyPost_ret (v := .tuple #[cenV (.slice el.a es.length el.c) (.slice sl.a sm.length sl.c) (.slice al.a ap.length al.c) (L0 : Int) (Z1 : Int) (N0 : Int) (Z6 : Int), .slice ol.a of.length ol.c]) (by simp [results, Tryz.results11, go_sem, e0, e1, e2, e3, e4, e5, e6, hel]) rfl ⟨_, _, _, _, es, sm, ap, of, (L0, Z1), (N0, Z6), rfl, ?_, ⟨own_set7 HK3.out.e (by omega), own_set7 HK3.out.s (by omega), own_set7 HK3.out.a (by omega), own_set7 HK3.out.o (by omega)⟩, ⟨bel_set7 HK3.out.bel (Nat.le_refl _), H.out.2.2.2⟩⟩
            obtain ⟨hL0, hZ1, hP, hT0, hN0, hZ6, h1, h2, h3, h4, h5, h6, h7⟩ := HRR.out
            exact ⟨H.out.2.1, h7, G.out.2.1, G.out.2.2.1, G.out.2.2.2.1, G.out.2.2.2.2, ⟨by show L0 ≤ Z1; omega, by show Z1 ≤ 100; omega⟩, ⟨by show N0 ≤ Z6; omega, by show Z6 ≤ 200; omega⟩, by rw [← hP]; show N0 ≤ P + Z1; omega, by rw [← hP]; show P + L0 ≤ Z6; omega⟩
      · have b1 : ¬ (i : Int) < (m : Int) := by omega
        obtain ⟨ol, hv, hsl, _⟩ := SlN.of_own H.out.1.o
        subst hv
        have HN := Lib.hid hsl
        have hof9 : of.length ≤ 9 := by have := H.out.2.2.1; omega
        have CW := Lib.hid (fun W (hb : Below w.heap.size w W) (n : Nat) (hn : n ≤ 1000) => word_any a g o c m ws n W (HW.out.below hb) hm (by omega))
        have HWL := Lib.hid (fun n => wordN_lt HW.out n)
        have H1 : Hid (TI w ve (.slice none 0 0) (.slice none 0 0) (.slice ol.a of.length ol.c) es [] [] of 0 0 0 0 wr ∧ PrT of true [] ∧ PrT of false [] ∧ ([] : List (Nat × Nat)).length ≤ 5 ∧ ([] : List (Nat × Nat)).length ≤ 5) := Lib.hid ⟨H.out.1, PrT.nil _ _, PrT.nil _ _, by simp, by simp⟩
        clear hsl
        go_wp2_with fail
        go_loopw [14] (fun x wr2 => ∃ (j : Nat) (vs va : Value) (sm ap : List (Nat × Nat)), 1 ≤ j ∧ j ≤ 10 ∧ x = .int .i64 (j : Int) ∧ Hid (TI w ve vs va (.slice ol.a of.length ol.c) es sm ap of 0 0 0 0 wr2 ∧ PrT of true sm ∧ PrT of false ap ∧ sm.length ≤ 5 ∧ ap.length ≤ 5)) (fun x _ => 11 - (intOf x).toNat)
        case atStart => exact ⟨1, _, _, [], [], by omega, by omega, rfl, H1⟩
        case round =>
          clear H1
          obtain ⟨j, vs, va, sm, ap, hj1, hj10, rfl, G⟩ := hrel
          by_cases hjl : j < of.length
          · have cj := (G.out.1.o)
            obtain ⟨N1, hN1⟩ : ∃ N, N = wordN ws (j + 3) := ⟨_, rfl⟩
            obtain ⟨N2, hN2⟩ : ∃ N, N = wordN ws (j + 5) := ⟨_, rfl⟩
            have n1l : N1 ≤ 65535 := by rw [hN1]; exact HWL.out _
            have n2l : N2 ≤ 65535 := by rw [hN2]; exact HWL.out _
            have C3 := Lib.hid (CW.out wr G.out.1.bel (j + 3) (by omega))
            have hbp : ∀ k : Nat, Below wr.heap.size wr (wr.alloc (.cells (prA (j, k)) 92)) := fun k => (Below.refl _ _).alloc (Nat.le_refl _) _
            have C5 := Lib.hid (fun k => CW.out (wr.alloc (.cells (prA (j, k)) 92)) (G.out.1.below (hbp k)).bel (j + 5) (by omega))
            rw [← hN1] at C3
            rw [← hN2] at C5
            have F1 := nat_forms N1 j
            obtain ⟨k, hk⟩ : ∃ k, k = N1 % j := ⟨_, rfl⟩
            have hkj : k < j := by rw [hk]; exact Nat.mod_lt _ (by omega)
            rw [← hk] at F1
            obtain ⟨⟨f1, f2⟩, -, -⟩ := F1
            have F3 := nat_forms N2 3
            obtain ⟨R, hR⟩ : ∃ R, R = N2 % 3 := ⟨_, rfl⟩
            rw [← hR] at F3
            obtain ⟨⟨f3, f4⟩, -, -⟩ := F3
            change (N2 : Int).tmod 3 = (R : Int) at f3
            change (N2 : Int) % 3 = (R : Int) at f4
            have hmz : ¬ (j : Int) = 0 := by omega
            have hmz2 : ((j : Int) == 0) = false := by rw [beq_eq_false_iff_ne]; omega
            have hmz3 : ¬ j = 0 := by omega
            have p0 : (0 : Int) ≤ (j : Int) := by omega
            have p1 : (j : Int) < (of.length : Int) := by omega
            have p2 : (0 : Int) ≤ (k : Int) := by omega
            have p3 : (k : Int) < (of.length : Int) := by omega
            have p4 : (j : Int) ≤ 9 := by omega
            have hkl : k < of.length := by omega
            have e3 : (j : Int) + 3 = ((j + 3 : Nat) : Int) := by omega
            have e5 : (j : Int) + 5 = ((j + 5 : Nat) : Int) := by omega
            rw [← e3] at C3
            rw [← e5] at C5
            have HJ := Lib.hid (And.intro hkj hjl)
            clear hN1 hN2 hk hR e3 e5 cj
            by_cases hR0 : 0 < R
            · have r1 : (0 : Int) < (R : Int) := by omega
              go_wp2_with (first
                | (go_at_call 31; (with_reducible refine C3.out.mono ?_); rintro e w' ⟨rfl, rfl⟩)
                | (go_at_call 31; (with_reducible refine (C5.out k).mono ?_); rintro e w' ⟨rfl, rfl⟩))
              go_roundw
              case rel => exact ⟨j + 1, vs, va, sm, ap, by omega, by omega, by go_num, Lib.hid ⟨G.out.1.below (hbp k), G.out.2⟩⟩
              case measure => simp [intOf]; omega
            · have r1 : ¬ (0 : Int) < (R : Int) := by omega
              have hg5 := G.out.1.below (hbp k)
              obtain ⟨gr, cr, hv⟩ := Joins.ownsRow_form hg5.o (by omega)
              obtain ⟨sl, hvs, -⟩ := own_slp2 G.out.1.s
              obtain ⟨al, hva, -⟩ := own_slp2 G.out.1.a
              have ho5 := hg5.o
              obtain ⟨ola, olb, olo, olc⟩ := ol
              dsimp only at *
              simp only [Value.slice.injEq, true_and] at hv
              obtain ⟨hv1, hv2⟩ := hv
              subst hv1
              subst hv2
              subst hvs
              subst hva
              have cj : (wr.alloc (.cells (prA (j, k)) 92)).cell? ⟨gr, j, none⟩ = some (.int .i64 ((ofF of j : Nat) : Int)) := (World.ownsRow.cellAt ho5 j (by omega)).trans (by simp [natV, ofF_get hjl])
              have ck : (wr.alloc (.cells (prA (j, k)) 92)).cell? ⟨gr, k, none⟩ = some (.int .i64 ((ofF of k : Nat) : Int)) := (World.ownsRow.cellAt ho5 k (by omega)).trans (by simp [natV, ofF_get hkl])
              have lg := (World.ownsRow.lt ho5 gr rfl).2
              obtain ⟨y0, y1, y2, y3, y4, y5, y6⟩ := hg5.box.c7
              have yl := hg5.box.lt
              have HG5 := Lib.hid hg5
              clear ho5 hg5
              obtain ⟨qj, hqj⟩ : ∃ q, q = ofF of j := ⟨_, rfl⟩
              obtain ⟨qk, hqk⟩ : ∃ q, q = ofF of k := ⟨_, rfl⟩
              rw [← hqj] at cj
              rw [← hqk] at ck
              have HQ := Lib.hid (And.intro hqj hqk)
              have HBP := Lib.hid hbp
              have HSA := Lib.hid (And.intro G.out.2.2.2.1 G.out.2.2.2.2)
              clear hqj hqk hbp
              by_cases he : qj = qk
              · have t1 : ((qj : Int) == (qk : Int)) = true := by rw [he]; simp
                have t2 : ((qj : Int) != (qk : Int)) = false := by rw [he]; simp
                have HEQ := Lib.hid he
                clear he
                by_cases h5 : sm.length < 5
                · have u1 : (sm.length : Int) < 5 := by omega
                  go_wp2_with (first
                    | (go_at_call 31; (with_reducible refine C3.out.mono ?_); rintro e w' ⟨rfl, rfl⟩)
                    | (go_at_call 31; (with_reducible refine (C5.out k).mono ?_); rintro e w' ⟨rfl, rfl⟩))
                  go_quiet (fail)
                  go_wp2_with (at_builtin; go_loud (refine wpList_append_own_at _ rfl _ _ 36 rfl (w.heap.size + 2) 92 i92 _ 2 16 Tryz.underlying36 HI92.out.1 HI92.out.2.1 HI92.out.2.2.1 HI92.out.2.2.2 rfl (by decide) _ _ _ rfl ((HG5.out.below ((Below.refl _ _).drewN' _)).below ((Below.refl _ _).alloc (Nat.le_refl _) _)).s ⟨_, 0, none⟩ 1 1 (pairsV [(j, k)]) rfl rfl (news_two (new_dr _ _ _ _ _)) (by simp [Value.oneCell', pairsV]) (by unfold maxLen; omega) (by omega) ((HG5.out.below ((Below.refl _ _).drewN' _)).below ((Below.refl _ _).alloc (Nat.le_refl _) _)).size ?_); intro v' w1 hown' hgrow _ hat; obtain ⟨g2, c2, hv'⟩ := Joins.ownsRow_form hown' (by omega); subst hv'; have hbx := TI.boxS ((HG5.out.below ((Below.refl _ _).drewN' _)).below ((Below.refl _ _).alloc (Nat.le_refl _) _)) hgrow; have c8 := hbx.cell 1; have f8 := hbx.frozen 1; have g8 := hbx.lt; have HT2 := Lib.hid (TI.appS ((HG5.out.below ((Below.refl _ _).drewN' _)).below ((Below.refl _ _).alloc (Nat.le_refl _) _)) hgrow hat (j, k) hown'); clear hown' hgrow hbx hat)
                  go_roundw
                  case rel => exact ⟨j + 1, _, _, _, _, by omega, by omega, by go_num, Lib.hid ⟨HT2.out, G.out.2.1.app HJ.out.2 HJ.out.1 (by rw [← HQ.out.1, ← HQ.out.2]; exact decide_eq_true HEQ.out), G.out.2.2.1, by simp; omega, HSA.out.2⟩⟩
                  case measure => simp [intOf]; omega
                · have u1 : ¬ (sm.length : Int) < 5 := by omega
                  go_wp2_with (first
                    | (go_at_call 31; (with_reducible refine C3.out.mono ?_); rintro e w' ⟨rfl, rfl⟩)
                    | (go_at_call 31; (with_reducible refine (C5.out k).mono ?_); rintro e w' ⟨rfl, rfl⟩))
                  go_quiet (fail)
                  go_wp2_with fail
                  go_quiet (fail)
                  go_wp2_with fail
                  go_roundw
                  case rel => exact ⟨j + 1, _, _, _, _, by omega, by omega, by go_num, Lib.hid ⟨(by first | exact HG5.out.below ((Below.refl _ _).drewN' _) | exact (HG5.out.below ((Below.refl _ _).drewN' _)).below ((Below.refl _ _).drewN' _)), G.out.2.1, G.out.2.2.1, HSA.out.1, HSA.out.2⟩⟩
                  case measure => simp [intOf]; omega
              · have t1 : ((qj : Int) == (qk : Int)) = false := by simp; omega
                have t2 : ((qj : Int) != (qk : Int)) = true := by simp; omega
                have HEQ := Lib.hid he
                clear he
                by_cases h5 : ap.length < 5
                · have u1 : (ap.length : Int) < 5 := by omega
                  go_wp2_with (first
                    | (go_at_call 31; (with_reducible refine C3.out.mono ?_); rintro e w' ⟨rfl, rfl⟩)
                    | (go_at_call 31; (with_reducible refine (C5.out k).mono ?_); rintro e w' ⟨rfl, rfl⟩))
                  go_quiet (fail)
                  go_wp2_with fail
                  go_quiet (fail)
                  go_wp2_with (at_builtin; go_loud (refine wpList_append_own_at _ rfl _ _ 36 rfl (w.heap.size + 2) 92 i92 _ 2 16 Tryz.underlying36 HI92.out.1 HI92.out.2.1 HI92.out.2.2.1 HI92.out.2.2.2 rfl (by decide) _ _ _ rfl ((HG5.out.below ((Below.refl _ _).drewN' _)).below ((Below.refl _ _).alloc (Nat.le_refl _) _)).a ⟨_, 0, none⟩ 1 1 (pairsV [(j, k)]) rfl rfl (news_two (new_dr _ _ _ _ _)) (by simp [Value.oneCell', pairsV]) (by unfold maxLen; omega) (by omega) ((HG5.out.below ((Below.refl _ _).drewN' _)).below ((Below.refl _ _).alloc (Nat.le_refl _) _)).size ?_); intro v' w1 hown' hgrow _ hat; obtain ⟨g2, c2, hv'⟩ := Joins.ownsRow_form hown' (by omega); subst hv'; have hbx := TI.boxA ((HG5.out.below ((Below.refl _ _).drewN' _)).below ((Below.refl _ _).alloc (Nat.le_refl _) _)) hgrow; have c8 := hbx.cell 2; have f8 := hbx.frozen 2; have g8 := hbx.lt; have HT2 := Lib.hid (TI.appA ((HG5.out.below ((Below.refl _ _).drewN' _)).below ((Below.refl _ _).alloc (Nat.le_refl _) _)) hgrow hat (j, k) hown'); clear hown' hgrow hbx hat)
                  go_roundw
                  case rel => exact ⟨j + 1, _, _, _, _, by omega, by omega, by go_num, Lib.hid ⟨HT2.out, G.out.2.1, G.out.2.2.1.app HJ.out.2 HJ.out.1 (by rw [← HQ.out.1, ← HQ.out.2]; exact decide_eq_false HEQ.out), HSA.out.1, by simp; omega⟩⟩
                  case measure => simp [intOf]; omega
                · have u1 : ¬ (ap.length : Int) < 5 := by omega
                  go_wp2_with (first
                    | (go_at_call 31; (with_reducible refine C3.out.mono ?_); rintro e w' ⟨rfl, rfl⟩)
                    | (go_at_call 31; (with_reducible refine (C5.out k).mono ?_); rintro e w' ⟨rfl, rfl⟩))
                  go_quiet (fail)
                  go_wp2_with fail
                  go_quiet (fail)
                  go_wp2_with fail
                  go_roundw
                  case rel => exact ⟨j + 1, _, _, _, _, by omega, by omega, by go_num, Lib.hid ⟨(by first | exact HG5.out.below ((Below.refl _ _).drewN' _) | exact (HG5.out.below ((Below.refl _ _).drewN' _)).below ((Below.refl _ _).drewN' _)), G.out.2.1, G.out.2.2.1, HSA.out.1, HSA.out.2⟩⟩
                  case measure => simp [intOf]; omega
          · have hjx := hjl
            obtain ⟨el, hve, -, -⟩ := own_sle G.out.1.e
            obtain ⟨sl, hvs, -⟩ := own_slp2 G.out.1.s
            obtain ⟨al, hva, -⟩ := own_slp2 G.out.1.a
            subst hve
            subst hvs
            subst hva
            have CX := Lib.hid (fun W (hb : Below w.heap.size w W) => And.intro (CW.out W hb 1 (by omega)) (And.intro (CW.out W hb 2 (by omega)) (And.intro (CW.out W hb 4 (by omega)) (CW.out W hb 6 (by omega)))))
            obtain ⟨X1, hX1⟩ : ∃ N, N = wordN ws 1 := ⟨_, rfl⟩
            obtain ⟨X2, hX2⟩ : ∃ N, N = wordN ws 2 := ⟨_, rfl⟩
            obtain ⟨X4, hX4⟩ : ∃ N, N = wordN ws 4 := ⟨_, rfl⟩
            obtain ⟨X6, hX6⟩ : ∃ N, N = wordN ws 6 := ⟨_, rfl⟩
            have x1l : X1 ≤ 65535 := by rw [hX1]; exact HWL.out _
            have x2l : X2 ≤ 65535 := by rw [hX2]; exact HWL.out _
            have x4l : X4 ≤ 65535 := by rw [hX4]; exact HWL.out _
            have x6l : X6 ≤ 65535 := by rw [hX6]; exact HWL.out _
            rw [← hX1, ← hX2, ← hX4, ← hX6] at CX
            change Hid (∀ W, Below w.heap.size w W → (Calls Tryz.prog 31 #[.slice a m c, .int .i64 1] W fun e w' => e = .returned (.int .i64 (X1 : Nat)) ∧ w' = W) ∧ (Calls Tryz.prog 31 #[.slice a m c, .int .i64 2] W fun e w' => e = .returned (.int .i64 (X2 : Nat)) ∧ w' = W) ∧ (Calls Tryz.prog 31 #[.slice a m c, .int .i64 4] W fun e w' => e = .returned (.int .i64 (X4 : Nat)) ∧ w' = W) ∧ (Calls Tryz.prog 31 #[.slice a m c, .int .i64 6] W fun e w' => e = .returned (.int .i64 (X6 : Nat)) ∧ w' = W)) at CX
            clear hX1 hX2 hX4 hX6
            obtain ⟨M, hM⟩ : ∃ M, M = X2 % 7 := ⟨_, rfl⟩
            have hM7 : M < 7 := by omega
            obtain ⟨⟨f1, f2⟩, -, -⟩ := nat_forms X2 7
            rw [← hM] at f1 f2
            change (X2 : Int).tmod 7 = (M : Int) at f1
            change (X2 : Int) % 7 = (M : Int) at f2
            obtain ⟨R1, hR1⟩ : ∃ M, M = X1 % 4 := ⟨_, rfl⟩
            have hR14 : R1 < 4 := by omega
            obtain ⟨⟨f3, f4⟩, -, -⟩ := nat_forms X1 4
            rw [← hR1] at f3 f4
            change (X1 : Int).tmod 4 = (R1 : Int) at f3
            change (X1 : Int) % 4 = (R1 : Int) at f4
            obtain ⟨R4, hR4⟩ : ∃ M, M = X4 % 4 := ⟨_, rfl⟩
            have hR44 : R4 < 4 := by omega
            obtain ⟨⟨f5, f6⟩, -, -⟩ := nat_forms X4 4
            rw [← hR4] at f5 f6
            change (X4 : Int).tmod 4 = (R4 : Int) at f5
            change (X4 : Int) % 4 = (R4 : Int) at f6
            obtain ⟨R6, hR6⟩ : ∃ M, M = X6 % 3 := ⟨_, rfl⟩
            have hR63 : R6 < 3 := by omega
            obtain ⟨⟨f7, f8⟩, -, -⟩ := nat_forms X6 3
            rw [← hR6] at f7 f8
            change (X6 : Int).tmod 3 = (R6 : Int) at f7
            change (X6 : Int) % 3 = (R6 : Int) at f8
            obtain ⟨M3, hM3⟩ : ∃ q, q = M % 3 := ⟨_, rfl⟩
            have hM33 : M3 ≤ M := by omega
            obtain ⟨⟨f9, f10⟩, -, -⟩ := nat_forms M 3
            rw [← hM3] at f9 f10
            change (M : Int).tmod 3 = (M3 : Int) at f9
            change (M : Int) % 3 = (M3 : Int) at f10
            clear hM hR1 hR4 hR6 hM3
            obtain ⟨L0, hL0⟩ : ∃ q, q = M - M3 := ⟨_, rfl⟩
            have s1 : (M : Int) - (M3 : Int) = (L0 : Int) := by omega
            obtain ⟨Z1, hZ1⟩ : ∃ q, q = M + R1 := ⟨_, rfl⟩
            have s2 : (M : Int) + (R1 : Int) = (Z1 : Int) := by omega
            have hmn : manyL of ≤ of.length := many_le _ _
            obtain ⟨P, hP⟩ : ∃ P, P = manyL of := ⟨_, rfl⟩
            obtain ⟨T0, hT0⟩ : ∃ q, q = M + P := ⟨_, rfl⟩
            obtain ⟨N0, hN0⟩ : ∃ q, q = T0 - R4 := ⟨_, rfl⟩
            obtain ⟨Z6, hZ6⟩ : ∃ q, q = T0 + R6 := ⟨_, rfl⟩
            have s3 : (M : Int) + (P : Int) = (T0 : Int) := by omega
            have s4 : max (0 : Int) ((T0 : Int) - (R4 : Int)) = (N0 : Int) := by omega
            have s5 : (T0 : Int) + (R6 : Int) = (Z6 : Int) := by omega
            have hT9 : T0 ≤ 100 := by omega
            have hZZ : Z1 ≤ 100 := by omega
            have HRR := Lib.hid (And.intro hL0 (And.intro hZ1 (And.intro hP (And.intro hT0 (And.intro hN0 (And.intro hZ6 (And.intro hM7 (And.intro hR14 (And.intro hR44 (And.intro hR63 (And.intro hM33 (And.intro hmn hof9))))))))))))
            obtain ⟨-, -, -, x3, x4, -, -⟩ := G.out.1.box.c7
            have fx3 := G.out.1.box.frozen 3
            have fx4 := G.out.1.box.frozen 4
            have yl := G.out.1.box.lt
            have HK := Lib.hid (TI.setO G.out.1 (L0 : Int) (Z1 : Int))
            have C32 := Lib.hid (TI.call32 HK.out H.out.2.1 hof9)
            rw [← hP] at C32
            have C1 := Lib.hid (CX.out wr G.out.1.bel).1
            have C2 := Lib.hid (CX.out wr G.out.1.bel).2.1
            clear hP hmn hL0 hZ1 hT0 hN0 hZ6 hR14 hR44 hR63
            go_wp2_with (first
              | (go_at_call 31; (with_reducible refine C2.out.mono ?_); rintro e w' ⟨rfl, rfl⟩)
              | (go_at_call 31; (with_reducible refine C1.out.mono ?_); rintro e w' ⟨rfl, rfl⟩)
              | (go_at_call 32; (with_reducible refine C32.out.mono ?_); rintro e w3 ⟨rfl, hb3⟩; have hk3 := HK.out.below hb3; have C4 := Lib.hid (CX.out w3 hk3.bel).2.2.1; have C6 := Lib.hid (CX.out w3 hk3.bel).2.2.2; obtain ⟨-, -, -, -, -, x5, x6⟩ := hk3.box.c7; have fx5 := hk3.box.frozen 5; have fx6 := hk3.box.frozen 6; have yl3 := hk3.box.lt; have HK3 := Lib.hid (TI.setN hk3 (N0 : Int) (Z6 : Int)); obtain ⟨q0, q1, q2, q3, q4, q5, q6⟩ := HK3.out.box.c7; obtain ⟨r0, r1, r2, r3, r4, r5, r6⟩ := HK3.out.res.c7; have t0 := HK3.out.res.frozen 0; have t1 := HK3.out.res.frozen 1; have t2 := HK3.out.res.frozen 2; have t3 := HK3.out.res.frozen 3; have t4 := HK3.out.res.frozen 4; have t5 := HK3.out.res.frozen 5; have t6 := HK3.out.res.frozen 6; have rl := HK3.out.res.lt; clear hk3 hb3)
              | (go_at_call 31; (with_reducible refine C4.out.mono ?_); rintro e w' ⟨rfl, rfl⟩)
              | (go_at_call 31; (with_reducible refine C6.out.mono ?_); rintro e w' ⟨rfl, rfl⟩))
            have hF := HK3.out.res.set7 (y0 := .slice el.a es.length el.c) (y1 := .slice sl.a sm.length sl.c) (y2 := .slice al.a ap.length al.c) (y3 := .int .i64 (L0 : Int)) (y4 := .int .i64 (Z1 : Int)) (y5 := .int .i64 (N0 : Int)) (y6 := .int .i64 (Z6 : Int))
            obtain ⟨e0, e1, e2, e3, e4, e5, e6⟩ := hF.c7
            have hel := hF.lt
            refine bodyPost_ret (v := .tuple #[cenV (.slice el.a es.length el.c) (.slice sl.a sm.length sl.c) (.slice al.a ap.length al.c) (L0 : Int) (Z1 : Int) (N0 : Int) (Z6 : Int), .slice ol.a of.length ol.c]) (by simp [results, Tryz.results11, go_sem, e0, e1, e2, e3, e4, e5, e6, hel]) rfl ⟨_, _, _, _, es, sm, ap, of, (L0, Z1), (N0, Z6), rfl, ?_, ⟨own_set7 HK3.out.e (by omega), own_set7 HK3.out.s (by omega), own_set7 HK3.out.a (by omega), own_set7 HK3.out.o (by omega)⟩, ⟨bel_set7 HK3.out.bel (Nat.le_refl _), H.out.2.2.2⟩⟩
            obtain ⟨hL0, hZ1, hP, hT0, hN0, hZ6, h1, h2, h3, h4, h5, h6, h7⟩ := HRR.out
            exact ⟨H.out.2.1, h7, G.out.2.1, G.out.2.2.1, G.out.2.2.2.1, G.out.2.2.2.2, ⟨by show L0 ≤ Z1; omega, by show Z1 ≤ 100; omega⟩, ⟨by show N0 ≤ Z6; omega, by show Z6 ≤ 200; omega⟩, by rw [← hP]; show N0 ≤ P + Z1; omega, by rw [← hP]; show P + L0 ≤ Z6; omega⟩
end Go.Proofs.YtdfebccmjbocjaaGreatDoor
