/- The walk of Area.missed of package miss. -/
import Derived.Test.YtkfobnhnehbkeaaMissed
import Derived.Laws.EntriesVeiled
namespace Go.Proofs.Ytkfobnhnehbkeaa
open Go.RowKit Go.Shelf
open Mis (ch sets tot sm low up lower rngL rngStep)
attribute [local go_sem] Oper.semAt_some

theorem four_new (w : World) (c1 c2 c3 c4 : Array Value) (t1 t2 t3 t4 : TypeId) : Blk ((((w.alloc (.cells c1 t1)).alloc (.cells c2 t2)).alloc (.cells c3 t3)).alloc (.cells c4 t4)) w.heap.size c1 t1 ∧ Blk ((((w.alloc (.cells c1 t1)).alloc (.cells c2 t2)).alloc (.cells c3 t3)).alloc (.cells c4 t4)) (w.heap.size + 1) c2 t2 ∧
    Blk ((((w.alloc (.cells c1 t1)).alloc (.cells c2 t2)).alloc (.cells c3 t3)).alloc (.cells c4 t4)) (w.heap.size + 1 + 1) c3 t3 ∧ Blk ((((w.alloc (.cells c1 t1)).alloc (.cells c2 t2)).alloc (.cells c3 t3)).alloc (.cells c4 t4)) (w.heap.size + 1 + 1 + 1) c4 t4 ∧
    Below w.heap.size w ((((w.alloc (.cells c1 t1)).alloc (.cells c2 t2)).alloc (.cells c3 t3)).alloc (.cells c4 t4)) ∧ ((((w.alloc (.cells c1 t1)).alloc (.cells c2 t2)).alloc (.cells c3 t3)).alloc (.cells c4 t4)).heap.size = w.heap.size + 4 := by
  obtain ⟨h1, h2, h3, h4, h5⟩ := three_new w c1 c2 c3 t1 t2 t3
  refine ⟨h1.alloc _, h2.alloc _, h3.alloc _, ?_, h4.alloc (by rw [h5]; omega) _, by rw [World.size_alloc, h5]⟩
  have := Blk.new (((w.alloc (.cells c1 t1)).alloc (.cells c2 t2)).alloc (.cells c3 t3)) c4 t4
  rwa [h5] at this

def loOf : Option (Nat × Nat) → Nat | none => 0 | some r => r.1
def hiOf : Option (Nat × Nat) → Nat | none => 0 | some r => r.2
/-- the numbers of missed persons that a level does not exclude -/
def rangeOf (l M s f n d : Nat) : Option (Nat × Nat) := Mis.rng (fun u => !Mis.excl l s f n d u) (M + 1)
def rOf {M : Nat} (l s f n d : Nat) (pre : List (UpTo M)) : Option (Nat × Nat) := rngL (fun u => !Mis.excl l s f n d u) (pre.map (·.1))
theorem rOf_nil {M : Nat} (l s f n d : Nat) : rOf l s f n d ([] : List (UpTo M)) = none := rfl
theorem rOf_snoc {M : Nat} (l s f n d : Nat) (pre : List (UpTo M)) (x : UpTo M) : rOf l s f n d (pre ++ [x]) = rngStep (fun u => !Mis.excl l s f n d u) (rOf l s f n d pre) x.1 := by
  unfold rOf; rw [List.map_append]; exact Mis.rngL_snoc _ _ _
abbrev rangeV (lo hi : Int) : Value := .agg #[.int .i64 lo, .int .i64 hi]

theorem ownRest3 {β : Type} (B0 b1 b2 b3 mb : Nat) (c1 : Array Value) (f2 f3 : β → Array Value) (t1 t2 t3 : TypeId) (w : World) (h1 : b1 < B0) (h2 : b2 < B0) (h3 : b3 < B0) (h4 : mb < B0) (h5 : w.heap.size ≤ B0) :
    OwnFrom B0 (fun (s : β) W => Blk W b1 c1 t1 ∧ Blk W b2 (f2 s) t2 ∧ Blk W b3 (f3 s) t3 ∧ Memo W mb ∧ Below w.heap.size w W) := fun s W W' row ⟨g1, g2, g3, g4, g5⟩ hg hr =>
  ⟨g1.kept hg (fun e => by have := (hr _ e.symm).1; omega), g2.kept hg (fun e => by have := (hr _ e.symm).1; omega), g3.kept hg (fun e => by have := (hr _ e.symm).1; omega), g4.kept hg (fun e => by have := (hr _ e.symm).1; omega), g5.grown hg g5.size (fun j e => Nat.le_trans h5 (hr j e).1)⟩

/-- behind the making of the test of a number -/
def MadeAt (l M s f n d : Nat) (w : World) (mb b6 : Nat) (W : World) : Prop := Blk W w.heap.size #[.int .i64 l, .int .i64 M, .int .i64 s, .int .i64 f] 29 ∧ Blk W (w.heap.size + 1 + 1) #[.int .i64 0, .int .i64 0] 48 ∧ Blk W (w.heap.size + 1 + 1 + 1) #[.bool false] 4 ∧ Blk W b6 #[(.func (.func 82) #[doubtV l M s f mb n d] #[])] 112 ∧ Memo W mb ∧ mb ≠ b6 ∧ w.heap.size + 1 + 1 + 1 < mb ∧ w.heap.size + 1 + 1 + 1 < b6 ∧ Below w.heap.size w W
theorem made1 {l M s f n d : Nat} {w W1 w2 : World} (hsz : W1.heap.size = w.heap.size + 4) (hb0 : Below w.heap.size w W1) (hb2 : Below W1.heap.size W1 w2) (hm2 : Memo w2 (W1.heap.size + 1 + 1)) (d1 : Blk w2 w.heap.size #[.int .i64 l, .int .i64 M, .int .i64 s, .int .i64 f] 29) (d3 : Blk w2 (w.heap.size + 1 + 1) #[.int .i64 0, .int .i64 0] 48) (d4 : Blk w2 (w.heap.size + 1 + 1 + 1) #[.bool false] 4) :
    MadeAt l M s f n d w (W1.heap.size + 1 + 1) w2.heap.size (w2.alloc (.cells #[(.func (.func 82) #[doubtV l M s f (W1.heap.size + 1 + 1) n d] #[])] 112)) := by
  have hs2 := hb2.size
  have hml := hm2.lt
  exact ⟨d1.alloc _, d3.alloc _, d4.alloc _, Blk.new _ _ _, hm2.alloc _, by omega, by omega, by omega, (hb0.trans (hb2.mono (by omega))).alloc (by omega) _⟩
theorem made2 {l M s f n d : Nat} {w W1 w2 : World} (hsz : W1.heap.size = w.heap.size + 4) (hb0 : Below w.heap.size w W1) (hb2 : Below W1.heap.size W1 w2) (hm2 : Memo w2 (W1.heap.size + 1 + 1 + 1)) (d1 : Blk w2 w.heap.size #[.int .i64 l, .int .i64 M, .int .i64 s, .int .i64 f] 29) (d3 : Blk w2 (w.heap.size + 1 + 1) #[.int .i64 0, .int .i64 0] 48) (d4 : Blk w2 (w.heap.size + 1 + 1 + 1) #[.bool false] 4) (d5 : Blk w2 W1.heap.size #[.nilFunc] 112) :
    MadeAt l M s f n d w (W1.heap.size + 1 + 1 + 1) W1.heap.size (w2.setCell ⟨W1.heap.size, 0, none⟩ (.func (.func 82) #[doubtV l M s f (W1.heap.size + 1 + 1 + 1) n d] #[])) := by
  have hs2 := hb2.size
  have hml := hm2.lt
  exact ⟨d1.other (by simp; omega) _, d3.other (by simp; omega) _, d4.other (by simp; omega) _, d5.set 0 _, hm2.setCell (by show W1.heap.size + 1 + 1 + 1 ≠ W1.heap.size; omega) _, by omega, by omega, by omega, (hb0.trans (hb2.mono (by omega))).setCell (by simp; omega) _⟩

set_option maxRecDepth 100000 in
set_option maxHeartbeats 2000000 in
theorem missed_any (l M s f n d : Nat) (w : World) (hl : l + M ≤ 50) (hs : s ≤ l) (hf : f ≤ s) (hn : n ≤ 1000) (hd : d ≤ 1000) :
    Calls Try.prog 65 #[areaV l M s f, fracV n d] w fun e w' => e = .returned (.tuple #[rangeV (loOf (rangeOf l M s f n d)) (hiOf (rangeOf l M s f n d)), .bool (rangeOf l M s f n d).isSome]) ∧ Below w.heap.size w w' := by
  refine (callsIn_wide (n := 8)).1 ?_
  refine callsIn_of_wp_marks Try.func65 rfl trivial ?_ rfl
  simp only [Try.ntmps65, List.size_toArray, List.length_cons, List.length_nil, Nat.reduceAdd, Nat.reduceSub, Array.replicate_succ, Array.replicate_zero, List.push_toArray, List.append_toArray, List.nil_append, List.cons_append]
  gi_wp2_with fail
  obtain ⟨b1, b2, b3, b4, hb0, hsz⟩ := four_new w #[.int .i64 l, .int .i64 M, .int .i64 s, .int .i64 f] #[.int .i64 n, .int .i64 d] #[.int .i64 0, .int .i64 0] #[.bool false] 29 25 48 4
  generalize (((w.alloc (.cells #[.int .i64 l, .int .i64 M, .int .i64 s, .int .i64 f] 29)).alloc (.cells #[.int .i64 n, .int .i64 d] 25)).alloc (.cells #[.int .i64 0, .int .i64 0] 48)).alloc (.cells #[.bool false] 4) = W1 at *
  obtain ⟨k0, k1, k2, k3⟩ := b1.c4
  obtain ⟨k4, k5, k6, k7⟩ := b2.c2
  have lt1 := b1.lt
  have lt2 := b2.lt
  have B1 := Lib.hid b1
  have B2 := Lib.hid b2
  have B3 := Lib.hid b3
  have B4 := Lib.hid b4
  have HB0 := Lib.hid hb0
  have HSZ := Lib.hid hsz
  clear b1 b2 b3 b4 hb0 hsz
  refine wpIn_wide.2 ?_
  refine Code.wp_mono (Q := (fun e a W => e = .normal ∧ ∃ mb b6 : Nat, a = ({ tmps := #[areaV l M s f, fracV n d, .pointer (some ⟨w.heap.size, 0, none⟩), .pointer (some ⟨w.heap.size + 1, 0, none⟩), .pointer (some ⟨w.heap.size + 1 + 1, 0, none⟩), .pointer (some ⟨w.heap.size + 1 + 1 + 1, 0, none⟩), .pointer (some ⟨b6, 0, none⟩), undef, areaV l M s f, workV l M s f mb, fracV n d, doubtV l M s f mb n d, (.func (.func 82) #[doubtV l M s f mb n d] #[]), undef, undef, undef, undef, undef, undef, undef, undef, undef, undef, undef, undef, undef, undef], defers := [] } : Act) ∧ Blk W w.heap.size #[.int .i64 l, .int .i64 M, .int .i64 s, .int .i64 f] 29 ∧ Blk W (w.heap.size + 1 + 1) #[.int .i64 0, .int .i64 0] 48 ∧ Blk W (w.heap.size + 1 + 1 + 1) #[.bool false] 4 ∧ Blk W b6 #[(.func (.func 82) #[doubtV l M s f mb n d] #[])] 112 ∧ Memo W mb ∧ mb ≠ b6 ∧ w.heap.size + 1 + 1 + 1 < mb ∧ w.heap.size + 1 + 1 + 1 < b6 ∧ Below w.heap.size w W)) ?goOn ?region
  case region =>
    go_region_held3 (fun w' => w'.cell? ⟨w.heap.size, 0, none⟩ = some (.int .i64 l) ∧ w'.cell? ⟨w.heap.size, 1, none⟩ = some (.int .i64 M) ∧ w'.cell? ⟨w.heap.size, 2, none⟩ = some (.int .i64 s) ∧ w'.cell? ⟨w.heap.size, 3, none⟩ = some (.int .i64 f) ∧ w'.cell? ⟨w.heap.size + 1, 0, none⟩ = some (.int .i64 n) ∧ w'.cell? ⟨w.heap.size + 1, 1, none⟩ = some (.int .i64 d))
      (first | (with_reducible exact ⟨k0, k1, k2, k3, k4, k5⟩) | (with_reducible exact ⟨x0, x1, x2, x3, x4, x5⟩) | exact ⟨(B1.out.alloc _).c4.1, (B1.out.alloc _).c4.2.1, (B1.out.alloc _).c4.2.2.1, (B1.out.alloc _).c4.2.2.2, (B2.out.alloc _).c2.1, (B2.out.alloc _).c2.2.1⟩ | exact ⟨(D1.out.alloc _).c4.1, (D1.out.alloc _).c4.2.1, (D1.out.alloc _).c4.2.2.1, (D1.out.alloc _).c4.2.2.2, (D2.out.alloc _).c2.1, (D2.out.alloc _).c2.2.1⟩ | exact ⟨((D1.out.alloc _).other (by simp; omega) _).c4.1, ((D1.out.alloc _).other (by simp; omega) _).c4.2.1, ((D1.out.alloc _).other (by simp; omega) _).c4.2.2.1, ((D1.out.alloc _).other (by simp; omega) _).c4.2.2.2, ((D2.out.alloc _).other (by simp; omega) _).c2.1, ((D2.out.alloc _).other (by simp; omega) _).c2.2.1⟩ | exact ⟨(D1.out.other (by simp; omega) _).c4.1, (D1.out.other (by simp; omega) _).c4.2.1, (D1.out.other (by simp; omega) _).c4.2.2.1, (D1.out.other (by simp; omega) _).c4.2.2.2, (D2.out.other (by simp; omega) _).c2.1, (D2.out.other (by simp; omega) _).c2.2.1⟩ | go_keep)
      (first | (go_at_call 59; (with_reducible refine (work_any _ _ _ _ _).mono ?_); rintro e w2 ⟨rfl, hm2, hb2⟩; have d1 := (B1.out.drew).below hb2 B1.out.lt; have d2 := (B2.out.drew).below hb2 B2.out.lt; have d3 := (B3.out.drew).below hb2 B3.out.lt; have d4 := (B4.out.drew).below hb2 B4.out.lt; have ⟨x0, x1, x2, x3⟩ := d1.c4; have ⟨x4, x5, x6, x7⟩ := d2.c2; have lt3 := d2.lt; have HM2 := Lib.hid hm2; have HB2 := Lib.hid (show Below W1.heap.size W1 w2 from ⟨hb2.os, hb2.tape, hb2.output, hb2.size, hb2.block⟩); have D1 := Lib.hid d1; have D2 := Lib.hid d2; have D3 := Lib.hid d3; have D4 := Lib.hid d4; clear hm2 hb2 d1 d2 d3 d4) | (go_at_call 59; (with_reducible refine (work_any _ _ _ _ _).mono ?_); rintro e w2 ⟨rfl, hm2, hb2⟩; have d1 := ((B1.out.alloc _).drew).below hb2 (B1.out.alloc _).lt; have d2 := ((B2.out.alloc _).drew).below hb2 (B2.out.alloc _).lt; have d3 := ((B3.out.alloc _).drew).below hb2 (B3.out.alloc _).lt; have d4 := ((B4.out.alloc _).drew).below hb2 (B4.out.alloc _).lt; have d5 := (Blk.new W1 #[.nilFunc] 112).drew.below hb2 (Blk.new W1 #[.nilFunc] 112).lt; have ⟨x8, x9⟩ := d5.c1; have D5 := Lib.hid d5; clear d5; have ⟨x0, x1, x2, x3⟩ := d1.c4; have ⟨x4, x5, x6, x7⟩ := d2.c2; have lt3 := d2.lt; have HM2 := Lib.hid hm2; have HB2 := Lib.hid (show Below W1.heap.size W1 w2 from ((Below.refl _ W1).alloc (Nat.le_refl _) _).trans ((show Below (W1.alloc (.cells #[.nilFunc] 112)).heap.size (W1.alloc (.cells #[.nilFunc] 112)) w2 from ⟨hb2.os, hb2.tape, hb2.output, hb2.size, hb2.block⟩).mono (by simp))); have D1 := Lib.hid d1; have D2 := Lib.hid d2; have D3 := Lib.hid d3; have D4 := Lib.hid d4; clear hm2 hb2 d1 d2 d3 d4))
    · exact ⟨rfl, _, _, rfl, made1 HSZ.out HB0.out HB2.out HM2.out D1.out D3.out D4.out⟩
    · exact ⟨rfl, _, _, rfl, made1 HSZ.out HB0.out HB2.out HM2.out D1.out D3.out D4.out⟩
    · exact ⟨rfl, _, _, rfl, made2 HSZ.out HB0.out HB2.out (by have h := HM2.out; rw [show (W1.alloc (.cells #[.nilFunc] 112)).drew.heap.size = W1.heap.size + 1 from World.size_alloc _ _] at h; exact h) D1.out D3.out D4.out D5.out⟩
  case goOn =>
    rintro e a W ⟨rfl, mb, b6, rfl, g1, g3, g4, g6, gm, hmb6, hmb, hb6, hB⟩
    obtain ⟨k0, k1, k2, k3⟩ := g1.c4
    have lt1 := g1.lt
    have lt6 := g6.lt
    have ltm := gm.lt
    have G1 := Lib.hid g1
    have G3 := Lib.hid g3
    have G4 := Lib.hid g4
    have G6 := Lib.hid g6
    have GM := Lib.hid gm
    have GB := Lib.hid hB
    clear g1 g3 g4 g6 gm hB
    gi_wp2_with (first
      | (refine ⟨trivial, ?_⟩; gi_at_call 60; (with_reducible refine (callsIn_wide.2 (numbers_any _ _ _ _ _)).mono ?_); rintro e w3 ⟨rfl, rfl⟩))
    have q4 := Blk.new W #[.int .i64 l, .int .i64 M, .int .i64 s, .int .i64 f] 29
    have q3 := G3.out.alloc (.cells #[.int .i64 l, .int .i64 M, .int .i64 s, .int .i64 f] 29)
    have q5 := G4.out.alloc (.cells #[.int .i64 l, .int .i64 M, .int .i64 s, .int .i64 f] 29)
    have q6 := G6.out.alloc (.cells #[.int .i64 l, .int .i64 M, .int .i64 s, .int .i64 f] 29)
    have qm := GM.out.alloc (.cells #[.int .i64 l, .int .i64 M, .int .i64 s, .int .i64 f] 29)
    have qb := GB.out.alloc (Nat.le_of_lt lt1) (.cells #[.int .i64 l, .int .i64 M, .int .i64 s, .int .i64 f] 29)
    have qs : (W.alloc (.cells #[.int .i64 l, .int .i64 M, .int .i64 s, .int .i64 f] 29)).heap.size = W.heap.size + 1 := World.size_alloc _ _
    generalize W.alloc (.cells #[.int .i64 l, .int .i64 M, .int .i64 s, .int .i64 f] 29) = W0 at *
    refine wpIn_rangeFunc_ownG rfl (by omega) (gf := 76) (lb := #[.pointer (some ⟨W.heap.size, 0, none⟩)]) rfl trivial (enters_of Try.func76 (by kernel_rfl) rfl)
      (numbers_stops M (by omega) 7 (by omega) W.heap.size W0 (by omega) (q4.cell 1)) (fun _ _ => trivial) (fun _ _ _ _ _ _ _ _ => trivial) (Below.refl _ _) (fun _ => rfl)
      (fun (pre : List (UpTo M)) V => Blk V b6 #[.func (.func 82) #[doubtV l M s f mb n d] #[]] 112 ∧ Blk V (w.heap.size + 1 + 1) #[.int .i64 (loOf (rOf l s f n d pre) : Nat), .int .i64 (hiOf (rOf l s f n d pre) : Nat)] 48 ∧ Blk V (w.heap.size + 1 + 1 + 1) #[.bool (rOf l s f n d pre).isSome] 4 ∧ Memo V mb ∧ Below w.heap.size w V)
      (fun _ _ _ => False)
      (ownRest3 _ _ _ _ _ _ (fun pre : List (UpTo M) => #[.int .i64 (loOf (rOf l s f n d pre) : Nat), .int .i64 (hiOf (rOf l s f n d pre) : Nat)]) (fun pre : List (UpTo M) => #[.bool (rOf l s f n d pre).isSome]) _ _ _ w (by omega) (by omega) (by omega) (by omega) (by omega))
      (fun _ _ _ _ _ hs _ _ => hs)
      ⟨q6, q3, q5, qm, qb⟩
      (fun x => { tmps := #[areaV l M s f, fracV n d, .pointer (some ⟨w.heap.size, 0, none⟩), .pointer (some ⟨w.heap.size + 1, 0, none⟩), .pointer (some ⟨w.heap.size + 1 + 1, 0, none⟩), .pointer (some ⟨w.heap.size + 1 + 1 + 1, 0, none⟩), .pointer (some ⟨b6, 0, none⟩), .int .i64 (x.1 : Int), areaV l M s f, workV l M s f mb, fracV n d, doubtV l M s f mb n d, .func (.func 82) #[doubtV l M s f mb n d] #[], areaV l M s f, .func (.func 76) #[] #[.pointer (some ⟨W.heap.size, 0, none⟩)], .int .i64 (x.1 : Int), undef, undef, undef, undef, undef, undef, undef, undef, undef, undef, undef], defers := [] }) ?assign ?body ?done ?stop
    case assign =>
      intro lv x W K hK
      gi_wp2
      exact hK
    case body =>
      rintro lv pre x V ⟨i6, i3, i4, im, iB⟩ hlt
      have hx := x.2
      have hsn := rOf_snoc l s f n d pre x
      have C82 := Lib.hid (fun mb w hm => excluded_any M l x.1 s f mb n d w (by omega) hs hf hn hd hm)
      obtain ⟨k4, k5⟩ := i6.c1
      have lt7 := im.lt
      have I6 := Lib.hid i6
      have I3 := Lib.hid i3
      have I4 := Lib.hid i4
      have IM := Lib.hid im
      have IB := Lib.hid iB
      have SN := Lib.hid hsn
      clear i6 i3 i4 im iB hsn
      generalize rOf l s f n d pre = r at *
      have hmB : mb < W0.heap.size := by omega
      cases hE : Mis.excl l s f n d x.1 with
      | true =>
        have hst : rngStep (fun u => !Mis.excl l s f n d u) r x.1 = r := by simp [rngStep, hE]
        rw [hst] at SN
        rw [hE] at C82
        clear hst hE
        gi_wp2_with (first
          | (refine ⟨trivial, ?_⟩; gi_at_call 82; (with_reducible refine (CallsIn.inRound lv (callsIn_wide.2 (C82.out _ _ ?_))).mono ?_); (exact IM.out); rintro e w3 ⟨rfl, hm3, hg3⟩; have HM3 := Lib.hid hm3; have HG3 := Lib.hid hg3; clear hm3 hg3))
        refine ⟨keeps_row HG3.out hmB, trivial, I6.out.kept HG3.out (by simp; omega), by rw [SN.out]; exact I3.out.kept HG3.out (by simp; omega), by rw [SN.out]; exact I4.out.kept HG3.out (by simp; omega), HM3.out, IB.out.grown HG3.out IB.out.size (fun j e => by cases e; omega)⟩
      | false =>
        rw [hE] at C82
        cases r with
        | none =>
          have hst : rngStep (fun u => !Mis.excl l s f n d u) none x.1 = some (x.1, x.1) := by simp [rngStep, hE]
          rw [hst] at SN
          clear hst hE
          gi_wp2_with (first
          | (refine ⟨trivial, ?_⟩; gi_at_call 82; (with_reducible refine (CallsIn.inRound lv (callsIn_wide.2 (C82.out _ _ ?_))).mono ?_); (exact IM.out); rintro e w3 ⟨rfl, hm3, hg3⟩; have d3 := I3.out.kept hg3 (by simp; omega); have d4 := I4.out.kept hg3 (by simp; omega); obtain ⟨k6, k7, k8, k9⟩ := d3.c2; obtain ⟨ka, kb⟩ := d4.c1; have D3 := Lib.hid d3; have D4 := Lib.hid d4; have HM3 := Lib.hid hm3; have HG3 := Lib.hid hg3; clear hm3 hg3 d3 d4))
          have t3 : Blk (((w3.setCell ⟨w.heap.size + 1 + 1, 0, none⟩ (.int .i64 (x.1 : Int))).setCell ⟨w.heap.size + 1 + 1 + 1, 0, none⟩ (.bool true)).setCell ⟨w.heap.size + 1 + 1, 1, none⟩ (.int .i64 (x.1 : Int))) (w.heap.size + 1 + 1) #[.int .i64 (x.1 : Int), .int .i64 (x.1 : Int)] 48 := ((D3.out.set 0 (.int .i64 (x.1 : Int))).other (a := ⟨w.heap.size + 1 + 1 + 1, 0, none⟩) (by simp) (.bool true)).set 1 (.int .i64 (x.1 : Int))
          have t4 : Blk (((w3.setCell ⟨w.heap.size + 1 + 1, 0, none⟩ (.int .i64 (x.1 : Int))).setCell ⟨w.heap.size + 1 + 1 + 1, 0, none⟩ (.bool true)).setCell ⟨w.heap.size + 1 + 1, 1, none⟩ (.int .i64 (x.1 : Int))) (w.heap.size + 1 + 1 + 1) #[.bool true] 4 := ((D4.out.other (a := ⟨w.heap.size + 1 + 1, 0, none⟩) (by simp) (.int .i64 (x.1 : Int))).set 0 (.bool true)).other (a := ⟨w.heap.size + 1 + 1, 1, none⟩) (by simp) (.int .i64 (x.1 : Int))
          refine ⟨(((keeps_row HG3.out hmB).trans ((KeepsOthers.setCell _ _ _).from _)).trans ((KeepsOthers.setCell _ _ _).from _)).trans ((KeepsOthers.setCell _ _ _).from _), trivial, (((I6.out.kept HG3.out (by simp; omega)).other (by simp; omega) _).other (by simp; omega) _).other (by simp; omega) _, by rw [SN.out]; exact t3, by rw [SN.out]; exact t4, ((HM3.out.setCell (by simp; omega) _).setCell (by simp; omega) _).setCell (by simp; omega) _, ?_⟩
          exact (((IB.out.grown HG3.out IB.out.size (fun j e => by cases e; omega)).setCell (by simp; omega) _).setCell (by simp; omega) _).setCell (by simp; omega) _
        | some r =>
          obtain ⟨r1, r2⟩ := r
          have hst : rngStep (fun u => !Mis.excl l s f n d u) (some (r1, r2)) x.1 = some (r1, x.1) := by simp [rngStep, hE]
          rw [hst] at SN
          clear hst hE
          gi_wp2_with (first
          | (refine ⟨trivial, ?_⟩; gi_at_call 82; (with_reducible refine (CallsIn.inRound lv (callsIn_wide.2 (C82.out _ _ ?_))).mono ?_); (exact IM.out); rintro e w3 ⟨rfl, hm3, hg3⟩; have d3 := I3.out.kept hg3 (by simp; omega); have d4 := I4.out.kept hg3 (by simp; omega); obtain ⟨k6, k7, k8, k9⟩ := d3.c2; obtain ⟨ka, kb⟩ := d4.c1; have D3 := Lib.hid d3; have D4 := Lib.hid d4; have HM3 := Lib.hid hm3; have HG3 := Lib.hid hg3; clear hm3 hg3 d3 d4))
          have t3 : Blk (w3.setCell ⟨w.heap.size + 1 + 1, 1, none⟩ (.int .i64 (x.1 : Int))) (w.heap.size + 1 + 1) #[.int .i64 (r1 : Int), .int .i64 (x.1 : Int)] 48 := D3.out.set 1 (.int .i64 (x.1 : Int))
          have t4 : Blk (w3.setCell ⟨w.heap.size + 1 + 1, 1, none⟩ (.int .i64 (x.1 : Int))) (w.heap.size + 1 + 1 + 1) #[.bool true] 4 := D4.out.other (by simp) _
          refine ⟨(keeps_row HG3.out hmB).trans ((KeepsOthers.setCell _ _ _).from _), trivial, (I6.out.kept HG3.out (by simp; omega)).other (by simp; omega) _, by rw [SN.out]; exact t3, by rw [SN.out]; exact t4, HM3.out.setCell (by simp; omega) _, ?_⟩
          exact (IB.out.grown HG3.out IB.out.size (fun j e => by cases e; omega)).setCell (by simp; omega) _
    case done =>
      rintro D ys V hD hys ⟨i6, i3, i4, im, iB⟩ hK
      have hO : rOf l s f n d ys = rangeOf l M s f n d := by
        unfold rOf rangeOf
        rw [hys, Mis.rngL_range]
      rw [hO] at i3 i4
      generalize hr : rangeOf l M s f n d = r at *
      obtain ⟨k4, k5, k6, k7⟩ := i3.c2
      obtain ⟨k8, k9⟩ := i4.c1
      have I3 := Lib.hid i3
      have I4 := Lib.hid i4
      have IB := Lib.hid iB
      have lt9 := i4.lt
      have HR := Lib.hid hr
      clear i6 i3 i4 im iB hys hO hr
      gi_wp2_with fail
      refine wpIn_wide.2 ?_
      go_region
      have t3 : Blk (((V.setCell ⟨w.heap.size + 1 + 1, 0, none⟩ (.int .i64 (loOf r : Nat))).setCell ⟨w.heap.size + 1 + 1, 1, none⟩ (.int .i64 (hiOf r : Nat))).setCell ⟨w.heap.size + 1 + 1 + 1, 0, none⟩ (.bool r.isSome)).drew (w.heap.size + 1 + 1) #[.int .i64 (loOf r : Nat), .int .i64 (hiOf r : Nat)] 48 := ((I3.out.set 0 (.int .i64 (loOf r : Nat))).set 1 (.int .i64 (hiOf r : Nat))).other (by simp) _
      have t4 : Blk (((V.setCell ⟨w.heap.size + 1 + 1, 0, none⟩ (.int .i64 (loOf r : Nat))).setCell ⟨w.heap.size + 1 + 1, 1, none⟩ (.int .i64 (hiOf r : Nat))).setCell ⟨w.heap.size + 1 + 1 + 1, 0, none⟩ (.bool r.isSome)).drew (w.heap.size + 1 + 1 + 1) #[.bool r.isSome] 4 := (((I4.out.other (by simp) _).other (by simp) _)).set 0 (.bool r.isSome)
      have tB : Below w.heap.size w (((V.setCell ⟨w.heap.size + 1 + 1, 0, none⟩ (.int .i64 (loOf r : Nat))).setCell ⟨w.heap.size + 1 + 1, 1, none⟩ (.int .i64 (hiOf r : Nat))).setCell ⟨w.heap.size + 1 + 1 + 1, 0, none⟩ (.bool r.isSome)).drew := (((IB.out.setCell (by simp; omega) _).setCell (by simp; omega) _).setCell (by simp; omega) _).drewN' 1
      have tK : (((V.setCell ⟨w.heap.size + 1 + 1, 0, none⟩ (.int .i64 (loOf r : Nat))).setCell ⟨w.heap.size + 1 + 1, 1, none⟩ (.int .i64 (hiOf r : Nat))).setCell ⟨w.heap.size + 1 + 1 + 1, 0, none⟩ (.bool r.isSome)).drew.heap[D]? = some (.deferred (some [])) := (Below.heap_setCell _ _ _ D (by simp; omega)).trans ((Below.heap_setCell _ _ _ D (by simp; omega)).trans ((Below.heap_setCell V _ _ D (by simp; omega)).trans hK))
      generalize (((V.setCell ⟨w.heap.size + 1 + 1, 0, none⟩ (.int .i64 (loOf r : Nat))).setCell ⟨w.heap.size + 1 + 1, 1, none⟩ (.int .i64 (hiOf r : Nat))).setCell ⟨w.heap.size + 1 + 1 + 1, 0, none⟩ (.bool r.isSome)).drew = X at *
      have T3 := Lib.hid t3
      have T4 := Lib.hid t4
      have TB := Lib.hid tB
      obtain ⟨m4, m5, m6, m7⟩ := t3.c2
      obtain ⟨m8, m9⟩ := t4.c1
      clear t3 t4 tB hK k4 k5 k6 k7 k8 k9
      gi_wp2
      refine ⟨by simp, .inl ⟨_, _, rfl, run_takeDeferred tK, ?_⟩⟩
      have tk := Lib.hid (grownBy_putObj' X D (.deferred none))
      have f3 := T3.out.kept tk.out (by simp; omega)
      have f4 := T4.out.kept tk.out (by simp; omega)
      obtain ⟨n4, n5, n6, n7⟩ := f3.c2
      obtain ⟨n8, n9⟩ := f4.c1
      have hB' := fun o' => belowK_b (w := W0) (n₀ := w.heap.size) (by omega) X D _ o' hD tK rfl rfl
      refine ⟨.tuple #[rangeV (loOf r : Nat) (hiOf r : Nat), .bool r.isSome], by simp [results, Try.results65, go_sem, n4, n5, n8], ?_, TB.out.trans (hB' _)⟩
      rw [HR.out]
    case stop =>
      rintro D c pre W _ _ h _
      exact h.elim
end Go.Proofs.Ytkfobnhnehbkeaa
