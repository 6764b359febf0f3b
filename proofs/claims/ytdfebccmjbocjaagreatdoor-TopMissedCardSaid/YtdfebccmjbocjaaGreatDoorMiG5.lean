/- Texts of this seat, merged. -/
import Derived.Test.YtdfebccmjbocjaaGreatDoorMiG4
import Derived.Laws.EntriesVeiled
set_option linter.unusedVariables false
set_option linter.unusedSimpArgs false
namespace Go.Proofs.YtdfebccmjbocjaaGreatDoor.Mi
open Go.RowKit Go.Shelf
open Mis (ch sets tot sm low up lower rngL rngStep)
attribute [local go_sem] Oper.semAt_some

theorem four_new (w : World) (c1 c2 c3 c4 : Array Value) (t1 t2 t3 t4 : TypeId) : Blk ((((w.alloc (.cells c1 t1)).alloc (.cells c2 t2)).alloc (.cells c3 t3)).alloc (.cells c4 t4)) w.heap.size c1 t1 ∧ Blk ((((w.alloc (.cells c1 t1)).alloc (.cells c2 t2)).alloc (.cells c3 t3)).alloc (.cells c4 t4)) (w.heap.size + 1) c2 t2 ∧
    Blk ((((w.alloc (.cells c1 t1)).alloc (.cells c2 t2)).alloc (.cells c3 t3)).alloc (.cells c4 t4)) (w.heap.size + 1 + 1) c3 t3 ∧ Blk ((((w.alloc (.cells c1 t1)).alloc (.cells c2 t2)).alloc (.cells c3 t3)).alloc (.cells c4 t4)) (w.heap.size + 1 + 1 + 1) c4 t4 ∧
    Below w.heap.size w ((((w.alloc (.cells c1 t1)).alloc (.cells c2 t2)).alloc (.cells c3 t3)).alloc (.cells c4 t4)) ∧ ((((w.alloc (.cells c1 t1)).alloc (.cells c2 t2)).alloc (.cells c3 t3)).alloc (.cells c4 t4)).heap.size = w.heap.size + 4 := by
  obtain ⟨h1, h2, h3, h4, h5⟩ := three_new w c1 c2 c3 t1 t2 t3
  refine ⟨h1.alloc _, h2.alloc _, h3.alloc _, ?_, h4.alloc (by rw [h5]; omega) _, by rw [World.size_alloc, h5]⟩
  have := Blk.new (((w.alloc (.cells c1 t1)).alloc (.cells c2 t2)).alloc (.cells c3 t3)) c4 t4
  rwa [h5] at this

def loOf : Option (Nat × Nat) → Nat | none => 0 | some r => r.1
def hiOf : Option (Nat × Nat) → Nat | none => 0 | some r => r.2
/-- the numbers of missed persons that a level does not exclude -/
def rangeOf (l M s f n d : Nat) : Option (Nat × Nat) := Mis.rng (fun u => !Mis.excl l s f n d u) (M + 1)
def rOf {M : Nat} (l s f n d : Nat) (pre : List (UpTo M)) : Option (Nat × Nat) := rngL (fun u => !Mis.excl l s f n d u) (pre.map (·.1))
theorem rOf_nil {M : Nat} (l s f n d : Nat) : rOf l s f n d ([] : List (UpTo M)) = none := rfl
theorem rOf_snoc {M : Nat} (l s f n d : Nat) (pre : List (UpTo M)) (x : UpTo M) : rOf l s f n d (pre ++ [x]) = rngStep (fun u => !Mis.excl l s f n d u) (rOf l s f n d pre) x.1 := by
  unfold rOf; rw [List.map_append]; exact Mis.rngL_snoc _ _ _
abbrev rangeV (lo hi : Int) : Value := .agg #[.int .i64 lo, .int .i64 hi]

theorem ownRest3 {β : Type} (B0 b1 b2 b3 mb : Nat) (c1 : Array Value) (f2 f3 : β → Array Value) (t1 t2 t3 : TypeId) (w : World) (h1 : b1 < B0) (h2 : b2 < B0) (h3 : b3 < B0) (h4 : mb < B0) (h5 : w.heap.size ≤ B0) :
    OwnFrom B0 (fun (s : β) W => Blk W b1 c1 t1 ∧ Blk W b2 (f2 s) t2 ∧ Blk W b3 (f3 s) t3 ∧ Memo W mb ∧ Below w.heap.size w W) := fun s W W' row ⟨g1, g2, g3, g4, g5⟩ hg hr =>
  ⟨g1.kept hg (fun e => by have := (hr _ e.symm).1; omega), g2.kept hg (fun e => by have := (hr _ e.symm).1; omega), g3.kept hg (fun e => by have := (hr _ e.symm).1; omega), g4.kept hg (fun e => by have := (hr _ e.symm).1; omega), g5.grown hg g5.size (fun j e => Nat.le_trans h5 (hr j e).1)⟩

/-- behind the making of the test of a number -/
def MadeAt (l M s f n d : Nat) (w : World) (mb b6 : Nat) (W : World) : Prop := Blk W w.heap.size #[.int .i64 l, .int .i64 M, .int .i64 s, .int .i64 f] 69 ∧ Blk W (w.heap.size + 1 + 1) #[.int .i64 0, .int .i64 0] 73 ∧ Blk W (w.heap.size + 1 + 1 + 1) #[.bool false] 4 ∧ Blk W b6 #[(.func (.func 129) #[doubtV l M s f mb n d] #[])] 110 ∧ Memo W mb ∧ mb ≠ b6 ∧ w.heap.size + 1 + 1 + 1 < mb ∧ w.heap.size + 1 + 1 + 1 < b6 ∧ Below w.heap.size w W
theorem made1 {l M s f n d : Nat} {w W1 w2 : World} (hsz : W1.heap.size = w.heap.size + 4) (hb0 : Below w.heap.size w W1) (hb2 : Below W1.heap.size W1 w2) (hm2 : Memo w2 (W1.heap.size + 1 + 1)) (d1 : Blk w2 w.heap.size #[.int .i64 l, .int .i64 M, .int .i64 s, .int .i64 f] 69) (d3 : Blk w2 (w.heap.size + 1 + 1) #[.int .i64 0, .int .i64 0] 73) (d4 : Blk w2 (w.heap.size + 1 + 1 + 1) #[.bool false] 4) :
    MadeAt l M s f n d w (W1.heap.size + 1 + 1) w2.heap.size (w2.alloc (.cells #[(.func (.func 129) #[doubtV l M s f (W1.heap.size + 1 + 1) n d] #[])] 110)) := by
  have hs2 := hb2.size
  have hml := hm2.lt
  exact ⟨d1.alloc _, d3.alloc _, d4.alloc _, Blk.new _ _ _, hm2.alloc _, by omega, by omega, by omega, (hb0.trans (hb2.mono (by omega))).alloc (by omega) _⟩
theorem made2 {l M s f n d : Nat} {w W1 w2 : World} (hsz : W1.heap.size = w.heap.size + 4) (hb0 : Below w.heap.size w W1) (hb2 : Below W1.heap.size W1 w2) (hm2 : Memo w2 (W1.heap.size + 1 + 1 + 1)) (d1 : Blk w2 w.heap.size #[.int .i64 l, .int .i64 M, .int .i64 s, .int .i64 f] 69) (d3 : Blk w2 (w.heap.size + 1 + 1) #[.int .i64 0, .int .i64 0] 73) (d4 : Blk w2 (w.heap.size + 1 + 1 + 1) #[.bool false] 4) (d5 : Blk w2 W1.heap.size #[.nilFunc] 110) :
    MadeAt l M s f n d w (W1.heap.size + 1 + 1 + 1) W1.heap.size (w2.setCell ⟨W1.heap.size, 0, none⟩ (.func (.func 129) #[doubtV l M s f (W1.heap.size + 1 + 1 + 1) n d] #[])) := by
  have hs2 := hb2.size
  have hml := hm2.lt
  exact ⟨d1.other (by simp; omega) _, d3.other (by simp; omega) _, d4.other (by simp; omega) _, d5.set 0 _, hm2.setCell (by show W1.heap.size + 1 + 1 + 1 ≠ W1.heap.size; omega) _, by omega, by omega, by omega, (hb0.trans (hb2.mono (by omega))).setCell (by simp; omega) _⟩

set_option maxRecDepth 100000 in
set_option maxHeartbeats 2000000 in
theorem missed_any (l M s f n d : Nat) (w : World) (hl : l + M ≤ 50) (hs : s ≤ l) (hf : f ≤ s) (hn : n ≤ 1000) (hd : d ≤ 1000) :
    Calls Tryz.prog 92 #[areaV l M s f, fracV n d] w fun e w' => e = .returned (.tuple #[rangeV (loOf (rangeOf l M s f n d)) (hiOf (rangeOf l M s f n d)), .bool (rangeOf l M s f n d).isSome]) ∧ Below w.heap.size w w' := by
  refine (callsIn_wide (n := 8)).1 ?_
  refine callsIn_of_wp_marks Tryz.func92 rfl trivial ?_ rfl
  simp only [Tryz.ntmps92, List.size_toArray, List.length_cons, List.length_nil, Nat.reduceAdd, Nat.reduceSub, Array.replicate_succ, Array.replicate_zero, List.push_toArray, List.append_toArray, List.nil_append, List.cons_append]
  gi_wp2_with fail
  obtain ⟨b1, b2, b3, b4, hb0, hsz⟩ := four_new w #[.int .i64 l, .int .i64 M, .int .i64 s, .int .i64 f] #[.int .i64 n, .int .i64 d] #[.int .i64 0, .int .i64 0] #[.bool false] 69 70 73 4
  generalize (((w.alloc (.cells #[.int .i64 l, .int .i64 M, .int .i64 s, .int .i64 f] 69)).alloc (.cells #[.int .i64 n, .int .i64 d] 70)).alloc (.cells #[.int .i64 0, .int .i64 0] 73)).alloc (.cells #[.bool false] 4) = W1 at *
  obtain ⟨k0, k1, k2, k3⟩ := b1.c4
  obtain ⟨k4, k5, k6, k7⟩ := b2.c2
  have lt1 := b1.lt
  have lt2 := b2.lt
  have B1 := Lib.hid b1
  have B2 := Lib.hid b2
  have B3 := Lib.hid b3
  have B4 := Lib.hid b4
  have HB0 := Lib.hid hb0
  have HSZ := Lib.hid hsz
  clear b1 b2 b3 b4 hb0 hsz
  refine wpIn_wide.2 ?_
  refine Code.wp_mono (Q := (fun e a W => e = .normal ∧ ∃ mb b6 : Nat, a = ({ tmps := #[areaV l M s f, fracV n d, .pointer (some ⟨w.heap.size, 0, none⟩), .pointer (some ⟨w.heap.size + 1, 0, none⟩), .pointer (some ⟨w.heap.size + 1 + 1, 0, none⟩), .pointer (some ⟨w.heap.size + 1 + 1 + 1, 0, none⟩), .pointer (some ⟨b6, 0, none⟩), undef, areaV l M s f, workV l M s f mb, fracV n d, doubtV l M s f mb n d, (.func (.func 129) #[doubtV l M s f mb n d] #[]), undef, undef, undef, undef, undef, undef, undef, undef, undef, undef, undef, undef, undef, undef], defers := [] } : Act) ∧ Blk W w.heap.size #[.int .i64 l, .int .i64 M, .int .i64 s, .int .i64 f] 69 ∧ Blk W (w.heap.size + 1 + 1) #[.int .i64 0, .int .i64 0] 73 ∧ Blk W (w.heap.size + 1 + 1 + 1) #[.bool false] 4 ∧ Blk W b6 #[(.func (.func 129) #[doubtV l M s f mb n d] #[])] 110 ∧ Memo W mb ∧ mb ≠ b6 ∧ w.heap.size + 1 + 1 + 1 < mb ∧ w.heap.size + 1 + 1 + 1 < b6 ∧ Below w.heap.size w W)) ?goOn ?region
  case region =>
    go_region_held3 (fun w' => w'.cell? ⟨w.heap.size, 0, none⟩ = some (.int .i64 l) ∧ w'.cell? ⟨w.heap.size, 1, none⟩ = some (.int .i64 M) ∧ w'.cell? ⟨w.heap.size, 2, none⟩ = some (.int .i64 s) ∧ w'.cell? ⟨w.heap.size, 3, none⟩ = some (.int .i64 f) ∧ w'.cell? ⟨w.heap.size + 1, 0, none⟩ = some (.int .i64 n) ∧ w'.cell? ⟨w.heap.size + 1, 1, none⟩ = some (.int .i64 d))
      (first | (with_reducible exact ⟨k0, k1, k2, k3, k4, k5⟩) | (with_reducible exact ⟨x0, x1, x2, x3, x4, x5⟩) | exact ⟨(B1.out.alloc _).c4.1, (B1.out.alloc _).c4.2.1, (B1.out.alloc _).c4.2.2.1, (B1.out.alloc _).c4.2.2.2, (B2.out.alloc _).c2.1, (B2.out.alloc _).c2.2.1⟩ | exact ⟨(D1.out.alloc _).c4.1, (D1.out.alloc _).c4.2.1, (D1.out.alloc _).c4.2.2.1, (D1.out.alloc _).c4.2.2.2, (D2.out.alloc _).c2.1, (D2.out.alloc _).c2.2.1⟩ | exact ⟨((D1.out.alloc _).other (by simp; omega) _).c4.1, ((D1.out.alloc _).other (by simp; omega) _).c4.2.1, ((D1.out.alloc _).other (by simp; omega) _).c4.2.2.1, ((D1.out.alloc _).other (by simp; omega) _).c4.2.2.2, ((D2.out.alloc _).other (by simp; omega) _).c2.1, ((D2.out.alloc _).other (by simp; omega) _).c2.2.1⟩ | exact ⟨(D1.out.other (by simp; omega) _).c4.1, (D1.out.other (by simp; omega) _).c4.2.1, (D1.out.other (by simp; omega) _).c4.2.2.1, (D1.out.other (by simp; omega) _).c4.2.2.2, (D2.out.other (by simp; omega) _).c2.1, (D2.out.other (by simp; omega) _).c2.2.1⟩ | go_keep)
      (first | (go_at_call 87; (with_reducible refine (work_any _ _ _ _ _).mono ?_); rintro e w2 ⟨rfl, hm2, hb2⟩; have d1 := (B1.out.drew).below hb2 B1.out.lt; have d2 := (B2.out.drew).below hb2 B2.out.lt; have d3 := (B3.out.drew).below hb2 B3.out.lt; have d4 := (B4.out.drew).below hb2 B4.out.lt; have ⟨x0, x1, x2, x3⟩ := d1.c4; have ⟨x4, x5, x6, x7⟩ := d2.c2; have lt3 := d2.lt; have HM2 := Lib.hid hm2; have HB2 := Lib.hid (show Below W1.heap.size W1 w2 from ⟨hb2.os, hb2.tape, hb2.output, hb2.size, hb2.block⟩); have D1 := Lib.hid d1; have D2 := Lib.hid d2; have D3 := Lib.hid d3; have D4 := Lib.hid d4; clear hm2 hb2 d1 d2 d3 d4) | (go_at_call 87; (with_reducible refine (work_any _ _ _ _ _).mono ?_); rintro e w2 ⟨rfl, hm2, hb2⟩; have d1 := ((B1.out.alloc _).drew).below hb2 (B1.out.alloc _).lt; have d2 := ((B2.out.alloc _).drew).below hb2 (B2.out.alloc _).lt; have d3 := ((B3.out.alloc _).drew).below hb2 (B3.out.alloc _).lt; have d4 := ((B4.out.alloc _).drew).below hb2 (B4.out.alloc _).lt; have d5 := (Blk.new W1 #[.nilFunc] 110).drew.below hb2 (Blk.new W1 #[.nilFunc] 110).lt; have ⟨x8, x9⟩ := d5.c1; have D5 := Lib.hid d5; clear d5; have ⟨x0, x1, x2, x3⟩ := d1.c4; have ⟨x4, x5, x6, x7⟩ := d2.c2; have lt3 := d2.lt; have HM2 := Lib.hid hm2; have HB2 := Lib.hid (show Below W1.heap.size W1 w2 from ((Below.refl _ W1).alloc (Nat.le_refl _) _).trans ((show Below (W1.alloc (.cells #[.nilFunc] 110)).heap.size (W1.alloc (.cells #[.nilFunc] 110)) w2 from ⟨hb2.os, hb2.tape, hb2.output, hb2.size, hb2.block⟩).mono (by simp))); have D1 := Lib.hid d1; have D2 := Lib.hid d2; have D3 := Lib.hid d3; have D4 := Lib.hid d4; clear hm2 hb2 d1 d2 d3 d4))
    · exact ⟨rfl, _, _, rfl, made1 HSZ.out HB0.out HB2.out HM2.out D1.out D3.out D4.out⟩
    · exact ⟨rfl, _, _, rfl, made1 HSZ.out HB0.out HB2.out HM2.out D1.out D3.out D4.out⟩
    · exact ⟨rfl, _, _, rfl, made2 HSZ.out HB0.out HB2.out (by have h := HM2.out; rw [show (W1.alloc (.cells #[.nilFunc] 110)).drew.heap.size = W1.heap.size + 1 from World.size_alloc _ _] at h; exact h) D1.out D3.out D4.out D5.out⟩
  case goOn =>
    rintro e a W ⟨rfl, mb, b6, rfl, g1, g3, g4, g6, gm, hmb6, hmb, hb6, hB⟩
    obtain ⟨k0, k1, k2, k3⟩ := g1.c4
    have lt1 := g1.lt
    have lt6 := g6.lt
    have ltm := gm.lt
    have G1 := Lib.hid g1
    have G3 := Lib.hid g3
    have G4 := Lib.hid g4
    have G6 := Lib.hid g6
    have GM := Lib.hid gm
    have GB := Lib.hid hB
    clear g1 g3 g4 g6 gm hB
    gi_wp2_with (first
      | (refine ⟨trivial, ?_⟩; gi_at_call 130; (with_reducible refine (callsIn_wide.2 (numbers_any _ _ _ _ _)).mono ?_); rintro e w3 ⟨rfl, rfl⟩))
    have q4 := Blk.new W #[.int .i64 l, .int .i64 M, .int .i64 s, .int .i64 f] 69
    have q3 := G3.out.alloc (.cells #[.int .i64 l, .int .i64 M, .int .i64 s, .int .i64 f] 69)
    have q5 := G4.out.alloc (.cells #[.int .i64 l, .int .i64 M, .int .i64 s, .int .i64 f] 69)
    have q6 := G6.out.alloc (.cells #[.int .i64 l, .int .i64 M, .int .i64 s, .int .i64 f] 69)
    have qm := GM.out.alloc (.cells #[.int .i64 l, .int .i64 M, .int .i64 s, .int .i64 f] 69)
    have qb := GB.out.alloc (Nat.le_of_lt lt1) (.cells #[.int .i64 l, .int .i64 M, .int .i64 s, .int .i64 f] 69)
    have qs : (W.alloc (.cells #[.int .i64 l, .int .i64 M, .int .i64 s, .int .i64 f] 69)).heap.size = W.heap.size + 1 := World.size_alloc _ _
    generalize W.alloc (.cells #[.int .i64 l, .int .i64 M, .int .i64 s, .int .i64 f] 69) = W0 at *
    refine wpIn_rangeFunc_ownG rfl (by omega) (gf := 158) (lb := #[.pointer (some ⟨W.heap.size, 0, none⟩)]) rfl trivial (enters_of Tryz.func158 (by kernel_rfl) rfl)
      (numbers_stops M (by omega) 7 (by omega) W.heap.size W0 (by omega) (q4.cell 1)) (fun _ _ => trivial) (fun _ _ _ _ _ _ _ _ => trivial) (Below.refl _ _) (fun _ => rfl)
      (fun (pre : List (UpTo M)) V => Blk V b6 #[.func (.func 129) #[doubtV l M s f mb n d] #[]] 110 ∧ Blk V (w.heap.size + 1 + 1) #[.int .i64 (loOf (rOf l s f n d pre) : Nat), .int .i64 (hiOf (rOf l s f n d pre) : Nat)] 73 ∧ Blk V (w.heap.size + 1 + 1 + 1) #[.bool (rOf l s f n d pre).isSome] 4 ∧ Memo V mb ∧ Below w.heap.size w V)
      (fun _ _ _ => False)
      (ownRest3 _ _ _ _ _ _ (fun pre : List (UpTo M) => #[.int .i64 (loOf (rOf l s f n d pre) : Nat), .int .i64 (hiOf (rOf l s f n d pre) : Nat)]) (fun pre : List (UpTo M) => #[.bool (rOf l s f n d pre).isSome]) _ _ _ w (by omega) (by omega) (by omega) (by omega) (by omega))
      (fun _ _ _ _ _ hs _ _ => hs)
      ⟨q6, q3, q5, qm, qb⟩
      (fun x => { tmps := #[areaV l M s f, fracV n d, .pointer (some ⟨w.heap.size, 0, none⟩), .pointer (some ⟨w.heap.size + 1, 0, none⟩), .pointer (some ⟨w.heap.size + 1 + 1, 0, none⟩), .pointer (some ⟨w.heap.size + 1 + 1 + 1, 0, none⟩), .pointer (some ⟨b6, 0, none⟩), .int .i64 (x.1 : Int), areaV l M s f, workV l M s f mb, fracV n d, doubtV l M s f mb n d, .func (.func 129) #[doubtV l M s f mb n d] #[], areaV l M s f, .func (.func 158) #[] #[.pointer (some ⟨W.heap.size, 0, none⟩)], .int .i64 (x.1 : Int), undef, undef, undef, undef, undef, undef, undef, undef, undef, undef, undef], defers := [] }) ?assign ?body ?done ?stop
    case assign =>
      intro lv x W K hK
      gi_wp2
      exact hK
    case body =>
      rintro lv pre x V ⟨i6, i3, i4, im, iB⟩ hlt
      have hx := x.2
      have hsn := rOf_snoc l s f n d pre x
      have C82 := Lib.hid (fun mb w hm => excluded_any M l x.1 s f mb n d w (by omega) hs hf hn hd hm)
      obtain ⟨k4, k5⟩ := i6.c1
      have lt7 := im.lt
      have I6 := Lib.hid i6
      have I3 := Lib.hid i3
      have I4 := Lib.hid i4
      have IM := Lib.hid im
      have IB := Lib.hid iB
      have SN := Lib.hid hsn
      clear i6 i3 i4 im iB hsn
      generalize rOf l s f n d pre = r at *
      have hmB : mb < W0.heap.size := by omega
      cases hE : Mis.excl l s f n d x.1 with
      | true =>
        have hst : rngStep (fun u => !Mis.excl l s f n d u) r x.1 = r := by simp [rngStep, hE]
        rw [hst] at SN
        rw [hE] at C82
        clear hst hE
        gi_wp2_with (first
          | (refine ⟨trivial, ?_⟩; gi_at_call 129; (with_reducible refine (CallsIn.inRound lv (callsIn_wide.2 (C82.out _ _ ?_))).mono ?_); (exact IM.out); rintro e w3 ⟨rfl, hm3, hg3⟩; have HM3 := Lib.hid hm3; have HG3 := Lib.hid hg3; clear hm3 hg3))
        refine ⟨keeps_row HG3.out hmB, trivial, I6.out.kept HG3.out (by simp; omega), by rw [SN.out]; exact I3.out.kept HG3.out (by simp; omega), by rw [SN.out]; exact I4.out.kept HG3.out (by simp; omega), HM3.out, IB.out.grown HG3.out IB.out.size (fun j e => by cases e; omega)⟩
      | false =>
        rw [hE] at C82
        cases r with
        | none =>
          have hst : rngStep (fun u => !Mis.excl l s f n d u) none x.1 = some (x.1, x.1) := by simp [rngStep, hE]
          rw [hst] at SN
          clear hst hE
          gi_wp2_with (first
          | (refine ⟨trivial, ?_⟩; gi_at_call 129; (with_reducible refine (CallsIn.inRound lv (callsIn_wide.2 (C82.out _ _ ?_))).mono ?_); (exact IM.out); rintro e w3 ⟨rfl, hm3, hg3⟩; have d3 := I3.out.kept hg3 (by simp; omega); have d4 := I4.out.kept hg3 (by simp; omega); obtain ⟨k6, k7, k8, k9⟩ := d3.c2; obtain ⟨ka, kb⟩ := d4.c1; have D3 := Lib.hid d3; have D4 := Lib.hid d4; have HM3 := Lib.hid hm3; have HG3 := Lib.hid hg3; clear hm3 hg3 d3 d4))
          have t3 : Blk (((w3.setCell ⟨w.heap.size + 1 + 1, 0, none⟩ (.int .i64 (x.1 : Int))).setCell ⟨w.heap.size + 1 + 1 + 1, 0, none⟩ (.bool true)).setCell ⟨w.heap.size + 1 + 1, 1, none⟩ (.int .i64 (x.1 : Int))) (w.heap.size + 1 + 1) #[.int .i64 (x.1 : Int), .int .i64 (x.1 : Int)] 73 := ((D3.out.set 0 (.int .i64 (x.1 : Int))).other (a := ⟨w.heap.size + 1 + 1 + 1, 0, none⟩) (by simp) (.bool true)).set 1 (.int .i64 (x.1 : Int))
          have t4 : Blk (((w3.setCell ⟨w.heap.size + 1 + 1, 0, none⟩ (.int .i64 (x.1 : Int))).setCell ⟨w.heap.size + 1 + 1 + 1, 0, none⟩ (.bool true)).setCell ⟨w.heap.size + 1 + 1, 1, none⟩ (.int .i64 (x.1 : Int))) (w.heap.size + 1 + 1 + 1) #[.bool true] 4 := ((D4.out.other (a := ⟨w.heap.size + 1 + 1, 0, none⟩) (by simp) (.int .i64 (x.1 : Int))).set 0 (.bool true)).other (a := ⟨w.heap.size + 1 + 1, 1, none⟩) (by simp) (.int .i64 (x.1 : Int))
          refine ⟨(((keeps_row HG3.out hmB).trans ((KeepsOthers.setCell _ _ _).from _)).trans ((KeepsOthers.setCell _ _ _).from _)).trans ((KeepsOthers.setCell _ _ _).from _), trivial, (((I6.out.kept HG3.out (by simp; omega)).other (by simp; omega) _).other (by simp; omega) _).other (by simp; omega) _, by rw [SN.out]; exact t3, by rw [SN.out]; exact t4, ((HM3.out.setCell (by simp; omega) _).setCell (by simp; omega) _).setCell (by simp; omega) _, ?_⟩
          exact (((IB.out.grown HG3.out IB.out.size (fun j e => by cases e; omega)).setCell (by simp; omega) _).setCell (by simp; omega) _).setCell (by simp; omega) _
        | some r =>
          obtain ⟨r1, r2⟩ := r
          have hst : rngStep (fun u => !Mis.excl l s f n d u) (some (r1, r2)) x.1 = some (r1, x.1) := by simp [rngStep, hE]
          rw [hst] at SN
          clear hst hE
          gi_wp2_with (first
          | (refine ⟨trivial, ?_⟩; gi_at_call 129; (with_reducible refine (CallsIn.inRound lv (callsIn_wide.2 (C82.out _ _ ?_))).mono ?_); (exact IM.out); rintro e w3 ⟨rfl, hm3, hg3⟩; have d3 := I3.out.kept hg3 (by simp; omega); have d4 := I4.out.kept hg3 (by simp; omega); obtain ⟨k6, k7, k8, k9⟩ := d3.c2; obtain ⟨ka, kb⟩ := d4.c1; have D3 := Lib.hid d3; have D4 := Lib.hid d4; have HM3 := Lib.hid hm3; have HG3 := Lib.hid hg3; clear hm3 hg3 d3 d4))
          have t3 : Blk (w3.setCell ⟨w.heap.size + 1 + 1, 1, none⟩ (.int .i64 (x.1 : Int))) (w.heap.size + 1 + 1) #[.int .i64 (r1 : Int), .int .i64 (x.1 : Int)] 73 := D3.out.set 1 (.int .i64 (x.1 : Int))
          have t4 : Blk (w3.setCell ⟨w.heap.size + 1 + 1, 1, none⟩ (.int .i64 (x.1 : Int))) (w.heap.size + 1 + 1 + 1) #[.bool true] 4 := D4.out.other (by simp) _
          refine ⟨(keeps_row HG3.out hmB).trans ((KeepsOthers.setCell _ _ _).from _), trivial, (I6.out.kept HG3.out (by simp; omega)).other (by simp; omega) _, by rw [SN.out]; exact t3, by rw [SN.out]; exact t4, HM3.out.setCell (by simp; omega) _, ?_⟩
          exact (IB.out.grown HG3.out IB.out.size (fun j e => by cases e; omega)).setCell (by simp; omega) _
    case done =>
      rintro D ys V hD hys ⟨i6, i3, i4, im, iB⟩ hK
      have hO : rOf l s f n d ys = rangeOf l M s f n d := by
        unfold rOf rangeOf
        rw [hys, Mis.rngL_range]
      rw [hO] at i3 i4
      generalize hr : rangeOf l M s f n d = r at *
      obtain ⟨k4, k5, k6, k7⟩ := i3.c2
      obtain ⟨k8, k9⟩ := i4.c1
      have I3 := Lib.hid i3
      have I4 := Lib.hid i4
      have IB := Lib.hid iB
      have lt9 := i4.lt
      have HR := Lib.hid hr
      clear i6 i3 i4 im iB hys hO hr
      gi_wp2_with fail
      refine wpIn_wide.2 ?_
      go_region
      have t3 : Blk (((V.setCell ⟨w.heap.size + 1 + 1, 0, none⟩ (.int .i64 (loOf r : Nat))).setCell ⟨w.heap.size + 1 + 1, 1, none⟩ (.int .i64 (hiOf r : Nat))).setCell ⟨w.heap.size + 1 + 1 + 1, 0, none⟩ (.bool r.isSome)).drew (w.heap.size + 1 + 1) #[.int .i64 (loOf r : Nat), .int .i64 (hiOf r : Nat)] 73 := ((I3.out.set 0 (.int .i64 (loOf r : Nat))).set 1 (.int .i64 (hiOf r : Nat))).other (by simp) _
      have t4 : Blk (((V.setCell ⟨w.heap.size + 1 + 1, 0, none⟩ (.int .i64 (loOf r : Nat))).setCell ⟨w.heap.size + 1 + 1, 1, none⟩ (.int .i64 (hiOf r : Nat))).setCell ⟨w.heap.size + 1 + 1 + 1, 0, none⟩ (.bool r.isSome)).drew (w.heap.size + 1 + 1 + 1) #[.bool r.isSome] 4 := (((I4.out.other (by simp) _).other (by simp) _)).set 0 (.bool r.isSome)
      have tB : Below w.heap.size w (((V.setCell ⟨w.heap.size + 1 + 1, 0, none⟩ (.int .i64 (loOf r : Nat))).setCell ⟨w.heap.size + 1 + 1, 1, none⟩ (.int .i64 (hiOf r : Nat))).setCell ⟨w.heap.size + 1 + 1 + 1, 0, none⟩ (.bool r.isSome)).drew := (((IB.out.setCell (by simp; omega) _).setCell (by simp; omega) _).setCell (by simp; omega) _).drewN' 1
      have tK : (((V.setCell ⟨w.heap.size + 1 + 1, 0, none⟩ (.int .i64 (loOf r : Nat))).setCell ⟨w.heap.size + 1 + 1, 1, none⟩ (.int .i64 (hiOf r : Nat))).setCell ⟨w.heap.size + 1 + 1 + 1, 0, none⟩ (.bool r.isSome)).drew.heap[D]? = some (.deferred (some [])) := (Below.heap_setCell _ _ _ D (by simp; omega)).trans ((Below.heap_setCell _ _ _ D (by simp; omega)).trans ((Below.heap_setCell V _ _ D (by simp; omega)).trans hK))
      generalize (((V.setCell ⟨w.heap.size + 1 + 1, 0, none⟩ (.int .i64 (loOf r : Nat))).setCell ⟨w.heap.size + 1 + 1, 1, none⟩ (.int .i64 (hiOf r : Nat))).setCell ⟨w.heap.size + 1 + 1 + 1, 0, none⟩ (.bool r.isSome)).drew = X at *
      have T3 := Lib.hid t3
      have T4 := Lib.hid t4
      have TB := Lib.hid tB
      obtain ⟨m4, m5, m6, m7⟩ := t3.c2
      obtain ⟨m8, m9⟩ := t4.c1
      clear t3 t4 tB hK k4 k5 k6 k7 k8 k9
      gi_wp2
      refine ⟨by simp, .inl ⟨_, _, rfl, run_takeDeferred tK, ?_⟩⟩
      have tk := Lib.hid (grownBy_putObj' X D (.deferred none))
      have f3 := T3.out.kept tk.out (by simp; omega)
      have f4 := T4.out.kept tk.out (by simp; omega)
      obtain ⟨n4, n5, n6, n7⟩ := f3.c2
      obtain ⟨n8, n9⟩ := f4.c1
      have hB' := fun o' => belowK_b (w := W0) (n₀ := w.heap.size) (by omega) X D _ o' hD tK rfl rfl
      refine ⟨.tuple #[rangeV (loOf r : Nat) (hiOf r : Nat), .bool r.isSome], by simp [results, Tryz.results92, go_sem, n4, n5, n8], ?_, TB.out.trans (hB' _)⟩
      rw [HR.out]
    case stop =>
      rintro D c pre W _ _ h _
      exact h.elim
end Go.Proofs.YtdfebccmjbocjaaGreatDoor.Mi
namespace Go.Proofs.YtdfebccmjbocjaaGreatDoor.Mi
open Go.RowKit

structure A4 where
  L : Int
  M : Int
  S : Int
  F : Int
def A4.ok (a : A4) : Bool := areaB a.L a.M a.S a.F
/-- the areas lie in a row -/
def AreasAt (W : World) (b o : Nat) (xs : List A4) : Prop := ∀ i a, xs[i]? = some a → W.cell? ⟨b, o + i * 4, none⟩ = some (.int .i64 a.L) ∧ W.cell? ⟨b, o + i * 4 + 1, none⟩ = some (.int .i64 a.M) ∧ W.cell? ⟨b, o + i * 4 + 2, none⟩ = some (.int .i64 a.S) ∧ W.cell? ⟨b, o + i * 4 + 3, none⟩ = some (.int .i64 a.F)
theorem AreasAt.below {W W' : World} {b o B : Nat} {xs : List A4} (h : AreasAt W b o xs) (hb : Below B W W') (hlt : b < B) : AreasAt W' b o xs := fun i a e => by
  obtain ⟨h1, h2, h3, h4⟩ := h i a e
  exact ⟨(hb.cell (p := ⟨b, _, none⟩) hlt).trans h1, (hb.cell (p := ⟨b, _, none⟩) hlt).trans h2, (hb.cell (p := ⟨b, _, none⟩) hlt).trans h3, (hb.cell (p := ⟨b, _, none⟩) hlt).trans h4⟩

set_option maxRecDepth 100000 in
set_option maxHeartbeats 400000 in
theorem clos_any (L M S F : Int) (bx : Nat) (w : World) (hc : w.cell? ⟨bx, 0, none⟩ = some (.func (.func 86) #[] #[])) :
    Calls Tryz.prog 128 #[areaV L M S F, .pointer (some ⟨bx, 0, none⟩)] w fun e w' => e = .returned (.bool (!areaB L M S F)) ∧ Below w.heap.size w w' := by
  have lt1 : bx < w.heap.size := World.block_lt_of_cell? w ⟨bx, 0, none⟩ hc
  have hc2 : (w.alloc (.cells #[.int .i64 L, .int .i64 M, .int .i64 S, .int .i64 F] 69)).cell? ⟨bx, 0, none⟩ = some (.func (.func 86) #[] #[]) := (World.cell?_alloc_lt _ _ _ lt1).trans hc
  obtain ⟨b1, b2, b3⟩ := one_new w #[.int .i64 L, .int .i64 M, .int .i64 S, .int .i64 F] 69
  have B2 := Lib.hid b2
  clear hc b2 b3
  go_enter Tryz.func128, Tryz.ntmps128
  go_wp2_with fail
  generalize w.alloc (.cells #[.int .i64 L, .int .i64 M, .int .i64 S, .int .i64 F] 69) = W0 at *
  obtain ⟨k0, k1, k2, k3⟩ := b1.c4
  have B1 := Lib.hid b1
  clear b1
  go_wp2_with (go_at_call 86; (with_reducible refine (valid_any _ _ _ _ _).mono ?_); rintro e w' ⟨rfl, hb⟩; have HB := Lib.hid hb; clear hb)
  go_ret
  exact ⟨rfl, B2.out.trans (HB.out.mono B2.out.size)⟩

set_option maxRecDepth 100000 in
set_option maxHeartbeats 800000 in
theorem index_any (ad : Option Addr) (b o bx cap : Nat) (xs : List A4) (w : World) (had : xs ≠ [] → ad = some ⟨b, o, none⟩) (hb : xs ≠ [] → b < w.heap.size) (hn : xs.length ≤ 1000) (ha : AreasAt w b o xs) (hc : w.cell? ⟨bx, 0, none⟩ = some (.func (.func 86) #[] #[])) :
    Calls Tryz.prog 154 #[.slice ad xs.length cap, .func (.func 128) #[] #[.pointer (some ⟨bx, 0, none⟩)]] w fun e w' => (∃ r : Int, e = .returned (.int .i64 r) ∧ decide (0 ≤ r) = !(xs.all A4.ok) ∧ -1 ≤ r) ∧ Below w.heap.size w w' := by
  have lt1 : bx < w.heap.size := World.block_lt_of_cell? w ⟨bx, 0, none⟩ hc
  have HC := Lib.hid hc
  have HA := Lib.hid ha
  have HD := Lib.hid had
  have HB := Lib.hid hb
  have hN : ∃ n, n = xs.length := ⟨_, rfl⟩
  obtain ⟨n, hN⟩ := hN
  have HN := Lib.hid hN
  rw [← hN] at hn
  clear hc ha had hb
  rw [← hN]
  clear hN
  go_enter Tryz.func154, Tryz.ntmps154
  go_wp2
  go_loopw [8] (fun x wr => ∃ i : Nat, i ≤ n ∧ x = .int .i64 (i : Int) ∧ (∀ j a, j < i → xs[j]? = some a → a.ok = true) ∧ Below w.heap.size w wr) (fun x _ => n - (intOf x).toNat)
  case atStart => exact ⟨0, by omega, rfl, fun j a h => by omega, Below.refl _ _⟩
  case round =>
    obtain ⟨i, hi, rfl, hall, hbw⟩ := hrel
    have H := Lib.hid hall
    have HW := Lib.hid hbw
    by_cases hlt : i < n
    · obtain ⟨a, hai⟩ : ∃ a, xs[i]? = some a := ⟨xs[i]'(by rw [← HN.out]; exact hlt), by simp⟩
      have hne : xs ≠ [] := by rintro rfl; simp at hai
      have e1 := HD.out hne
      subst e1
      have hbl := HB.out hne
      obtain ⟨k0, k1, k2, k3⟩ := HA.out.below hbw hbl i a hai
      have hcw : wr.cell? ⟨bx, 0, none⟩ = some (.func (.func 86) #[] #[]) := (hbw.cell (p := ⟨bx, 0, none⟩) lt1).trans HC.out
      have HI := Lib.hid hai
      obtain ⟨L, M, S, F⟩ := a
      simp only [] at k0 k1 k2 k3
      clear hall hbw hai hne
      have C81 := Lib.hid (clos_any L M S F bx wr hcw)
      cases hok : areaB L M S F with
      | true =>
        rw [hok] at C81
        have OK := Lib.hid (show (A4.mk L M S F).ok = true from hok)
        clear hok hcw
        go_wp2_with (go_at_call 128; (with_reducible refine C81.out.mono ?_); rintro e w' ⟨rfl, hb⟩; have HB' := Lib.hid hb; clear hb)
        go_roundw
        case rel =>
          refine ⟨i + 1, by omega, by go_num, fun j a hj hja => ?_, HW.out.trans (HB'.out.mono HW.out.size)⟩
          rcases Nat.lt_succ_iff_lt_or_eq.1 hj with h | rfl
          · exact H.out j a h hja
          · rw [HI.out] at hja; cases hja; exact OK.out
        case measure => simp [intOf]; omega
      | false =>
        rw [hok] at C81
        have OK := Lib.hid (show (A4.mk L M S F).ok = false from hok)
        clear hok hcw
        go_wp2_with (go_at_call 128; (with_reducible refine C81.out.mono ?_); rintro e w' ⟨rfl, hb⟩; have HB' := Lib.hid hb; clear hb)
        go_ret
        refine ⟨⟨_, rfl, ?_, by omega⟩, HW.out.trans (HB'.out.mono HW.out.size)⟩
        have h1 : xs.all A4.ok = false := by
          rw [List.all_eq_false]
          exact ⟨_, List.mem_of_getElem? HI.out, by rw [OK.out]; simp⟩
        rw [h1]; simp
    · obtain rfl : i = n := by omega
      have h1 : xs.all A4.ok = true := by
        rw [List.all_eq_true]
        intro a ha
        obtain ⟨j, hj⟩ := List.getElem?_of_mem ha
        have hjl : j < xs.length := (List.getElem?_eq_some_iff.1 hj).1
        exact hall j a (by rw [HN.out]; exact hjl) hj
      have H1 := Lib.hid h1
      clear hall hbw h1
      go_wp2
      go_ret
      exact ⟨⟨-1, rfl, by rw [H1.out]; rfl, by omega⟩, HW.out⟩
set_option maxRecDepth 100000 in
set_option maxHeartbeats 800000 in
theorem contains_any (ad : Option Addr) (b o bx cap : Nat) (xs : List A4) (w : World) (had : xs ≠ [] → ad = some ⟨b, o, none⟩) (hb : xs ≠ [] → b < w.heap.size) (hn : xs.length ≤ 1000) (ha : AreasAt w b o xs) (hc : w.cell? ⟨bx, 0, none⟩ = some (.func (.func 86) #[] #[])) :
    Calls Tryz.prog 127 #[.slice ad xs.length cap, .func (.func 128) #[] #[.pointer (some ⟨bx, 0, none⟩)]] w fun e w' => e = .returned (.bool (!(xs.all A4.ok))) ∧ Below w.heap.size w w' := by
  have C := Lib.hid (index_any ad b o bx cap xs w had hb hn ha hc)
  clear had hb hn ha hc
  go_enter Tryz.func127, Tryz.ntmps127
  go_wp2_with (go_at_call 154; (with_reducible refine C.out.mono ?_); rintro e w' ⟨⟨r, rfl, hr, hr1⟩, hb⟩; have HB := Lib.hid hb; have HR := Lib.hid hr; clear hb hr)
  go_ret
  exact ⟨by rw [← HR.out]; rfl, HB.out⟩
set_option maxRecDepth 100000 in
set_option maxHeartbeats 800000 in
theorem all_any (ad : Option Addr) (b o cap : Nat) (xs : List A4) (w : World) (had : xs ≠ [] → ad = some ⟨b, o, none⟩) (hb : xs ≠ [] → b < w.heap.size) (hn : xs.length ≤ 1000) (ha : AreasAt w b o xs) :
    Calls Tryz.prog 90 #[.slice ad xs.length cap, .func (.func 86) #[] #[]] w fun e w' => e = .returned (.bool (xs.all A4.ok)) ∧ Below w.heap.size w w' := by
  obtain ⟨b1, b2, b3⟩ := one_new w #[.func (.func 86) #[] #[]] 156
  have ha' : AreasAt (w.alloc (.cells #[.func (.func 86) #[] #[]] 156)) b o xs := by
    by_cases hne : xs = []
    · subst hne; intro i a h; simp at h
    · exact ha.below b2 (hb hne)
  have C := Lib.hid (contains_any ad b o w.heap.size cap xs _ had (fun h => Nat.lt_of_lt_of_le (hb h) b2.size) hn ha' (b1.cell 0))
  have B2 := Lib.hid b2
  clear had hb hn ha ha' b1 b2 b3
  go_enter Tryz.func90, Tryz.ntmps90
  go_wp2_with (go_at_call 127; (with_reducible refine C.out.mono ?_); rintro e w' ⟨rfl, hb⟩; have HB := Lib.hid hb; clear hb)
  go_ret
  exact ⟨by simp, B2.out.trans (HB.out.mono B2.out.size)⟩

/-- is a fraction a level? -/
def levB (n d : Int) : Bool := inB d 1 1000 && inB n 0 d
set_option maxRecDepth 100000 in
set_option maxHeartbeats 400000 in
theorem level_any (n d : Int) (w : World) : Calls Tryz.prog 91 #[fracV n d] w fun e w' => e = .returned (.bool (levB n d)) ∧ Below w.heap.size w w' := by
  cases h1 : inB d 1 1000 with
  | false =>
    have h : levB n d = false := by simp [levB, h1]
    rw [h]
    go_enter Tryz.func91, Tryz.ntmps91
    go_wp2_with (first | (go_at_call 54; refine (within_any _ _ _ _).mono ?_; rintro e w' ⟨rfl, rfl⟩))
    go_ret
    exact ⟨rfl, (Below.refl _ _).alloc (Nat.le_refl _) _⟩
  | true =>
    have h : levB n d = inB n 0 d := by simp [levB, h1]
    rw [h]
    go_enter Tryz.func91, Tryz.ntmps91
    go_wp2_with (first | (go_at_call 54; refine (within_any _ _ _ _).mono ?_; rintro e w' ⟨rfl, rfl⟩))
    go_ret
    exact ⟨rfl, (Below.refl _ _).alloc (Nat.le_refl _) _⟩
end Go.Proofs.YtdfebccmjbocjaaGreatDoor.Mi
namespace Go.Proofs.YtdfebccmjbocjaaGreatDoor.Mi
open Go.RowKit
open Mis (ch sets tot sm low up lower)

/-- is a sample large enough, if there are u missed persons? -/
def enoughB (l u s n d : Nat) : Bool := !lower (tot l u s - sets l u s s) (tot l u s) n d
end Go.Proofs.YtdfebccmjbocjaaGreatDoor.Mi
