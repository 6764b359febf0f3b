/- The walk of Enough of package miss. -/
import Derived.Test.YtkfobnhnehbkeaaMarks
namespace Go.Proofs.Ytkfobnhnehbkeaa
open Go.RowKit Go.Shelf
open Mis (ch sets tot sm low up lower)
attribute [local go_sem] Oper.semAt_some

/-- is a sample large enough, whatever number from u on is missed? -/
def sufB (l M u n d s : Nat) : Bool := (List.range (M + 1)).all fun x => decide (x < u) || enoughB l x s n d
def EnoughPost (l M u n d : Nat) (w : World) (e : Ending) (w' : World) : Prop :=
  (∃ v r : Nat, e = .returned (.tuple #[.int .i64 v, .int .i64 r]) ∧ (match Mis.first (sufB l M u n d) 0 (l + 1) with | some s => v = s ∧ r = 0 | none => v = 0 ∧ r = 9)) ∧ Below w.heap.size w w'

/-- what a round of Enough keeps -/
def EKeep (l M u n d s mb B N : Nat) (Ds : List Nat) (w W : World) : Prop := Blk W N #[.int .i64 u] 3 ∧ Blk W (N + 1) #[.int .i64 n, .int .i64 d] 25 ∧ Blk W B #[.int .i64 l, .int .i64 M, .int .i64 (s : Int), .int .i64 0, .map (some mb)] 99 ∧ Memo W mb ∧ Marks N W Ds ∧ Below N w W
theorem Marks.ne_memo {B mb : Nat} {W : World} {Ds : List Nat} (h : Marks B W Ds) (hm : Memo W mb) : ∀ D, D ∈ Ds → some D ≠ some mb := fun D hD e => by
  cases e
  obtain ⟨es, clock, hb, _⟩ := hm
  rw [(h.2 _ hD).2] at hb
  cases hb
theorem EKeep.own {β : Type} {l M u n d s mb B N B0 : Nat} {Ds : List Nat} {w : World} (Z : β → Prop) (_h1 : N < B0) (h2 : N + 1 < B0) (h3 : B < B0) (h4 : mb < B0) (h5 : ∀ D, D ∈ Ds → D < B0) (h6 : w.heap.size = N) :
    OwnFrom B0 (fun (x : β) W => EKeep l M u n d s mb B N Ds w W ∧ Z x) := fun x W W' row ⟨⟨g1, g2, g3, g4, g5, g6⟩, hz⟩ hg hr =>
  ⟨⟨g1.kept hg (fun e => by have := (hr _ e.symm).1; omega), g2.kept hg (fun e => by have := (hr _ e.symm).1; omega), g3.kept hg (fun e => by have := (hr _ e.symm).1; omega), g4.kept hg (fun e => by have := (hr _ e.symm).1; omega),
    g5.kept hg (fun D hD e => by have := (hr _ e.symm).1; have := h5 D hD; omega), g6.grown hg (by rw [← h6]; exact g6.size) (fun j e => by have := (hr j e).1; omega)⟩, hz⟩

set_option maxRecDepth 100000 in
set_option maxHeartbeats 1000000 in
theorem Enough_ok (l M u n d : Nat) (w : World) (hl : l + M ≤ 50) (hu : u ≤ M) (hd1 : 1 ≤ d) (hd : d ≤ 1000) (hn : n ≤ d) :
    Calls Try.prog 37 #[.int .i64 l, .int .i64 M, .int .i64 u, fracV n d] w (EnoughPost l M u n d w) := by
  have C67 := Lib.hid (fun w => persons_any l M w)
  have C68 := Lib.hid (fun w => within_any u 0 M w)
  have C64 := Lib.hid (fun w => level_any n d w)
  rw [show perB (l : Int) (M : Int) = true by simp [perB, inB]; omega] at C67
  rw [show inB (u : Int) 0 (M : Int) = true by simp [inB]; omega] at C68
  rw [show levB (n : Int) (d : Int) = true by simp [levB, inB]; omega] at C64
  obtain ⟨b1, b2, hb0, hsz⟩ := two_new w #[.int .i64 u] #[.int .i64 n, .int .i64 d] 3 25
  refine (callsIn_wide (n := 8)).1 ?_
  refine callsIn_of_wp_marks Try.func37 rfl trivial ?_ rfl
  simp only [Try.ntmps37, List.size_toArray, List.length_cons, List.length_nil, Nat.reduceAdd, Nat.reduceSub, Array.replicate_succ, Array.replicate_zero, List.push_toArray, List.append_toArray, List.nil_append, List.cons_append]
  gi_wp2_with fail
  refine wpIn_wide.2 (wp_scope_straight ((wpIn_wide (n := 8)).1 ?_))
  generalize (w.alloc (.cells #[.int .i64 u] 3)).alloc (.cells #[.int .i64 n, .int .i64 d] 25) = W0 at *
  obtain ⟨k0, k1⟩ := b1.c1
  obtain ⟨k2, k3, k4, k5⟩ := b2.c2
  have lt0 := b1.lt
  have B1 := Lib.hid b1
  have B2 := Lib.hid b2
  have HB0 := Lib.hid hb0
  clear b1 b2 hb0 hsz
  gi_wp2_with (first
    | (refine ⟨trivial, ?_⟩; gi_at_call 67; (with_reducible refine (callsIn_wide.2 (C67.out _)).mono ?_); rintro e w1 ⟨rfl, rfl⟩)
    | (refine ⟨trivial, ?_⟩; gi_at_call 68; (with_reducible refine (callsIn_wide.2 (C68.out _)).mono ?_); rintro e w1 ⟨rfl, rfl⟩)
    | (refine ⟨trivial, ?_⟩; gi_at_call 64; (with_reducible refine (callsIn_wide.2 (C64.out _)).mono ?_); rintro e w1 ⟨rfl, hb1⟩; have HB1 := Lib.hid hb1; clear hb1)
    | (refine ⟨trivial, ?_⟩; gi_at_call 59; (with_reducible refine (callsIn_wide.2 (work_any _ _ _ _ _)).mono ?_); rintro e w2 ⟨rfl, hm2, hb2⟩; have HM2 := Lib.hid hm2; have HB2 := Lib.hid hb2; clear hm2 hb2))
  have q1 := ((B1.out.below HB1.out B1.out.lt).below HB2.out (B1.out.below HB1.out B1.out.lt).lt).alloc (.cells #[.int .i64 l, .int .i64 M, .int .i64 0, .int .i64 0, .map (some (w1.heap.size + 1 + 1))] 99)
  have q2 := ((B2.out.below HB1.out B2.out.lt).below HB2.out (B2.out.below HB1.out B2.out.lt).lt).alloc (.cells #[.int .i64 l, .int .i64 M, .int .i64 0, .int .i64 0, .map (some (w1.heap.size + 1 + 1))] 99)
  have q3 := Blk.new w2 #[.int .i64 l, .int .i64 M, .int .i64 0, .int .i64 0, .map (some (w1.heap.size + 1 + 1))] 99
  have qm := HM2.out.alloc (.cells #[.int .i64 l, .int .i64 M, .int .i64 0, .int .i64 0, .map (some (w1.heap.size + 1 + 1))] 99)
  have qh := HB0.out.trans (HB1.out.mono HB0.out.size)
  have qh2 := qh.trans (HB2.out.mono qh.size)
  have qb := qh2.alloc qh2.size (.cells #[.int .i64 l, .int .i64 M, .int .i64 0, .int .i64 0, .map (some (w1.heap.size + 1 + 1))] 99)
  have lt1 := (B2.out.below HB1.out B2.out.lt).lt
  have lt2 := HB2.out.size
  have lt3 := HM2.out.lt
  have lt6 : w.heap.size + 1 < w1.heap.size + 1 + 1 := by omega
  generalize w2.alloc (.cells #[.int .i64 l, .int .i64 M, .int .i64 0, .int .i64 0, .map (some (w1.heap.size + 1 + 1))] 99) = W3 at *
  generalize w1.heap.size + 1 + 1 = mb at *
  obtain ⟨k6, k7, k8, k9, k10⟩ := q3.c5
  have k11 := q3.frozen 2
  have Q1 := Lib.hid q1
  have Q2 := Lib.hid q2
  have Q3 := Lib.hid q3
  have QM := Lib.hid qm
  have QB := Lib.hid qb
  clear q1 q2 q3 qm qh qh2 qb
  refine wpIn_label ?_
  gi_wp2_with fail
  have tB1 := Q1.out.other (a := ⟨w2.heap.size, 2, none⟩) (by simp; omega) (.int .i64 0)
  have tB2 := Q2.out.other (a := ⟨w2.heap.size, 2, none⟩) (by simp; omega) (.int .i64 0)
  have tB3 : Blk (W3.setCell ⟨w2.heap.size, 2, none⟩ (.int .i64 0)) w2.heap.size #[.int .i64 l, .int .i64 M, .int .i64 ((0 : Nat) : Int), .int .i64 0, .map (some mb)] 99 := Q3.out.set 2 (.int .i64 0)
  have tM := QM.out.setCell (a := ⟨w2.heap.size, 2, none⟩) (by simp; omega) (.int .i64 0)
  have tB := QB.out.setCell (p := ⟨w2.heap.size, 2, none⟩) (by simp; omega) (.int .i64 0)
  generalize W3.setCell ⟨w2.heap.size, 2, none⟩ (.int .i64 0) = W4 at *
  clear Q1 Q2 Q3 QM QB k0 k1 k2 k3 k4 k5 k6 k7 k8 k9 k10 k11 B1 B2 HB0 HB1 HB2 HM2 C64 C67 C68
  refine wpIn_loop (fun a W => ∃ (u11 u33 u34 u35 u36 u37 u38 u39 u40 u41 u42 u43 u44 u45 u46 u47 u48 u49 u50 u51 u52 u53 u54 u55 u56 u57 u58 u59 u60 : Value) (s : Nat) (Ds : List Nat), s ≤ l + 1 ∧ (∀ t, t < s → sufB l M u n d t = false) ∧ a = ({ tmps := #[.int .i64 l, .int .i64 M, .int .i64 u, fracV n d, undef, undef, .pointer (some ⟨w.heap.size, 0, none⟩), .pointer (some ⟨w.heap.size + 1, 0, none⟩), .int .i64 0, .int .i64 0, .pointer (some ⟨w2.heap.size, 0, none⟩), u11, .int .i64 l, .int .i64 M, .bool true, .bool false, .bool false, .int .i64 u, .int .i64 M, .bool true, .bool false, .bool false, .bool false, fracV n d, .bool true, .bool false, .bool false, .int .i64 l, .int .i64 M, .agg #[.int .i64 l, .int .i64 M, .int .i64 0, .int .i64 0], workV l M 0 0 mb, .pointer (some ⟨w2.heap.size, 0, none⟩), .pointer (some ⟨w2.heap.size, 2, none⟩), u33, u34, u35, u36, u37, u38, u39, u40, u41, u42, u43, u44, u45, u46, u47, u48, u49, u50, u51, u52, u53, u54, u55, u56, u57, u58, u59, u60], defers := Ds.map markOf } : Act) ∧ Blk W w.heap.size #[.int .i64 u] 3 ∧ Blk W (w.heap.size + 1) #[.int .i64 n, .int .i64 d] 25 ∧ Blk W w2.heap.size #[.int .i64 l, .int .i64 M, .int .i64 (s : Int), .int .i64 0, .map (some mb)] 99 ∧ Memo W mb ∧ Marks w.heap.size W Ds ∧ Below w.heap.size w W)
    (fun _ W => 60 - (intOf ((W.cell? ⟨w2.heap.size, 2, none⟩).getD undef)).toNat) ?atStart ?round
  case atStart => exact ⟨_, _, _, _, _, _, _, _, _, _, _, _, _, _, _, _, _, _, _, _, _, _, _, _, _, _, _, _, _, 0, [], by omega, fun t h => by omega, rfl, tB1, tB2, tB3, tM, Marks.nil _ _, tB⟩
  case round =>
    rintro a W ⟨u11, u33, u34, u35, u36, u37, u38, u39, u40, u41, u42, u43, u44, u45, u46, u47, u48, u49, u50, u51, u52, u53, u54, u55, u56, u57, u58, u59, u60, s, Ds, hs, hno, rfl, g1, g2, g3, gm, gd, gB⟩
    obtain ⟨k6, k7, k8, k9, k10⟩ := g3.c5
    have k11 := g3.frozen 2
    obtain ⟨k0, k1⟩ := g1.c1
    obtain ⟨k2, k3, k4, k5⟩ := g2.c2
    have lt4 := g3.lt
    have G1 := Lib.hid g1
    have G2 := Lib.hid g2
    have G3 := Lib.hid g3
    have GM := Lib.hid gm
    have GD := Lib.hid gd
    have GB := Lib.hid gB
    have HNO := Lib.hid hno
    clear g1 g2 g3 gm gd gB hno
    by_cases hsl : s ≤ l
    · have t1 : decide ((s : Int) ≤ (l : Int)) = true := by simp; exact hsl
      gi_wp2_with (first
        | (refine ⟨trivial, ?_⟩; gi_at_call 60; (with_reducible refine (callsIn_wide.2 (numbers_any _ _ _ _ _)).mono ?_); rintro e w5 ⟨rfl, rfl⟩))
      have AR := Lib.hid (Blk.new W #[.int .i64 l, .int .i64 M, .int .i64 (s : Int), .int .i64 0] 29)
      have q1 := G1.out.alloc (.cells #[.int .i64 l, .int .i64 M, .int .i64 (s : Int), .int .i64 0] 29)
      have q2 := G2.out.alloc (.cells #[.int .i64 l, .int .i64 M, .int .i64 (s : Int), .int .i64 0] 29)
      have q3 := G3.out.alloc (.cells #[.int .i64 l, .int .i64 M, .int .i64 (s : Int), .int .i64 0] 29)
      have qm := GM.out.alloc (.cells #[.int .i64 l, .int .i64 M, .int .i64 (s : Int), .int .i64 0] 29)
      have qd := GD.out.kept (World.grownBy_alloc W (.cells #[.int .i64 l, .int .i64 M, .int .i64 (s : Int), .int .i64 0] 29) none) (fun D _ => by simp)
      have qb := GB.out.alloc GB.out.size (.cells #[.int .i64 l, .int .i64 M, .int .i64 (s : Int), .int .i64 0] 29)
      have qs : (W.alloc (.cells #[.int .i64 l, .int .i64 M, .int .i64 (s : Int), .int .i64 0] 29)).heap.size = W.heap.size + 1 := World.size_alloc _ _
      have q4 := AR.out.cell 1
      have hDs : ∀ D, D ∈ Ds → D < W.heap.size := fun D hD => (Array.getElem?_eq_some_iff.1 (GD.out.2 D hD).2).1
      have ltm := GM.out.lt
      have lt5 := G2.out.lt
      generalize W.alloc (.cells #[.int .i64 l, .int .i64 M, .int .i64 (s : Int), .int .i64 0] 29) = W5 at *
      have HDs := Lib.hid hDs
      refine wpIn_rangeFunc_ownG rfl (by omega) (gf := 76) (lb := #[.pointer (some ⟨W.heap.size, 0, none⟩)]) rfl trivial (enters_of Try.func76 (by kernel_rfl) rfl)
        (numbers_stops M (by omega) 7 (by omega) W.heap.size W5 (by omega) q4) (fun _ _ => trivial) (fun _ _ _ _ _ _ _ _ => trivial) (Below.refl _ _) (fun _ => rfl)
        (fun (pre : List (UpTo M)) V => EKeep l M u n d s mb w2.heap.size w.heap.size Ds w V ∧ ∀ x, x ∈ pre → u ≤ x.1 → enoughB l x.1 s n d = true)
        (fun c (_ : List (UpTo M)) V => EKeep l M u n d s mb w2.heap.size w.heap.size Ds w V ∧ (c = Code.exit 1 ∧ ∃ x, x ≤ M ∧ u ≤ x ∧ enoughB l x s n d = false))
        (EKeep.own (fun (pre : List (UpTo M)) => ∀ x, x ∈ pre → u ≤ x.1 → enoughB l x.1 s n d = true) (by omega) (by omega) (by omega) (by omega) (fun D hD => by have := hDs D hD; omega) rfl)
        (fun c => EKeep.own (fun (_ : List (UpTo M)) => c = Code.exit 1 ∧ ∃ x, x ≤ M ∧ u ≤ x ∧ enoughB l x s n d = false) (by omega) (by omega) (by omega) (by omega) (fun D hD => by have := hDs D hD; omega) rfl)
        ⟨⟨q1, q2, q3, qm, qd, qb⟩, fun x h => by cases h⟩
        (fun x => { tmps := #[.int .i64 l, .int .i64 M, .int .i64 u, fracV n d, undef, undef, .pointer (some ⟨w.heap.size, 0, none⟩), .pointer (some ⟨w.heap.size + 1, 0, none⟩), .int .i64 0, .int .i64 0, .pointer (some ⟨w2.heap.size, 0, none⟩), .int .i64 (x.1 : Int), .int .i64 l, .int .i64 M, .bool true, .bool false, .bool false, .int .i64 u, .int .i64 M, .bool true, .bool false, .bool false, .bool false, fracV n d, .bool true, .bool false, .bool false, .int .i64 l, .int .i64 M, .agg #[.int .i64 l, .int .i64 M, .int .i64 0, .int .i64 0], workV l M 0 0 mb, .pointer (some ⟨w2.heap.size, 0, none⟩), .pointer (some ⟨w2.heap.size, 2, none⟩), .pointer (some ⟨w2.heap.size, 0, none⟩), .pointer (some ⟨w2.heap.size, 2, none⟩), .int .i64 (s : Int), .int .i64 l, .bool true, u38, u39, u40, u41, u42, u43, .pointer (some ⟨w2.heap.size, 0, none⟩), areaV l M s 0, .func (.func 76) #[] #[.pointer (some ⟨W.heap.size, 0, none⟩)], .int .i64 (x.1 : Int), u48, u49, u50, u51, u52, u53, u54, u55, u56, u57, u58, u59, u60], defers := [] }) ?assign ?body ?done ?stop
      case assign =>
        intro lv x V K hK
        gi_wp2
        exact hK
      case body =>
        rintro lv pre x V ⟨⟨i1, i2, i3, im, id, iB⟩, hall⟩ hlt
        have hx := x.2
        have C69 := Lib.hid (fun w hm => enough_any M 0 l x.1 s mb n d w (by omega) hsl (by omega) hd hm)
        clear k0 k1 k2 k3 k4 k5 k6 k7 k8 k9 k10 k11
        obtain ⟨k0, k1⟩ := i1.c1
        obtain ⟨k2, k3, k4, k5⟩ := i2.c2
        obtain ⟨k6, k7, k8, k9, k10⟩ := i3.c5
        have I1 := Lib.hid i1
        have I2 := Lib.hid i2
        have I3 := Lib.hid i3
        have IM := Lib.hid im
        have ID := Lib.hid id
        have IB := Lib.hid iB
        have HALL := Lib.hid hall
        clear i1 i2 i3 im id iB hall q1 q2 q3 qm qd qb q4
        have hmB : mb < W5.heap.size := by omega
        by_cases hux : u ≤ x.1
        · have t2 : decide ((u : Int) ≤ (x.1 : Int)) = true := by simp; exact hux
          cases hE : enoughB l x.1 s n d with
          | true =>
            rw [hE] at C69
            have HE := Lib.hid hE
            clear hE
            gi_wp2_with (first
          | (refine ⟨trivial, ?_⟩; gi_at_call 69; (with_reducible refine (CallsIn.inRound lv (callsIn_wide.2 (C69.out _ ?_))).mono ?_); (exact IM.out); rintro e w3 ⟨rfl, hm3, hg3⟩; have HM3 := Lib.hid hm3; have HG3 := Lib.hid hg3; clear hm3 hg3))
            refine ⟨keeps_row HG3.out hmB, trivial, ⟨I1.out.kept HG3.out (by simp; omega), I2.out.kept HG3.out (by simp; omega), I3.out.kept HG3.out (by simp; omega), HM3.out, ID.out.kept HG3.out (ID.out.ne_memo IM.out), IB.out.grown HG3.out IB.out.size (fun j e => by cases e; omega)⟩, fun y hy huy => ?_⟩
            rcases List.mem_append.1 hy with h | h
            · exact HALL.out y h huy
            · rw [List.mem_singleton.1 h]; exact HE.out
          | false =>
            rw [hE] at C69
            have HE := Lib.hid hE
            clear hE
            gi_wp2_with (first
          | (refine ⟨trivial, ?_⟩; gi_at_call 69; (with_reducible refine (CallsIn.inRound lv (callsIn_wide.2 (C69.out _ ?_))).mono ?_); (exact IM.out); rintro e w3 ⟨rfl, hm3, hg3⟩; have HM3 := Lib.hid hm3; have HG3 := Lib.hid hg3; clear hm3 hg3))
            exact ⟨keeps_row HG3.out hmB, ⟨I1.out.kept HG3.out (by simp; omega), I2.out.kept HG3.out (by simp; omega), I3.out.kept HG3.out (by simp; omega), HM3.out, ID.out.kept HG3.out (ID.out.ne_memo IM.out), IB.out.grown HG3.out IB.out.size (fun j e => by cases e; omega)⟩, rfl, x.1, by omega, hux, HE.out⟩
        · have t2 : decide ((u : Int) ≤ (x.1 : Int)) = false := by simp; omega
          gi_wp2_with fail
          refine ⟨trivial, ?_⟩
          gi_wp2_with fail
          refine ⟨KeepsFrom.refl _ _, trivial, ⟨I1.out, I2.out, I3.out, IM.out, ID.out, IB.out⟩, fun y hy huy => ?_⟩
          rcases List.mem_append.1 hy with h | h
          · exact HALL.out y h huy
          · rw [List.mem_singleton.1 h] at huy; exact absurd huy hux
      case done =>
        rintro D ys V hD hys ⟨⟨g1, g2, g3, gm, gd, gB⟩, hall⟩ hK
        have hsuf : sufB l M u n d s = true := by
          unfold sufB
          rw [List.all_eq_true]
          intro x hx
          rw [← hys] at hx
          obtain ⟨y, hy, rfl⟩ := List.mem_map.1 hx
          by_cases hux : u ≤ y.1
          · rw [hall y hy hux]; simp
          · simp; omega
        have hmk := gd.cons (by omega) hK (fun h => by have := HDs.out D h; omega)
        clear k0 k1 k2 k3 k4 k5 k6 k7 k8 k9 k10 k11 q1 q2 q3 qm qd qb q4 hall hys hDs
        obtain ⟨k6, k7, k8, k9, k10⟩ := g3.c5
        have MK := Lib.hid hmk
        have KB := Lib.hid gB
        have SU := Lib.hid hsuf
        clear g1 g2 g3 gm gd gB hmk hsuf hK
        gi_wp2
        exact leaves_marks (B := w.heap.size) (J := Below w.heap.size w) (fun V D o' hD hV hK => hV.trans (belowK_b (w := w) (n₀ := w.heap.size) (Nat.le_refl _) V D _ o' hD hK rfl rfl))
          (fun V hV => ⟨_, results_tmp2 rfl _ _ _, ⟨s, 0, rfl, by rw [(Mis.first_some _ _ _ s).2 ⟨by omega, by omega, SU.out, fun t _ h => HNO.out t h⟩]; exact ⟨rfl, rfl⟩⟩, hV⟩) (D :: Ds) V MK.out KB.out
      case stop =>
        rintro D c pre V hD _ ⟨⟨g1, g2, g3, gm, gd, gB⟩, rfl, x, hx, hux, hE⟩ hK
        have hsuf : sufB l M u n d s = false := by
          unfold sufB
          rw [List.all_eq_false]
          exact ⟨x, List.mem_range.2 (by omega), by rw [hE]; simp; omega⟩
        have hmk := gd.cons (by omega) hK (fun h => by have := HDs.out D h; omega)
        clear k0 k1 k2 k3 k4 k5 k6 k7 k8 k9 k10 k11 q1 q2 q3 qm qd qb q4 hDs
        obtain ⟨k6, k7, k8, k9, k10⟩ := g3.c5
        have k11 := g3.frozen 2
        have e0 : IntKind.i64.wrap ((s : Int) + 1) = ((s + 1 : Nat) : Int) := by rw [IntWalk.i64_in _ (by omega)]; omega
        have MK := Lib.hid hmk
        have KB := Lib.hid gB
        have SU := Lib.hid hsuf
        have K1 := Lib.hid g1
        have K2 := Lib.hid g2
        have K3 := Lib.hid g3
        have KM := Lib.hid gm
        clear g1 g2 g3 gm gd gB hmk hsuf hK hE
        gi_wp2
        have f3 : Blk (V.setCell ⟨w2.heap.size, 2, none⟩ (.int .i64 ((s : Int) + 1))) w2.heap.size #[.int .i64 l, .int .i64 M, .int .i64 ((s + 1 : Nat) : Int), .int .i64 0, .map (some mb)] 99 := K3.out.set 2 (.int .i64 ((s : Int) + 1))
        refine ⟨⟨_, _, _, _, _, _, _, _, _, _, _, _, _, _, _, _, _, _, _, _, _, _, _, _, _, _, _, _, _, s + 1, D :: Ds, by omega, fun t ht => ?_, rfl, K1.out.other (by simp; omega) _, K2.out.other (by simp; omega) _, f3, KM.out.setCell (by simp; omega) _, ?_, KB.out.setCell (by simp; omega) _⟩, ?_⟩
        · rcases Nat.lt_succ_iff_lt_or_eq.1 ht with h | rfl
          · exact HNO.out t h
          · exact SU.out
        · refine ⟨MK.out.1, fun D' hD' => ⟨(MK.out.2 D' hD').1, ?_⟩⟩
          have h2 := (MK.out.2 D' hD').2
          refine (Below.heap_setCell V _ _ D' ?_).trans h2
          intro e
          have h3 : V.heap[w2.heap.size]? = _ := K3.out
          simp only [] at e
          rw [e, h3] at h2
          cases h2
        · rw [f3.cell 2, G3.out.cell 2]
          simp [intOf]
          omega
    · have t1 : decide ((s : Int) ≤ (l : Int)) = false := by simp; omega
      gi_wp2_with fail
      exact leaves_marks (B := w.heap.size) (J := Below w.heap.size w) (fun V D o' hD hV hK => hV.trans (belowK_b (w := w) (n₀ := w.heap.size) (Nat.le_refl _) V D _ o' hD hK rfl rfl))
        (fun V hV => ⟨_, results_tmp2 rfl _ _ _, ⟨0, 9, rfl, by rw [(Mis.first_none _ _ _).2 (fun t _ h => HNO.out t (by omega))]; exact ⟨rfl, rfl⟩⟩, hV⟩) Ds W GD.out GB.out
end Go.Proofs.Ytkfobnhnehbkeaa
