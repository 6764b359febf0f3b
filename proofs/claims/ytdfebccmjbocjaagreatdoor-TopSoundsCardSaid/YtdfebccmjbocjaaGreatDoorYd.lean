/- sheet: with: one pair more. -/
import Derived.Test.YtdfebccmjbocjaaGreatDoorYc
import Derived.Test.YtdfebccmjbocjaaGreatDoorZw
import Derived.Shelf.SlicesE.Clone
set_option linter.unusedVariables false
set_option linter.unusedSimpArgs false
namespace Go.Proofs.YtdfebccmjbocjaaGreatDoor
open Go.RowKit Go.Shelf

theorem Tryz.info113 : (Tryz.prog.info? 113).map (fun i => (i.zero, i.size, i.bytes)) = some (some (.agg #[.int .i64 0, .int .i64 0]), 2, 16) := by kernel_rfl
def pairsV (ps : List (Nat × Nat)) : List Value := ps.flatMap fun p => [.int .i64 (p.1 : Int), .int .i64 (p.2 : Int)]
theorem pairsV_len (ps : List (Nat × Nat)) : (pairsV ps).length = ps.length * 2 := by
  induction ps with
  | nil => rfl
  | cons p ps ih => simp only [pairsV, List.flatMap_cons, List.length_append, List.length_cons, List.length_nil] at ih ⊢; omega
theorem pairsV_get (ps : List (Nat × Nat)) (i : Nat) (p : Nat × Nat) (h : ps[i]? = some p) : (pairsV ps)[i * 2]? = some (.int .i64 (p.1 : Int)) ∧ (pairsV ps)[i * 2 + 1]? = some (.int .i64 (p.2 : Int)) := by
  induction ps generalizing i with
  | nil => simp at h
  | cons q ps ih =>
    cases i with
    | zero => simp at h; subst h; exact ⟨rfl, rfl⟩
    | succ i =>
      have := ih i (by simpa using h)
      have e1 : (i + 1) * 2 = i * 2 + 1 + 1 := by omega
      rw [e1]
      exact this
theorem pairsV_app (a b : List (Nat × Nat)) : pairsV (a ++ b) = pairsV a ++ pairsV b := by simp [pairsV]
theorem pairsV_one (ps : List (Nat × Nat)) : ∀ u ∈ pairsV ps, u.oneCell' = true := by
  intro u hu
  simp only [pairsV, List.mem_flatMap, List.mem_cons, List.not_mem_nil, or_false] at hu
  obtain ⟨p, _, rfl | rfl⟩ := hu <;> rfl
/-- the cells of a row of pairs -/
theorem PairsAt.cells {W : World} {b o : Nat} {ps : List (Nat × Nat)} (h : PairsAt W b o ps) : ∀ (j : Nat) (u : Value), (pairsV ps)[j]? = some u → W.cell? ⟨b, o + j, none⟩ = some u := by
  intro j u hj
  have hl := (List.getElem?_eq_some_iff.1 hj).1
  rw [pairsV_len] at hl
  obtain ⟨p, hp⟩ : ∃ p, ps[j / 2]? = some p := ⟨ps[j / 2]'(by omega), by simp⟩
  have g := pairsV_get ps (j / 2) p hp
  have c := h (j / 2) p hp
  rcases Nat.mod_two_eq_zero_or_one j with e | e
  · have e2 : j = j / 2 * 2 := by omega
    rw [e2, g.1] at hj
    rw [e2, c.1]; exact hj
  · have e2 : j = j / 2 * 2 + 1 := by omega
    rw [e2, g.2] at hj
    rw [e2, ← Nat.add_assoc, c.2]; exact hj
theorem PairsAt.of_own {W : World} {B g n c : Nat} {t : TypeId} {ps : List (Nat × Nat)} (h : W.ownsRow B t 2 (.slice (some ⟨g, 0, none⟩) n c) n (pairsV ps)) (hn : ps.length = n) : PairsAt W g 0 ps := by
  intro i p hp
  have hi := (List.getElem?_eq_some_iff.1 hp).1
  have g2 := pairsV_get ps i p hp
  rw [Nat.zero_add]
  exact ⟨(h.cellAt (i * 2) (by omega)).trans g2.1, (h.cellAt (i * 2 + 1) (by omega)).trans g2.2⟩
/-- an own row of pairs, as a slice -/
theorem own_slp {W : World} {B : Nat} {t : TypeId} {v : Value} {ps : List (Nat × Nat)} (h : W.ownsRow B t 2 v ps.length (pairsV ps)) : ∃ s : Loc, v = .slice s.a ps.length s.c ∧ SlP W s ps ∧ (s.a = none ∨ s.a = some ⟨s.b, s.o, none⟩) := by
  rcases Joins.ownsRow_forms h with ⟨hv, h0⟩ | ⟨g, c, hv⟩
  · have e : ps = [] := List.eq_nil_of_length_eq_zero h0
    subst e
    exact ⟨⟨none, 0, 0, 0⟩, hv, ⟨fun h => absurd rfl h, fun h => absurd rfl h, fun i p hi => by simp at hi⟩, .inl rfl⟩
  · subst hv
    exact ⟨⟨some ⟨g, 0, none⟩, g, 0, c⟩, rfl, ⟨fun _ => rfl, fun _ => (h.lt g rfl).2, PairsAt.of_own h rfl⟩, .inr rfl⟩
theorem Lib.size_of2 {P : Program} {t : TypeId} {z : Value} (h : (P.info? t).map (fun i => (i.zero, i.size, i.bytes)) = some (some z, 2, 16)) : ∀ w, (Go.sizeOf t).run P w = .ok 2 w := by
  intro w
  obtain ⟨i0, hi0, hz0, hz1, hz2⟩ := info_parts h
  simp [sizeOf, typeInfo, hi0, hz1]
theorem KS.grown {w W W' : World} {bs : List (Nat × Array Value × TypeId)} {row : Option Nat} (h : KS w bs W) (hg : W.grownBy W' row) (hr : ∀ r, row = some r → w.heap.size ≤ r ∧ ∀ x, x ∈ bs → x.1 ≠ r) : KS w bs W' :=
  ⟨fun x hx => (h.1 x hx).kept hg (fun e => (hr _ e.symm).2 x hx rfl), h.2.grown hg h.2.size (fun r e => (hr r e).1)⟩
theorem news_two {w : World} {b : Nat} {x y : Value} {t : TypeId} (h : Blk w b #[x, y] t) : ∀ (j : Nat) (u : Value), [x, y][j]? = some u → w.cell? ((⟨b, 0, none⟩ : Addr).add j) = some u := by
  intro j u hj
  rw [show ((⟨b, 0, none⟩ : Addr).add j) = ⟨b, j, none⟩ from by unfold Addr.add; simp; exact fun e => e.symm, h.cell j]
  simpa using hj
theorem Blk.set7 {W : World} {b : Nat} {x0 x1 x2 x3 x4 x5 x6 y0 y1 y2 y3 y4 y5 y6 : Value} {t : TypeId} (h : Blk W b #[x0, x1, x2, x3, x4, x5, x6] t) : Blk (((((((W.setCell ⟨b, 0, none⟩ y0).setCell ⟨b, 1, none⟩ y1).setCell ⟨b, 2, none⟩ y2).setCell ⟨b, 3, none⟩ y3).setCell ⟨b, 4, none⟩ y4).setCell ⟨b, 5, none⟩ y5).setCell ⟨b, 6, none⟩ y6) b #[y0, y1, y2, y3, y4, y5, y6] t := by
  have h2 := ((((((h.set 0 y0).set 1 y1).set 2 y2).set 3 y3).set 4 y4).set 5 y5).set 6 y6
  simp only [List.setIfInBounds_toArray, List.set_cons_zero, List.set_cons_succ] at h2
  exact h2
theorem own_set7 {W : World} {b : Nat} {y0 y1 y2 y3 y4 y5 y6 : Value} {B : Nat} {e : TypeId} {k n : Nat} {v : Value} {xs : List Value} (h : W.ownsRow B e k v n xs) (hb : b < B) : (((((((W.setCell ⟨b, 0, none⟩ y0).setCell ⟨b, 1, none⟩ y1).setCell ⟨b, 2, none⟩ y2).setCell ⟨b, 3, none⟩ y3).setCell ⟨b, 4, none⟩ y4).setCell ⟨b, 5, none⟩ y5).setCell ⟨b, 6, none⟩ y6).ownsRow B e k v n xs := by
  have ne : v.ownBlock ≠ some b := fun e => by have := (h.lt _ e).1; omega
  exact ownsRow_setCell_other (ownsRow_setCell_other (ownsRow_setCell_other (ownsRow_setCell_other (ownsRow_setCell_other (ownsRow_setCell_other (ownsRow_setCell_other h ne y0) ne y1) ne y2) ne y3) ne y4) ne y5) ne y6
theorem bel_set7 {W w : World} {b : Nat} {y0 y1 y2 y3 y4 y5 y6 : Value} {B : Nat} (h : Below B w W) (hb : B ≤ b) : Below B w (((((((W.setCell ⟨b, 0, none⟩ y0).setCell ⟨b, 1, none⟩ y1).setCell ⟨b, 2, none⟩ y2).setCell ⟨b, 3, none⟩ y3).setCell ⟨b, 4, none⟩ y4).setCell ⟨b, 5, none⟩ y5).setCell ⟨b, 6, none⟩ y6) :=
  ((((((h.setCell (p := ⟨b, 0, none⟩) hb y0).setCell (p := ⟨b, 1, none⟩) hb y1).setCell (p := ⟨b, 2, none⟩) hb y2).setCell (p := ⟨b, 3, none⟩) hb y3).setCell (p := ⟨b, 4, none⟩) hb y4).setCell (p := ⟨b, 5, none⟩) hb y5).setCell (p := ⟨b, 6, none⟩) hb y6
set_option maxRecDepth 100000 in
set_option maxHeartbeats 1600000 in
theorem clone_any (s : Loc) (n : Nat) (ps : List (Nat × Nat)) (w : World) (hn : ps.length = n) (hS : SlP w s ps) (hs : s.a = none ∨ s.a = some ⟨s.b, s.o, none⟩) (h10 : n ≤ 10) :
    Calls Tryz.prog 79 #[.slice s.a n s.c] w fun e w' => ∃ v', e = .returned v' ∧ w'.ownsRow w.heap.size 113 2 v' n (pairsV ps) ∧ Below w.heap.size w w' := by
  obtain ⟨sa, sb, so, sc⟩ := s
  dsimp only at hs ⊢
  rcases hs with hs | hs
  · subst hs
    have e : ps = [] := by
      rcases ps with _ | ⟨p, ps⟩
      · rfl
      · have := hS.at_ (by simp); cases this
    subst e
    have hn0 : n = 0 := hn.symm
    subst hn0
    refine (AnyE.slices_Clone_nil Tryz.laysSlE041_f79 0 sc w).mono ?_
    rintro e w' ⟨rfl, rfl⟩
    exact ⟨_, rfl, ⟨by simp [pairsV], .inl ⟨rfl, rfl⟩⟩, Below.refl _ _⟩
  · subst hs
    obtain ⟨i0, hi0, hz0, hz1, hz2⟩ := info_parts Tryz.info113
    refine (AnyE.slices_Clone Tryz.laysSlE041_f79 i0 _ 2 16 hi0 hz0 hz1 hz2 rfl (by decide) (Lib.size_of2 Tryz.info113) sb so n sc (pairsV ps) w (by rw [pairsV_len, hn]) (by unfold maxLen; omega) (by omega) (PairsAt.cells hS.cells) (pairsV_one ps)).mono ?_
    rintro e w' ⟨v', rfl, ho, _, hb⟩
    exact ⟨v', rfl, ho, hb⟩
/-- what with() answers -/
def WithPost (e s a : Loc) (es : List Ent) (sm ap : List (Nat × Nat)) (om nu : Nat × Nat) (p : Nat × Nat) (same : Bool) (w : World) (x : Ending) (w' : World) : Prop :=
  ∃ z : Loc, Below w.heap.size w w' ∧ (match same with
    | true => x = .returned (cenL e z a es (sm ++ [p]) ap om nu) ∧ SlP w' z (sm ++ [p])
    | false => x = .returned (cenL e s z es sm (ap ++ [p]) om nu) ∧ SlP w' z (ap ++ [p]))
set_option maxRecDepth 100000 in
set_option maxHeartbeats 6400000 in
theorem with_same (e s a : Loc) (es : List Ent) (sm ap : List (Nat × Nat)) (om nu : Nat × Nat) (p : Nat × Nat) (w : World) (hS : SlP w s sm) (hs : s.a = none ∨ s.a = some ⟨s.b, s.o, none⟩) (h10 : sm.length ≤ 10) :
    Calls Tryz.prog 47 #[cenL e s a es sm ap om nu, .int .i64 (p.1 : Int), .int .i64 (p.2 : Int), .bool true] w (WithPost e s a es sm ap om nu p true w) := by
  obtain ⟨n0, hn0⟩ : ∃ n, n = es.length := ⟨_, rfl⟩
  obtain ⟨n1, hn1⟩ : ∃ n, n = sm.length := ⟨_, rfl⟩
  obtain ⟨n2, hn2⟩ : ∃ n, n = ap.length := ⟨_, rfl⟩
  have CL := Lib.hid (fun W (hW : Below w.heap.size w W) => clone_any s n1 sm W hn1.symm (hS.below hW) hs (by omega))
  have h10n : n1 ≤ 10 := by omega
  clear hS hs h10
  obtain ⟨ea, eb, eo, ec⟩ := e
  obtain ⟨sa, sb, so, sc⟩ := s
  obtain ⟨aa0, ab, ao, ac⟩ := a
  obtain ⟨ol, oh⟩ := om
  obtain ⟨nl, nh⟩ := nu
  obtain ⟨p0, p1⟩ := p
  dsimp only at CL
  change Calls Tryz.prog 47 #[cenV (.slice ea es.length ec) (.slice sa sm.length sc) (.slice aa0 ap.length ac) ol oh nl nh, .int .i64 (p0 : Int), .int .i64 (p1 : Int), .bool true] w _
  rw [← hn0, ← hn1, ← hn2]
  have HN := Lib.hid (And.intro hn0 (And.intro hn1 hn2))
  clear hn0 hn1 hn2
  have s0 := (((KS.start w).new (cenA (.slice ea n0 ec) (.slice sa n1 sc) (.slice aa0 n2 ac) ol oh nl nh) 54).new (cenA (.slice none 0 0) (.slice none 0 0) (.slice none 0 0) 0 0 0 0) 54).new (prA (p0, p1)) 113
  simp only [World.size_alloc] at s0
  have H0 := Lib.hid s0
  clear s0
  obtain ⟨i0, hi0, hz0, hz1, hz2⟩ := info_parts Tryz.info113
  have HI := Lib.hid (And.intro hi0 (And.intro hz0 (And.intro hz1 hz2)))
  clear hi0 hz0 hz1 hz2
  go_enter Tryz.func47, Tryz.ntmps47
  go_wp2_with fail
  obtain ⟨W3, hW3⟩ : ∃ W3, W3 = (((w.alloc (.cells (cenA (.slice ea n0 ec) (.slice sa n1 sc) (.slice aa0 n2 ac) ol oh nl nh) 54)).alloc (.cells (cenA (.slice none 0 0) (.slice none 0 0) (.slice none 0 0) 0 0 0 0) 54)).alloc (.cells (prA (p0, p1)) 113)) := ⟨_, rfl⟩
  have H1 : Hid (KS w [(w.heap.size + 1 + 1, prA (p0, p1), 113), (w.heap.size + 1, cenA (.slice none 0 0) (.slice none 0 0) (.slice none 0 0) 0 0 0 0, 54), (w.heap.size, cenA (.slice ea n0 ec) (.slice sa n1 sc) (.slice aa0 n2 ac) ol oh nl nh, 54)] W3.drew) := by rw [hW3]; exact Lib.hid H0.out.drew
  have hS : KS w [(w.heap.size + 1 + 1, prA (p0, p1), 113)] W3.drew := H1.out.sub (fun x hx => by simp only [List.mem_cons, List.not_mem_nil, or_false] at hx; subst hx; exact List.mem_cons_self ..)
  have K0 : ∀ W, KS w [(w.heap.size + 1 + 1, prA (p0, p1), 113)] W → W.cell? ⟨w.heap.size + 1 + 1, 0, none⟩ = some (.int .i64 (p0 : Int)) := fun W h => (h.blkAt 0 rfl).cell 0
  have K1 : ∀ W, KS w [(w.heap.size + 1 + 1, prA (p0, p1), 113)] W → W.cell? ⟨w.heap.size + 1 + 1, 1, none⟩ = some (.int .i64 (p1 : Int)) := fun W h => (h.blkAt 0 rfl).cell 1
  have KG : ∀ W, KS w [(w.heap.size + 1 + 1, prA (p0, p1), 113)] W → w.heap.size < W.heap.size := fun W h => by have := (h.blkAt 0 rfl).lt; omega
  change Code.wp _ _ _ _ (((w.alloc (.cells (cenA (.slice ea n0 ec) (.slice sa n1 sc) (.slice aa0 n2 ac) ol oh nl nh) 54)).alloc (.cells (cenA (.slice none 0 0) (.slice none 0 0) (.slice none 0 0) 0 0 0 0) 54)).alloc (.cells (prA (p0, p1)) 113))
  rw [← hW3]
  have KLT := Lib.hid (H1.out.lt 0 rfl)
  clear hW3 H0
  refine wp_joinZ (ι := Value × Nat × Value) (f := fun aa bb => (((((((aa.put (some 14) (.pointer (some ⟨w.heap.size, 1, none⟩))).put (some 15) (.slice sa n1 sc)).put (some 16) (bb.1)).put (some 17) (.agg (prA (p0, p1)))).put (some 18) (.slice (some ⟨bb.2.1, 0, none⟩) 1 1)).put (some 19) (bb.2.2)).put (some 20) (.pointer (some ⟨w.heap.size, 1, none⟩)))) (mid := fun bb W' => Blk W' w.heap.size (cenA (.slice ea n0 ec) bb.2.2 (.slice aa0 n2 ac) ol oh nl nh) 54 ∧ Blk W' (w.heap.size + 1) (cenA (.slice none 0 0) (.slice none 0 0) (.slice none 0 0) 0 0 0 0) 54 ∧ Below w.heap.size w W' ∧ ∃ BB, w.heap.size + 1 < BB ∧ W'.ownsRow BB 113 2 bb.2.2 (n1 + 1) (pairsV sm ++ [.int .i64 (p0 : Int), .int .i64 (p1 : Int)])) ?_ ?_
  · refine wp_region_held_drew (S := KS w [(w.heap.size + 1 + 1, prA (p0, p1), 113)]) (by kernel_rfl) hS (fun hHeld => ?_)
    clear hS
    refine wpAnyH_take (i := 0) (v := ?_) rfl (by kernel_rfl) (by kernel_rfl) (by kernel_rfl) (fun _ _ _ h => (by cases h.1)) (Or.inl ⟨by rfl, ?h0⟩) hHeld ?_
    case h0 =>
      intro w' hSw
      (try dsimp only at hSw)
      go_simp
      (try with_reducible rfl)
    (try simp only [Act.put]); (try simp only [List.setIfInBounds_toArray]); (try simp only [List.set_cons_succ]); (try simp only [List.set_cons_zero])
    refine wpAnyH_take (i := 3) (v := ?_) rfl (by kernel_rfl) (by kernel_rfl) (by kernel_rfl) (fun _ _ _ h => (by cases h.1)) (Or.inl ⟨by rfl, ?h3⟩) hHeld ?_
    case h3 =>
      intro w' hSw
      (try dsimp only at hSw)
      go_simp
      (try with_reducible rfl)
    (try simp only [Act.put]); (try simp only [List.setIfInBounds_toArray]); (try simp only [List.set_cons_succ]); (try simp only [List.set_cons_zero])
    refine wpAnyH_ready (rs := [1, 4]) (by kernel_rfl) (by simp) ?_
    refine AllReadyH.cons rfl (fun K hK => ?_) (AllReadyH.cons rfl (fun K hK => ?_) (AllReadyH.nil))
    · have c7 := (H1.out.blkAt 2 rfl).cell 1
      go_simp
      clear c7
      refine hK.out _ _ hHeld (fun hHeld => ?_)
      clear hK K
      (try simp only [Act.put]); (try simp only [List.setIfInBounds_toArray]); (try simp only [List.set_cons_succ]); (try simp only [List.set_cons_zero])
      refine wpAnyH_ready (rs := [2, 4]) (by kernel_rfl) (by simp) ?_
      refine AllReadyH.cons rfl (fun K hK => ?_) (AllReadyH.cons rfl (fun K hK => ?_) (AllReadyH.nil))
      · go_simp
        refine (CL.out _ H1.out.bel).mono ?_
        rintro x wc ⟨v1, rfl, hown, hb⟩
        obtain ⟨BB, hown, hlt, hbs⟩ : ∃ BB, wc.ownsRow BB 113 2 v1 n1 (pairsV sm) ∧ w.heap.size + 1 + 1 < BB ∧ BB ≤ wc.heap.size := ⟨_, hown, H1.out.lt 0 rfl, hb.size⟩
        have HBS := Lib.hid hbs
        have HOW := Lib.hid (And.intro hown hlt)
        have H1 := Lib.hid (H1.out.below hb)
        refine hK.out _ _ (hHeld.below hb) (fun hHeld => ?_)
        clear hK K hb hown hlt hbs
        (try simp only [Act.put]); (try simp only [List.setIfInBounds_toArray]); (try simp only [List.set_cons_succ]); (try simp only [List.set_cons_zero])
        refine wpAnyH_ready (rs := [4]) (by kernel_rfl) (by simp) ?_
        refine AllReadyH.cons rfl (fun K hK => ?_) (AllReadyH.nil)
        go_simp
        have HBS : Hid (BB ≤ (wc.alloc (.cells (prA (p0, p1)) 113)).heap.size) := Lib.hid (by have := HBS.out; simp only [World.size_alloc]; omega)
        have NB := Lib.hid (Blk.new wc (prA (p0, p1)) 113)
        have H1 : Hid (KS w [(w.heap.size + 1 + 1, prA (p0, p1), 113), (w.heap.size + 1, cenA (.slice none 0 0) (.slice none 0 0) (.slice none 0 0) 0 0 0 0, 54), (w.heap.size, cenA (.slice ea n0 ec) (.slice sa n1 sc) (.slice aa0 n2 ac) ol oh nl nh, 54)] (wc.alloc (.cells (prA (p0, p1)) 113))) := Lib.hid (H1.out.alloc _)
        have HOW := Lib.hid (And.intro (HOW.out.1.alloc (.cells (prA (p0, p1)) 113)) HOW.out.2)
        refine hK.out _ _ (hHeld.alloc _) (fun hHeld => ?_)
        clear hK K
        (try simp only [Act.put]); (try simp only [List.setIfInBounds_toArray]); (try simp only [List.set_cons_succ]); (try simp only [List.set_cons_zero])
        refine wpAnyH_ready (rs := [5]) (by kernel_rfl) (by simp) ?_
        refine AllReadyH.cons rfl (fun K hK => ?_) (AllReadyH.nil)
        refine step_append_set rfl _ _ 52 rfl BB 113 i0 _ 2 16 Tryz.underlying52 HI.out.1 HI.out.2.1 HI.out.2.2.1 HI.out.2.2.2 rfl (by decide) v1 n1 (pairsV sm) rfl HOW.out.1 ⟨_, 0, none⟩ 1 1 [.int .i64 (p0 : Int), .int .i64 (p1 : Int)] rfl rfl (news_two NB.out) (by simp [Value.oneCell']) (by unfold maxLen; omega) (by omega) ?hbase ?_
        case hbase => exact HBS.out
        intro v9 w9 hown hgr _
        obtain ⟨gr, cr, rfl⟩ := Joins.ownsRow_form hown (by omega)
        have H1 := Lib.hid (H1.out.grown hgr (fun r e => by have h1 := (HOW.out.1.lt r e).1; have h2 := HOW.out.2; exact ⟨by omega, fun x hx => by simp only [List.mem_cons, List.not_mem_nil, or_false] at hx; rcases hx with rfl | rfl | rfl <;> (intro e2; simp only at e2; omega)⟩))
        have HOW := Lib.hid (And.intro hown HOW.out.2)
        clear hown hgr NB HBS
        refine hK.out _ _ (H1.out.sub (fun x hx => by simp only [List.mem_cons, List.not_mem_nil, or_false] at hx; subst hx; exact List.mem_cons_self ..)) (fun hHeld => ?_)
        clear hK K
        (try simp only [Act.put]); (try simp only [List.setIfInBounds_toArray]); (try simp only [List.set_cons_succ]); (try simp only [List.set_cons_zero])
        refine wpAnyH_take (i := 6) (v := ?_) rfl (by kernel_rfl) (by kernel_rfl) (by kernel_rfl) (fun _ _ _ h => (by cases h.1)) (Or.inl ⟨by rfl, ?h6⟩) hHeld ?_
        case h6 =>
          intro w' hSw
          (try dsimp only at hSw)
          go_simp
          (try with_reducible rfl)
        (try simp only [Act.put]); (try simp only [List.setIfInBounds_toArray]); (try simp only [List.set_cons_succ]); (try simp only [List.set_cons_zero])
        refine wpAnyH_ready (rs := [7]) (by kernel_rfl) (by simp) ?_
        refine AllReadyH.cons rfl (fun K hK => ?_) (AllReadyH.nil)
        have c8 := (H1.out.blkAt 2 rfl).cell 1
        have f8 := (H1.out.blkAt 2 rfl).frozen 1
        have g8 := (H1.out.blkAt 2 rfl).lt
        go_simp
        clear c8 f8 g8
        have HF1 := Lib.hid ((H1.out.blkAt 2 rfl).set 1 (.slice (some ⟨gr, 0, none⟩) (n1 + 1) cr))
        have HF2 := Lib.hid ((H1.out.blkAt 1 rfl).other (a := ⟨w.heap.size, 1, none⟩) (by show w.heap.size + 1 ≠ w.heap.size; omega) (.slice (some ⟨gr, 0, none⟩) (n1 + 1) cr))
        have HF3 := Lib.hid (ownsRow_setCell_other HOW.out.1 (a := ⟨w.heap.size, 1, none⟩) (fun e => by have h1 : BB ≤ w.heap.size := (HOW.out.1.lt _ e).1; have h2 := HOW.out.2; omega) (.slice (some ⟨gr, 0, none⟩) (n1 + 1) cr))
        have HF4 := Lib.hid (H1.out.bel.setCell (p := ⟨w.heap.size, 1, none⟩) (Nat.le_refl _) (.slice (some ⟨gr, 0, none⟩) (n1 + 1) cr))
        refine hK.out _ _ ⟨fun x hx => by simp only [List.mem_cons, List.not_mem_nil, or_false] at hx; subst hx; exact (H1.out.blkAt 0 rfl).other (a := ⟨w.heap.size, 1, none⟩) (by show w.heap.size + 1 + 1 ≠ w.heap.size; omega) _, HF4.out⟩ (fun hHeld => ?_)
        clear hK K
        (try simp only [Act.put]); (try simp only [List.setIfInBounds_toArray]); (try simp only [List.set_cons_succ]); (try simp only [List.set_cons_zero])
        refine wpAnyH_done (by kernel_rfl) ?_ _
        exact ⟨rfl, (_, _, _), rfl, HF1.out, HF2.out, HF4.out, BB, by have := HOW.out.2; omega, HF3.out⟩
      · go_simp
        have NB := Lib.hid ((Blk.new W3 (prA (p0, p1)) 113).drew)
        have H1 : Hid (KS w [(w.heap.size + 1 + 1, prA (p0, p1), 113), (w.heap.size + 1, cenA (.slice none 0 0) (.slice none 0 0) (.slice none 0 0) 0 0 0 0, 54), (w.heap.size, cenA (.slice ea n0 ec) (.slice sa n1 sc) (.slice aa0 n2 ac) ol oh nl nh, 54)] (W3.alloc (.cells (prA (p0, p1)) 113)).drew) := Lib.hid (H1.out.alloc _)
        refine hK.out _ _ (hHeld.alloc _) (fun hHeld => ?_)
        clear hK K
        (try simp only [Act.put]); (try simp only [List.setIfInBounds_toArray]); (try simp only [List.set_cons_succ]); (try simp only [List.set_cons_zero])
        refine wpAnyH_ready (rs := [2]) (by kernel_rfl) (by simp) ?_
        refine AllReadyH.cons rfl (fun K hK => ?_) (AllReadyH.nil)
        go_simp
        refine (CL.out _ H1.out.bel).mono ?_
        rintro x wc ⟨v1, rfl, hown, hb⟩
        obtain ⟨BB, hown, hlt, hbs⟩ : ∃ BB, wc.ownsRow BB 113 2 v1 n1 (pairsV sm) ∧ w.heap.size + 1 + 1 < BB ∧ BB ≤ wc.heap.size := ⟨_, hown, H1.out.lt 0 rfl, hb.size⟩
        have HBS := Lib.hid hbs
        have HOW := Lib.hid (And.intro hown hlt)
        have H1 := Lib.hid (H1.out.below hb)
        have NB := Lib.hid (NB.out.b hb)
        refine hK.out _ _ (hHeld.below hb) (fun hHeld => ?_)
        clear hK K hb hown hlt hbs
        (try simp only [Act.put]); (try simp only [List.setIfInBounds_toArray]); (try simp only [List.set_cons_succ]); (try simp only [List.set_cons_zero])
        refine wpAnyH_ready (rs := [5]) (by kernel_rfl) (by simp) ?_
        refine AllReadyH.cons rfl (fun K hK => ?_) (AllReadyH.nil)
        refine step_append_set rfl _ _ 52 rfl BB 113 i0 _ 2 16 Tryz.underlying52 HI.out.1 HI.out.2.1 HI.out.2.2.1 HI.out.2.2.2 rfl (by decide) v1 n1 (pairsV sm) rfl HOW.out.1 ⟨_, 0, none⟩ 1 1 [.int .i64 (p0 : Int), .int .i64 (p1 : Int)] rfl rfl (news_two NB.out) (by simp [Value.oneCell']) (by unfold maxLen; omega) (by omega) ?hbase ?_
        case hbase => exact HBS.out
        intro v9 w9 hown hgr _
        obtain ⟨gr, cr, rfl⟩ := Joins.ownsRow_form hown (by omega)
        have H1 := Lib.hid (H1.out.grown hgr (fun r e => by have h1 := (HOW.out.1.lt r e).1; have h2 := HOW.out.2; exact ⟨by omega, fun x hx => by simp only [List.mem_cons, List.not_mem_nil, or_false] at hx; rcases hx with rfl | rfl | rfl <;> (intro e2; simp only at e2; omega)⟩))
        have HOW := Lib.hid (And.intro hown HOW.out.2)
        clear hown hgr NB HBS
        refine hK.out _ _ (H1.out.sub (fun x hx => by simp only [List.mem_cons, List.not_mem_nil, or_false] at hx; subst hx; exact List.mem_cons_self ..)) (fun hHeld => ?_)
        clear hK K
        (try simp only [Act.put]); (try simp only [List.setIfInBounds_toArray]); (try simp only [List.set_cons_succ]); (try simp only [List.set_cons_zero])
        refine wpAnyH_take (i := 6) (v := ?_) rfl (by kernel_rfl) (by kernel_rfl) (by kernel_rfl) (fun _ _ _ h => (by cases h.1)) (Or.inl ⟨by rfl, ?h6⟩) hHeld ?_
        case h6 =>
          intro w' hSw
          (try dsimp only at hSw)
          go_simp
          (try with_reducible rfl)
        (try simp only [Act.put]); (try simp only [List.setIfInBounds_toArray]); (try simp only [List.set_cons_succ]); (try simp only [List.set_cons_zero])
        refine wpAnyH_ready (rs := [7]) (by kernel_rfl) (by simp) ?_
        refine AllReadyH.cons rfl (fun K hK => ?_) (AllReadyH.nil)
        have c8 := (H1.out.blkAt 2 rfl).cell 1
        have f8 := (H1.out.blkAt 2 rfl).frozen 1
        have g8 := (H1.out.blkAt 2 rfl).lt
        go_simp
        clear c8 f8 g8
        have HF1 := Lib.hid ((H1.out.blkAt 2 rfl).set 1 (.slice (some ⟨gr, 0, none⟩) (n1 + 1) cr))
        have HF2 := Lib.hid ((H1.out.blkAt 1 rfl).other (a := ⟨w.heap.size, 1, none⟩) (by show w.heap.size + 1 ≠ w.heap.size; omega) (.slice (some ⟨gr, 0, none⟩) (n1 + 1) cr))
        have HF3 := Lib.hid (ownsRow_setCell_other HOW.out.1 (a := ⟨w.heap.size, 1, none⟩) (fun e => by have h1 : BB ≤ w.heap.size := (HOW.out.1.lt _ e).1; have h2 := HOW.out.2; omega) (.slice (some ⟨gr, 0, none⟩) (n1 + 1) cr))
        have HF4 := Lib.hid (H1.out.bel.setCell (p := ⟨w.heap.size, 1, none⟩) (Nat.le_refl _) (.slice (some ⟨gr, 0, none⟩) (n1 + 1) cr))
        refine hK.out _ _ ⟨fun x hx => by simp only [List.mem_cons, List.not_mem_nil, or_false] at hx; subst hx; exact (H1.out.blkAt 0 rfl).other (a := ⟨w.heap.size, 1, none⟩) (by show w.heap.size + 1 + 1 ≠ w.heap.size; omega) _, HF4.out⟩ (fun hHeld => ?_)
        clear hK K
        (try simp only [Act.put]); (try simp only [List.setIfInBounds_toArray]); (try simp only [List.set_cons_succ]); (try simp only [List.set_cons_zero])
        refine wpAnyH_done (by kernel_rfl) ?_ _
        exact ⟨rfl, (_, _, _), rfl, HF1.out, HF2.out, HF4.out, BB, by have := HOW.out.2; omega, HF3.out⟩
    · go_simp
      have NB := Lib.hid ((Blk.new W3 (prA (p0, p1)) 113).drew)
      have H1 : Hid (KS w [(w.heap.size + 1 + 1, prA (p0, p1), 113), (w.heap.size + 1, cenA (.slice none 0 0) (.slice none 0 0) (.slice none 0 0) 0 0 0 0, 54), (w.heap.size, cenA (.slice ea n0 ec) (.slice sa n1 sc) (.slice aa0 n2 ac) ol oh nl nh, 54)] (W3.alloc (.cells (prA (p0, p1)) 113)).drew) := Lib.hid (H1.out.alloc _)
      refine hK.out _ _ (hHeld.alloc _) (fun hHeld => ?_)
      clear hK K
      (try simp only [Act.put]); (try simp only [List.setIfInBounds_toArray]); (try simp only [List.set_cons_succ]); (try simp only [List.set_cons_zero])
      refine wpAnyH_ready (rs := [1]) (by kernel_rfl) (by simp) ?_
      refine AllReadyH.cons rfl (fun K hK => ?_) (AllReadyH.nil)
      have c7 := (H1.out.blkAt 2 rfl).cell 1
      go_simp
      clear c7
      refine hK.out _ _ hHeld (fun hHeld => ?_)
      clear hK K
      (try simp only [Act.put]); (try simp only [List.setIfInBounds_toArray]); (try simp only [List.set_cons_succ]); (try simp only [List.set_cons_zero])
      refine wpAnyH_ready (rs := [2]) (by kernel_rfl) (by simp) ?_
      refine AllReadyH.cons rfl (fun K hK => ?_) (AllReadyH.nil)
      go_simp
      refine (CL.out _ H1.out.bel).mono ?_
      rintro x wc ⟨v1, rfl, hown, hb⟩
      obtain ⟨BB, hown, hlt, hbs⟩ : ∃ BB, wc.ownsRow BB 113 2 v1 n1 (pairsV sm) ∧ w.heap.size + 1 + 1 < BB ∧ BB ≤ wc.heap.size := ⟨_, hown, H1.out.lt 0 rfl, hb.size⟩
      have HBS := Lib.hid hbs
      have HOW := Lib.hid (And.intro hown hlt)
      have H1 := Lib.hid (H1.out.below hb)
      have NB := Lib.hid (NB.out.b hb)
      refine hK.out _ _ (hHeld.below hb) (fun hHeld => ?_)
      clear hK K hb hown hlt hbs
      (try simp only [Act.put]); (try simp only [List.setIfInBounds_toArray]); (try simp only [List.set_cons_succ]); (try simp only [List.set_cons_zero])
      refine wpAnyH_ready (rs := [5]) (by kernel_rfl) (by simp) ?_
      refine AllReadyH.cons rfl (fun K hK => ?_) (AllReadyH.nil)
      refine step_append_set rfl _ _ 52 rfl BB 113 i0 _ 2 16 Tryz.underlying52 HI.out.1 HI.out.2.1 HI.out.2.2.1 HI.out.2.2.2 rfl (by decide) v1 n1 (pairsV sm) rfl HOW.out.1 ⟨_, 0, none⟩ 1 1 [.int .i64 (p0 : Int), .int .i64 (p1 : Int)] rfl rfl (news_two NB.out) (by simp [Value.oneCell']) (by unfold maxLen; omega) (by omega) ?hbase ?_
      case hbase => exact HBS.out
      intro v9 w9 hown hgr _
      obtain ⟨gr, cr, rfl⟩ := Joins.ownsRow_form hown (by omega)
      have H1 := Lib.hid (H1.out.grown hgr (fun r e => by have h1 := (HOW.out.1.lt r e).1; have h2 := HOW.out.2; exact ⟨by omega, fun x hx => by simp only [List.mem_cons, List.not_mem_nil, or_false] at hx; rcases hx with rfl | rfl | rfl <;> (intro e2; simp only at e2; omega)⟩))
      have HOW := Lib.hid (And.intro hown HOW.out.2)
      clear hown hgr NB HBS
      refine hK.out _ _ (H1.out.sub (fun x hx => by simp only [List.mem_cons, List.not_mem_nil, or_false] at hx; subst hx; exact List.mem_cons_self ..)) (fun hHeld => ?_)
      clear hK K
      (try simp only [Act.put]); (try simp only [List.setIfInBounds_toArray]); (try simp only [List.set_cons_succ]); (try simp only [List.set_cons_zero])
      refine wpAnyH_take (i := 6) (v := ?_) rfl (by kernel_rfl) (by kernel_rfl) (by kernel_rfl) (fun _ _ _ h => (by cases h.1)) (Or.inl ⟨by rfl, ?h6⟩) hHeld ?_
      case h6 =>
        intro w' hSw
        (try dsimp only at hSw)
        go_simp
        (try with_reducible rfl)
      (try simp only [Act.put]); (try simp only [List.setIfInBounds_toArray]); (try simp only [List.set_cons_succ]); (try simp only [List.set_cons_zero])
      refine wpAnyH_ready (rs := [7]) (by kernel_rfl) (by simp) ?_
      refine AllReadyH.cons rfl (fun K hK => ?_) (AllReadyH.nil)
      have c8 := (H1.out.blkAt 2 rfl).cell 1
      have f8 := (H1.out.blkAt 2 rfl).frozen 1
      have g8 := (H1.out.blkAt 2 rfl).lt
      go_simp
      clear c8 f8 g8
      have HF1 := Lib.hid ((H1.out.blkAt 2 rfl).set 1 (.slice (some ⟨gr, 0, none⟩) (n1 + 1) cr))
      have HF2 := Lib.hid ((H1.out.blkAt 1 rfl).other (a := ⟨w.heap.size, 1, none⟩) (by show w.heap.size + 1 ≠ w.heap.size; omega) (.slice (some ⟨gr, 0, none⟩) (n1 + 1) cr))
      have HF3 := Lib.hid (ownsRow_setCell_other HOW.out.1 (a := ⟨w.heap.size, 1, none⟩) (fun e => by have h1 : BB ≤ w.heap.size := (HOW.out.1.lt _ e).1; have h2 := HOW.out.2; omega) (.slice (some ⟨gr, 0, none⟩) (n1 + 1) cr))
      have HF4 := Lib.hid (H1.out.bel.setCell (p := ⟨w.heap.size, 1, none⟩) (Nat.le_refl _) (.slice (some ⟨gr, 0, none⟩) (n1 + 1) cr))
      refine hK.out _ _ ⟨fun x hx => by simp only [List.mem_cons, List.not_mem_nil, or_false] at hx; subst hx; exact (H1.out.blkAt 0 rfl).other (a := ⟨w.heap.size, 1, none⟩) (by show w.heap.size + 1 + 1 ≠ w.heap.size; omega) _, HF4.out⟩ (fun hHeld => ?_)
      clear hK K
      (try simp only [Act.put]); (try simp only [List.setIfInBounds_toArray]); (try simp only [List.set_cons_succ]); (try simp only [List.set_cons_zero])
      refine wpAnyH_done (by kernel_rfl) ?_ _
      exact ⟨rfl, (_, _, _), rfl, HF1.out, HF2.out, HF4.out, BB, by have := HOW.out.2; omega, HF3.out⟩
  rintro ⟨v1, nb, z⟩ W9 ⟨hb1, hb2, hbel, BB, hlt, hown⟩
  rw [show pairsV sm ++ [.int .i64 (p0 : Int), .int .i64 (p1 : Int)] = pairsV (sm ++ [(p0, p1)]) from by rw [pairsV_app]; rfl] at hown
  obtain ⟨gr, cr, hz⟩ := Joins.ownsRow_form hown (by omega)
  dsimp only at hz
  subst hz
  have hlr := (hown.lt gr rfl).1
  have HOW := Lib.hid hown
  simp only [Act.put, List.setIfInBounds_toArray, List.set_cons_zero, List.set_cons_succ]
  have HB1 := Lib.hid hb1
  have HB2 := Lib.hid hb2
  have HBE := Lib.hid hbel
  obtain ⟨q0, q1, q2, q3, q4, q5, q6⟩ := hb1.c7
  obtain ⟨u0, u1, u2, u3, u4, u5, u6⟩ := hb2.c7
  have zl := hb1.lt
  have zl2 := hb2.lt
  have y0 := hb2.frozen 0
  have y1 := hb2.frozen 1
  have y2 := hb2.frozen 2
  have y3 := hb2.frozen 3
  have y4 := hb2.frozen 4
  have y5 := hb2.frozen 5
  have y6 := hb2.frozen 6
  clear hb1 hb2 hbel hown hS K0 K1 KG
  go_wp2_with fail
  have hF := HB2.out.set7 (y0 := .slice ea n0 ec) (y1 := .slice (some ⟨gr, 0, none⟩) (n1 + 1) cr) (y2 := .slice aa0 n2 ac) (y3 := .int .i64 (ol : Int)) (y4 := .int .i64 (oh : Int)) (y5 := .int .i64 (nl : Int)) (y6 := .int .i64 (nh : Int))
  obtain ⟨r0, r1, r2, r3, r4, r5, r6⟩ := hF.c7
  have rl := hF.lt
  obtain ⟨e0, e1, e2⟩ := HN.out
  have hlen : (sm ++ [(p0, p1)]).length = n1 + 1 := by rw [List.length_append, ← e1]; rfl
  refine bodyPost_ret (v := cenV (.slice ea n0 ec) (.slice (some ⟨gr, 0, none⟩) (n1 + 1) cr) (.slice aa0 n2 ac) ol oh nl nh) (by simp [results, Tryz.results47, go_sem, r0, r1, r2, r3, r4, r5, r6, rl]) rfl ⟨⟨some ⟨gr, 0, none⟩, gr, 0, cr⟩, bel_set7 HBE.out (by omega), ?_, ?_⟩
  · dsimp only [cenL]
    rw [hlen, e0, e2]
  · exact ⟨fun _ => rfl, fun _ => ((own_set7 HOW.out (by omega)).lt gr rfl).2, PairsAt.of_own (own_set7 HOW.out (by omega)) hlen⟩
set_option maxRecDepth 100000 in
set_option maxHeartbeats 6400000 in
theorem with_apart (e s a : Loc) (es : List Ent) (sm ap : List (Nat × Nat)) (om nu : Nat × Nat) (p : Nat × Nat) (w : World) (hS : SlP w a ap) (hs : a.a = none ∨ a.a = some ⟨a.b, a.o, none⟩) (h10 : ap.length ≤ 10) :
    Calls Tryz.prog 47 #[cenL e s a es sm ap om nu, .int .i64 (p.1 : Int), .int .i64 (p.2 : Int), .bool false] w (WithPost e s a es sm ap om nu p false w) := by
  obtain ⟨n0, hn0⟩ : ∃ n, n = es.length := ⟨_, rfl⟩
  obtain ⟨n1, hn1⟩ : ∃ n, n = sm.length := ⟨_, rfl⟩
  obtain ⟨n2, hn2⟩ : ∃ n, n = ap.length := ⟨_, rfl⟩
  have CL := Lib.hid (fun W (hW : Below w.heap.size w W) => clone_any a n2 ap W hn2.symm (hS.below hW) hs (by omega))
  have h10n : n2 ≤ 10 := by omega
  clear hS hs h10
  obtain ⟨ea, eb, eo, ec⟩ := e
  obtain ⟨sa, sb, so, sc⟩ := s
  obtain ⟨aa0, ab, ao, ac⟩ := a
  obtain ⟨ol, oh⟩ := om
  obtain ⟨nl, nh⟩ := nu
  obtain ⟨p0, p1⟩ := p
  dsimp only at CL
  change Calls Tryz.prog 47 #[cenV (.slice ea es.length ec) (.slice sa sm.length sc) (.slice aa0 ap.length ac) ol oh nl nh, .int .i64 (p0 : Int), .int .i64 (p1 : Int), .bool false] w _
  rw [← hn0, ← hn1, ← hn2]
  have HN := Lib.hid (And.intro hn0 (And.intro hn1 hn2))
  clear hn0 hn1 hn2
  have s0 := (((KS.start w).new (cenA (.slice ea n0 ec) (.slice sa n1 sc) (.slice aa0 n2 ac) ol oh nl nh) 54).new (cenA (.slice none 0 0) (.slice none 0 0) (.slice none 0 0) 0 0 0 0) 54).new (prA (p0, p1)) 113
  simp only [World.size_alloc] at s0
  have H0 := Lib.hid s0
  clear s0
  obtain ⟨i0, hi0, hz0, hz1, hz2⟩ := info_parts Tryz.info113
  have HI := Lib.hid (And.intro hi0 (And.intro hz0 (And.intro hz1 hz2)))
  clear hi0 hz0 hz1 hz2
  go_enter Tryz.func47, Tryz.ntmps47
  go_wp2_with fail
  obtain ⟨W3, hW3⟩ : ∃ W3, W3 = (((w.alloc (.cells (cenA (.slice ea n0 ec) (.slice sa n1 sc) (.slice aa0 n2 ac) ol oh nl nh) 54)).alloc (.cells (cenA (.slice none 0 0) (.slice none 0 0) (.slice none 0 0) 0 0 0 0) 54)).alloc (.cells (prA (p0, p1)) 113)) := ⟨_, rfl⟩
  have H1 : Hid (KS w [(w.heap.size + 1 + 1, prA (p0, p1), 113), (w.heap.size + 1, cenA (.slice none 0 0) (.slice none 0 0) (.slice none 0 0) 0 0 0 0, 54), (w.heap.size, cenA (.slice ea n0 ec) (.slice sa n1 sc) (.slice aa0 n2 ac) ol oh nl nh, 54)] W3.drew) := by rw [hW3]; exact Lib.hid H0.out.drew
  have hS : KS w [(w.heap.size + 1 + 1, prA (p0, p1), 113)] W3.drew := H1.out.sub (fun x hx => by simp only [List.mem_cons, List.not_mem_nil, or_false] at hx; subst hx; exact List.mem_cons_self ..)
  have K0 : ∀ W, KS w [(w.heap.size + 1 + 1, prA (p0, p1), 113)] W → W.cell? ⟨w.heap.size + 1 + 1, 0, none⟩ = some (.int .i64 (p0 : Int)) := fun W h => (h.blkAt 0 rfl).cell 0
  have K1 : ∀ W, KS w [(w.heap.size + 1 + 1, prA (p0, p1), 113)] W → W.cell? ⟨w.heap.size + 1 + 1, 1, none⟩ = some (.int .i64 (p1 : Int)) := fun W h => (h.blkAt 0 rfl).cell 1
  have KG : ∀ W, KS w [(w.heap.size + 1 + 1, prA (p0, p1), 113)] W → w.heap.size < W.heap.size := fun W h => by have := (h.blkAt 0 rfl).lt; omega
  change Code.wp _ _ _ _ (((w.alloc (.cells (cenA (.slice ea n0 ec) (.slice sa n1 sc) (.slice aa0 n2 ac) ol oh nl nh) 54)).alloc (.cells (cenA (.slice none 0 0) (.slice none 0 0) (.slice none 0 0) 0 0 0 0) 54)).alloc (.cells (prA (p0, p1)) 113))
  rw [← hW3]
  have KLT := Lib.hid (H1.out.lt 0 rfl)
  clear hW3 H0
  refine wp_joinZ (ι := Value × Nat × Value) (f := fun aa bb => (((((((aa.put (some 21) (.pointer (some ⟨w.heap.size, 2, none⟩))).put (some 22) (.slice aa0 n2 ac)).put (some 23) (bb.1)).put (some 24) (.agg (prA (p0, p1)))).put (some 25) (.slice (some ⟨bb.2.1, 0, none⟩) 1 1)).put (some 26) (bb.2.2)).put (some 27) (.pointer (some ⟨w.heap.size, 2, none⟩)))) (mid := fun bb W' => Blk W' w.heap.size (cenA (.slice ea n0 ec) (.slice sa n1 sc) bb.2.2 ol oh nl nh) 54 ∧ Blk W' (w.heap.size + 1) (cenA (.slice none 0 0) (.slice none 0 0) (.slice none 0 0) 0 0 0 0) 54 ∧ Below w.heap.size w W' ∧ ∃ BB, w.heap.size + 1 < BB ∧ W'.ownsRow BB 113 2 bb.2.2 (n2 + 1) (pairsV ap ++ [.int .i64 (p0 : Int), .int .i64 (p1 : Int)])) ?_ ?_
  · refine wp_region_held_drew (S := KS w [(w.heap.size + 1 + 1, prA (p0, p1), 113)]) (by kernel_rfl) hS (fun hHeld => ?_)
    clear hS
    refine wpAnyH_take (i := 0) (v := ?_) rfl (by kernel_rfl) (by kernel_rfl) (by kernel_rfl) (fun _ _ _ h => (by cases h.1)) (Or.inl ⟨by rfl, ?h0⟩) hHeld ?_
    case h0 =>
      intro w' hSw
      (try dsimp only at hSw)
      go_simp
      (try with_reducible rfl)
    (try simp only [Act.put]); (try simp only [List.setIfInBounds_toArray]); (try simp only [List.set_cons_succ]); (try simp only [List.set_cons_zero])
    refine wpAnyH_take (i := 3) (v := ?_) rfl (by kernel_rfl) (by kernel_rfl) (by kernel_rfl) (fun _ _ _ h => (by cases h.1)) (Or.inl ⟨by rfl, ?h3⟩) hHeld ?_
    case h3 =>
      intro w' hSw
      (try dsimp only at hSw)
      go_simp
      (try with_reducible rfl)
    (try simp only [Act.put]); (try simp only [List.setIfInBounds_toArray]); (try simp only [List.set_cons_succ]); (try simp only [List.set_cons_zero])
    refine wpAnyH_ready (rs := [1, 4]) (by kernel_rfl) (by simp) ?_
    refine AllReadyH.cons rfl (fun K hK => ?_) (AllReadyH.cons rfl (fun K hK => ?_) (AllReadyH.nil))
    · have c7 := (H1.out.blkAt 2 rfl).cell 2
      go_simp
      clear c7
      refine hK.out _ _ hHeld (fun hHeld => ?_)
      clear hK K
      (try simp only [Act.put]); (try simp only [List.setIfInBounds_toArray]); (try simp only [List.set_cons_succ]); (try simp only [List.set_cons_zero])
      refine wpAnyH_ready (rs := [2, 4]) (by kernel_rfl) (by simp) ?_
      refine AllReadyH.cons rfl (fun K hK => ?_) (AllReadyH.cons rfl (fun K hK => ?_) (AllReadyH.nil))
      · go_simp
        refine (CL.out _ H1.out.bel).mono ?_
        rintro x wc ⟨v1, rfl, hown, hb⟩
        obtain ⟨BB, hown, hlt, hbs⟩ : ∃ BB, wc.ownsRow BB 113 2 v1 n2 (pairsV ap) ∧ w.heap.size + 1 + 1 < BB ∧ BB ≤ wc.heap.size := ⟨_, hown, H1.out.lt 0 rfl, hb.size⟩
        have HBS := Lib.hid hbs
        have HOW := Lib.hid (And.intro hown hlt)
        have H1 := Lib.hid (H1.out.below hb)
        refine hK.out _ _ (hHeld.below hb) (fun hHeld => ?_)
        clear hK K hb hown hlt hbs
        (try simp only [Act.put]); (try simp only [List.setIfInBounds_toArray]); (try simp only [List.set_cons_succ]); (try simp only [List.set_cons_zero])
        refine wpAnyH_ready (rs := [4]) (by kernel_rfl) (by simp) ?_
        refine AllReadyH.cons rfl (fun K hK => ?_) (AllReadyH.nil)
        go_simp
        have HBS : Hid (BB ≤ (wc.alloc (.cells (prA (p0, p1)) 113)).heap.size) := Lib.hid (by have := HBS.out; simp only [World.size_alloc]; omega)
        have NB := Lib.hid (Blk.new wc (prA (p0, p1)) 113)
        have H1 : Hid (KS w [(w.heap.size + 1 + 1, prA (p0, p1), 113), (w.heap.size + 1, cenA (.slice none 0 0) (.slice none 0 0) (.slice none 0 0) 0 0 0 0, 54), (w.heap.size, cenA (.slice ea n0 ec) (.slice sa n1 sc) (.slice aa0 n2 ac) ol oh nl nh, 54)] (wc.alloc (.cells (prA (p0, p1)) 113))) := Lib.hid (H1.out.alloc _)
        have HOW := Lib.hid (And.intro (HOW.out.1.alloc (.cells (prA (p0, p1)) 113)) HOW.out.2)
        refine hK.out _ _ (hHeld.alloc _) (fun hHeld => ?_)
        clear hK K
        (try simp only [Act.put]); (try simp only [List.setIfInBounds_toArray]); (try simp only [List.set_cons_succ]); (try simp only [List.set_cons_zero])
        refine wpAnyH_ready (rs := [5]) (by kernel_rfl) (by simp) ?_
        refine AllReadyH.cons rfl (fun K hK => ?_) (AllReadyH.nil)
        refine step_append_set rfl _ _ 52 rfl BB 113 i0 _ 2 16 Tryz.underlying52 HI.out.1 HI.out.2.1 HI.out.2.2.1 HI.out.2.2.2 rfl (by decide) v1 n2 (pairsV ap) rfl HOW.out.1 ⟨_, 0, none⟩ 1 1 [.int .i64 (p0 : Int), .int .i64 (p1 : Int)] rfl rfl (news_two NB.out) (by simp [Value.oneCell']) (by unfold maxLen; omega) (by omega) ?hbase ?_
        case hbase => exact HBS.out
        intro v9 w9 hown hgr _
        obtain ⟨gr, cr, rfl⟩ := Joins.ownsRow_form hown (by omega)
        have H1 := Lib.hid (H1.out.grown hgr (fun r e => by have h1 := (HOW.out.1.lt r e).1; have h2 := HOW.out.2; exact ⟨by omega, fun x hx => by simp only [List.mem_cons, List.not_mem_nil, or_false] at hx; rcases hx with rfl | rfl | rfl <;> (intro e2; simp only at e2; omega)⟩))
        have HOW := Lib.hid (And.intro hown HOW.out.2)
        clear hown hgr NB HBS
        refine hK.out _ _ (H1.out.sub (fun x hx => by simp only [List.mem_cons, List.not_mem_nil, or_false] at hx; subst hx; exact List.mem_cons_self ..)) (fun hHeld => ?_)
        clear hK K
        (try simp only [Act.put]); (try simp only [List.setIfInBounds_toArray]); (try simp only [List.set_cons_succ]); (try simp only [List.set_cons_zero])
        refine wpAnyH_take (i := 6) (v := ?_) rfl (by kernel_rfl) (by kernel_rfl) (by kernel_rfl) (fun _ _ _ h => (by cases h.1)) (Or.inl ⟨by rfl, ?h6⟩) hHeld ?_
        case h6 =>
          intro w' hSw
          (try dsimp only at hSw)
          go_simp
          (try with_reducible rfl)
        (try simp only [Act.put]); (try simp only [List.setIfInBounds_toArray]); (try simp only [List.set_cons_succ]); (try simp only [List.set_cons_zero])
        refine wpAnyH_ready (rs := [7]) (by kernel_rfl) (by simp) ?_
        refine AllReadyH.cons rfl (fun K hK => ?_) (AllReadyH.nil)
        have c8 := (H1.out.blkAt 2 rfl).cell 2
        have f8 := (H1.out.blkAt 2 rfl).frozen 2
        have g8 := (H1.out.blkAt 2 rfl).lt
        go_simp
        clear c8 f8 g8
        have HF1 := Lib.hid ((H1.out.blkAt 2 rfl).set 2 (.slice (some ⟨gr, 0, none⟩) (n2 + 1) cr))
        have HF2 := Lib.hid ((H1.out.blkAt 1 rfl).other (a := ⟨w.heap.size, 2, none⟩) (by show w.heap.size + 1 ≠ w.heap.size; omega) (.slice (some ⟨gr, 0, none⟩) (n2 + 1) cr))
        have HF3 := Lib.hid (ownsRow_setCell_other HOW.out.1 (a := ⟨w.heap.size, 2, none⟩) (fun e => by have h1 : BB ≤ w.heap.size := (HOW.out.1.lt _ e).1; have h2 := HOW.out.2; omega) (.slice (some ⟨gr, 0, none⟩) (n2 + 1) cr))
        have HF4 := Lib.hid (H1.out.bel.setCell (p := ⟨w.heap.size, 2, none⟩) (Nat.le_refl _) (.slice (some ⟨gr, 0, none⟩) (n2 + 1) cr))
        refine hK.out _ _ ⟨fun x hx => by simp only [List.mem_cons, List.not_mem_nil, or_false] at hx; subst hx; exact (H1.out.blkAt 0 rfl).other (a := ⟨w.heap.size, 2, none⟩) (by show w.heap.size + 1 + 1 ≠ w.heap.size; omega) _, HF4.out⟩ (fun hHeld => ?_)
        clear hK K
        (try simp only [Act.put]); (try simp only [List.setIfInBounds_toArray]); (try simp only [List.set_cons_succ]); (try simp only [List.set_cons_zero])
        refine wpAnyH_done (by kernel_rfl) ?_ _
        exact ⟨rfl, (_, _, _), rfl, HF1.out, HF2.out, HF4.out, BB, by have := HOW.out.2; omega, HF3.out⟩
      · go_simp
        have NB := Lib.hid ((Blk.new W3 (prA (p0, p1)) 113).drew)
        have H1 : Hid (KS w [(w.heap.size + 1 + 1, prA (p0, p1), 113), (w.heap.size + 1, cenA (.slice none 0 0) (.slice none 0 0) (.slice none 0 0) 0 0 0 0, 54), (w.heap.size, cenA (.slice ea n0 ec) (.slice sa n1 sc) (.slice aa0 n2 ac) ol oh nl nh, 54)] (W3.alloc (.cells (prA (p0, p1)) 113)).drew) := Lib.hid (H1.out.alloc _)
        refine hK.out _ _ (hHeld.alloc _) (fun hHeld => ?_)
        clear hK K
        (try simp only [Act.put]); (try simp only [List.setIfInBounds_toArray]); (try simp only [List.set_cons_succ]); (try simp only [List.set_cons_zero])
        refine wpAnyH_ready (rs := [2]) (by kernel_rfl) (by simp) ?_
        refine AllReadyH.cons rfl (fun K hK => ?_) (AllReadyH.nil)
        go_simp
        refine (CL.out _ H1.out.bel).mono ?_
        rintro x wc ⟨v1, rfl, hown, hb⟩
        obtain ⟨BB, hown, hlt, hbs⟩ : ∃ BB, wc.ownsRow BB 113 2 v1 n2 (pairsV ap) ∧ w.heap.size + 1 + 1 < BB ∧ BB ≤ wc.heap.size := ⟨_, hown, H1.out.lt 0 rfl, hb.size⟩
        have HBS := Lib.hid hbs
        have HOW := Lib.hid (And.intro hown hlt)
        have H1 := Lib.hid (H1.out.below hb)
        have NB := Lib.hid (NB.out.b hb)
        refine hK.out _ _ (hHeld.below hb) (fun hHeld => ?_)
        clear hK K hb hown hlt hbs
        (try simp only [Act.put]); (try simp only [List.setIfInBounds_toArray]); (try simp only [List.set_cons_succ]); (try simp only [List.set_cons_zero])
        refine wpAnyH_ready (rs := [5]) (by kernel_rfl) (by simp) ?_
        refine AllReadyH.cons rfl (fun K hK => ?_) (AllReadyH.nil)
        refine step_append_set rfl _ _ 52 rfl BB 113 i0 _ 2 16 Tryz.underlying52 HI.out.1 HI.out.2.1 HI.out.2.2.1 HI.out.2.2.2 rfl (by decide) v1 n2 (pairsV ap) rfl HOW.out.1 ⟨_, 0, none⟩ 1 1 [.int .i64 (p0 : Int), .int .i64 (p1 : Int)] rfl rfl (news_two NB.out) (by simp [Value.oneCell']) (by unfold maxLen; omega) (by omega) ?hbase ?_
        case hbase => exact HBS.out
        intro v9 w9 hown hgr _
        obtain ⟨gr, cr, rfl⟩ := Joins.ownsRow_form hown (by omega)
        have H1 := Lib.hid (H1.out.grown hgr (fun r e => by have h1 := (HOW.out.1.lt r e).1; have h2 := HOW.out.2; exact ⟨by omega, fun x hx => by simp only [List.mem_cons, List.not_mem_nil, or_false] at hx; rcases hx with rfl | rfl | rfl <;> (intro e2; simp only at e2; omega)⟩))
        have HOW := Lib.hid (And.intro hown HOW.out.2)
        clear hown hgr NB HBS
        refine hK.out _ _ (H1.out.sub (fun x hx => by simp only [List.mem_cons, List.not_mem_nil, or_false] at hx; subst hx; exact List.mem_cons_self ..)) (fun hHeld => ?_)
        clear hK K
        (try simp only [Act.put]); (try simp only [List.setIfInBounds_toArray]); (try simp only [List.set_cons_succ]); (try simp only [List.set_cons_zero])
        refine wpAnyH_take (i := 6) (v := ?_) rfl (by kernel_rfl) (by kernel_rfl) (by kernel_rfl) (fun _ _ _ h => (by cases h.1)) (Or.inl ⟨by rfl, ?h6⟩) hHeld ?_
        case h6 =>
          intro w' hSw
          (try dsimp only at hSw)
          go_simp
          (try with_reducible rfl)
        (try simp only [Act.put]); (try simp only [List.setIfInBounds_toArray]); (try simp only [List.set_cons_succ]); (try simp only [List.set_cons_zero])
        refine wpAnyH_ready (rs := [7]) (by kernel_rfl) (by simp) ?_
        refine AllReadyH.cons rfl (fun K hK => ?_) (AllReadyH.nil)
        have c8 := (H1.out.blkAt 2 rfl).cell 2
        have f8 := (H1.out.blkAt 2 rfl).frozen 2
        have g8 := (H1.out.blkAt 2 rfl).lt
        go_simp
        clear c8 f8 g8
        have HF1 := Lib.hid ((H1.out.blkAt 2 rfl).set 2 (.slice (some ⟨gr, 0, none⟩) (n2 + 1) cr))
        have HF2 := Lib.hid ((H1.out.blkAt 1 rfl).other (a := ⟨w.heap.size, 2, none⟩) (by show w.heap.size + 1 ≠ w.heap.size; omega) (.slice (some ⟨gr, 0, none⟩) (n2 + 1) cr))
        have HF3 := Lib.hid (ownsRow_setCell_other HOW.out.1 (a := ⟨w.heap.size, 2, none⟩) (fun e => by have h1 : BB ≤ w.heap.size := (HOW.out.1.lt _ e).1; have h2 := HOW.out.2; omega) (.slice (some ⟨gr, 0, none⟩) (n2 + 1) cr))
        have HF4 := Lib.hid (H1.out.bel.setCell (p := ⟨w.heap.size, 2, none⟩) (Nat.le_refl _) (.slice (some ⟨gr, 0, none⟩) (n2 + 1) cr))
        refine hK.out _ _ ⟨fun x hx => by simp only [List.mem_cons, List.not_mem_nil, or_false] at hx; subst hx; exact (H1.out.blkAt 0 rfl).other (a := ⟨w.heap.size, 2, none⟩) (by show w.heap.size + 1 + 1 ≠ w.heap.size; omega) _, HF4.out⟩ (fun hHeld => ?_)
        clear hK K
        (try simp only [Act.put]); (try simp only [List.setIfInBounds_toArray]); (try simp only [List.set_cons_succ]); (try simp only [List.set_cons_zero])
        refine wpAnyH_done (by kernel_rfl) ?_ _
        exact ⟨rfl, (_, _, _), rfl, HF1.out, HF2.out, HF4.out, BB, by have := HOW.out.2; omega, HF3.out⟩
    · go_simp
      have NB := Lib.hid ((Blk.new W3 (prA (p0, p1)) 113).drew)
      have H1 : Hid (KS w [(w.heap.size + 1 + 1, prA (p0, p1), 113), (w.heap.size + 1, cenA (.slice none 0 0) (.slice none 0 0) (.slice none 0 0) 0 0 0 0, 54), (w.heap.size, cenA (.slice ea n0 ec) (.slice sa n1 sc) (.slice aa0 n2 ac) ol oh nl nh, 54)] (W3.alloc (.cells (prA (p0, p1)) 113)).drew) := Lib.hid (H1.out.alloc _)
      refine hK.out _ _ (hHeld.alloc _) (fun hHeld => ?_)
      clear hK K
      (try simp only [Act.put]); (try simp only [List.setIfInBounds_toArray]); (try simp only [List.set_cons_succ]); (try simp only [List.set_cons_zero])
      refine wpAnyH_ready (rs := [1]) (by kernel_rfl) (by simp) ?_
      refine AllReadyH.cons rfl (fun K hK => ?_) (AllReadyH.nil)
      have c7 := (H1.out.blkAt 2 rfl).cell 2
      go_simp
      clear c7
      refine hK.out _ _ hHeld (fun hHeld => ?_)
      clear hK K
      (try simp only [Act.put]); (try simp only [List.setIfInBounds_toArray]); (try simp only [List.set_cons_succ]); (try simp only [List.set_cons_zero])
      refine wpAnyH_ready (rs := [2]) (by kernel_rfl) (by simp) ?_
      refine AllReadyH.cons rfl (fun K hK => ?_) (AllReadyH.nil)
      go_simp
      refine (CL.out _ H1.out.bel).mono ?_
      rintro x wc ⟨v1, rfl, hown, hb⟩
      obtain ⟨BB, hown, hlt, hbs⟩ : ∃ BB, wc.ownsRow BB 113 2 v1 n2 (pairsV ap) ∧ w.heap.size + 1 + 1 < BB ∧ BB ≤ wc.heap.size := ⟨_, hown, H1.out.lt 0 rfl, hb.size⟩
      have HBS := Lib.hid hbs
      have HOW := Lib.hid (And.intro hown hlt)
      have H1 := Lib.hid (H1.out.below hb)
      have NB := Lib.hid (NB.out.b hb)
      refine hK.out _ _ (hHeld.below hb) (fun hHeld => ?_)
      clear hK K hb hown hlt hbs
      (try simp only [Act.put]); (try simp only [List.setIfInBounds_toArray]); (try simp only [List.set_cons_succ]); (try simp only [List.set_cons_zero])
      refine wpAnyH_ready (rs := [5]) (by kernel_rfl) (by simp) ?_
      refine AllReadyH.cons rfl (fun K hK => ?_) (AllReadyH.nil)
      refine step_append_set rfl _ _ 52 rfl BB 113 i0 _ 2 16 Tryz.underlying52 HI.out.1 HI.out.2.1 HI.out.2.2.1 HI.out.2.2.2 rfl (by decide) v1 n2 (pairsV ap) rfl HOW.out.1 ⟨_, 0, none⟩ 1 1 [.int .i64 (p0 : Int), .int .i64 (p1 : Int)] rfl rfl (news_two NB.out) (by simp [Value.oneCell']) (by unfold maxLen; omega) (by omega) ?hbase ?_
      case hbase => exact HBS.out
      intro v9 w9 hown hgr _
      obtain ⟨gr, cr, rfl⟩ := Joins.ownsRow_form hown (by omega)
      have H1 := Lib.hid (H1.out.grown hgr (fun r e => by have h1 := (HOW.out.1.lt r e).1; have h2 := HOW.out.2; exact ⟨by omega, fun x hx => by simp only [List.mem_cons, List.not_mem_nil, or_false] at hx; rcases hx with rfl | rfl | rfl <;> (intro e2; simp only at e2; omega)⟩))
      have HOW := Lib.hid (And.intro hown HOW.out.2)
      clear hown hgr NB HBS
      refine hK.out _ _ (H1.out.sub (fun x hx => by simp only [List.mem_cons, List.not_mem_nil, or_false] at hx; subst hx; exact List.mem_cons_self ..)) (fun hHeld => ?_)
      clear hK K
      (try simp only [Act.put]); (try simp only [List.setIfInBounds_toArray]); (try simp only [List.set_cons_succ]); (try simp only [List.set_cons_zero])
      refine wpAnyH_take (i := 6) (v := ?_) rfl (by kernel_rfl) (by kernel_rfl) (by kernel_rfl) (fun _ _ _ h => (by cases h.1)) (Or.inl ⟨by rfl, ?h6⟩) hHeld ?_
      case h6 =>
        intro w' hSw
        (try dsimp only at hSw)
        go_simp
        (try with_reducible rfl)
      (try simp only [Act.put]); (try simp only [List.setIfInBounds_toArray]); (try simp only [List.set_cons_succ]); (try simp only [List.set_cons_zero])
      refine wpAnyH_ready (rs := [7]) (by kernel_rfl) (by simp) ?_
      refine AllReadyH.cons rfl (fun K hK => ?_) (AllReadyH.nil)
      have c8 := (H1.out.blkAt 2 rfl).cell 2
      have f8 := (H1.out.blkAt 2 rfl).frozen 2
      have g8 := (H1.out.blkAt 2 rfl).lt
      go_simp
      clear c8 f8 g8
      have HF1 := Lib.hid ((H1.out.blkAt 2 rfl).set 2 (.slice (some ⟨gr, 0, none⟩) (n2 + 1) cr))
      have HF2 := Lib.hid ((H1.out.blkAt 1 rfl).other (a := ⟨w.heap.size, 2, none⟩) (by show w.heap.size + 1 ≠ w.heap.size; omega) (.slice (some ⟨gr, 0, none⟩) (n2 + 1) cr))
      have HF3 := Lib.hid (ownsRow_setCell_other HOW.out.1 (a := ⟨w.heap.size, 2, none⟩) (fun e => by have h1 : BB ≤ w.heap.size := (HOW.out.1.lt _ e).1; have h2 := HOW.out.2; omega) (.slice (some ⟨gr, 0, none⟩) (n2 + 1) cr))
      have HF4 := Lib.hid (H1.out.bel.setCell (p := ⟨w.heap.size, 2, none⟩) (Nat.le_refl _) (.slice (some ⟨gr, 0, none⟩) (n2 + 1) cr))
      refine hK.out _ _ ⟨fun x hx => by simp only [List.mem_cons, List.not_mem_nil, or_false] at hx; subst hx; exact (H1.out.blkAt 0 rfl).other (a := ⟨w.heap.size, 2, none⟩) (by show w.heap.size + 1 + 1 ≠ w.heap.size; omega) _, HF4.out⟩ (fun hHeld => ?_)
      clear hK K
      (try simp only [Act.put]); (try simp only [List.setIfInBounds_toArray]); (try simp only [List.set_cons_succ]); (try simp only [List.set_cons_zero])
      refine wpAnyH_done (by kernel_rfl) ?_ _
      exact ⟨rfl, (_, _, _), rfl, HF1.out, HF2.out, HF4.out, BB, by have := HOW.out.2; omega, HF3.out⟩
  rintro ⟨v1, nb, z⟩ W9 ⟨hb1, hb2, hbel, BB, hlt, hown⟩
  rw [show pairsV ap ++ [.int .i64 (p0 : Int), .int .i64 (p1 : Int)] = pairsV (ap ++ [(p0, p1)]) from by rw [pairsV_app]; rfl] at hown
  obtain ⟨gr, cr, hz⟩ := Joins.ownsRow_form hown (by omega)
  dsimp only at hz
  subst hz
  have hlr := (hown.lt gr rfl).1
  have HOW := Lib.hid hown
  simp only [Act.put, List.setIfInBounds_toArray, List.set_cons_zero, List.set_cons_succ]
  have HB1 := Lib.hid hb1
  have HB2 := Lib.hid hb2
  have HBE := Lib.hid hbel
  obtain ⟨q0, q1, q2, q3, q4, q5, q6⟩ := hb1.c7
  obtain ⟨u0, u1, u2, u3, u4, u5, u6⟩ := hb2.c7
  have zl := hb1.lt
  have zl2 := hb2.lt
  have y0 := hb2.frozen 0
  have y1 := hb2.frozen 1
  have y2 := hb2.frozen 2
  have y3 := hb2.frozen 3
  have y4 := hb2.frozen 4
  have y5 := hb2.frozen 5
  have y6 := hb2.frozen 6
  clear hb1 hb2 hbel hown hS K0 K1 KG
  go_wp2_with fail
  have hF := HB2.out.set7 (y0 := .slice ea n0 ec) (y1 := .slice sa n1 sc) (y2 := .slice (some ⟨gr, 0, none⟩) (n2 + 1) cr) (y3 := .int .i64 (ol : Int)) (y4 := .int .i64 (oh : Int)) (y5 := .int .i64 (nl : Int)) (y6 := .int .i64 (nh : Int))
  obtain ⟨r0, r1, r2, r3, r4, r5, r6⟩ := hF.c7
  have rl := hF.lt
  obtain ⟨e0, e1, e2⟩ := HN.out
  have hlen : (ap ++ [(p0, p1)]).length = n2 + 1 := by rw [List.length_append, ← e2]; rfl
  refine bodyPost_ret (v := cenV (.slice ea n0 ec) (.slice sa n1 sc) (.slice (some ⟨gr, 0, none⟩) (n2 + 1) cr) ol oh nl nh) (by simp [results, Tryz.results47, go_sem, r0, r1, r2, r3, r4, r5, r6, rl]) rfl ⟨⟨some ⟨gr, 0, none⟩, gr, 0, cr⟩, bel_set7 HBE.out (by omega), ?_, ?_⟩
  · dsimp only [cenL]
    rw [hlen, e0, e1]
  · exact ⟨fun _ => rfl, fun _ => ((own_set7 HOW.out (by omega)).lt gr rfl).2, PairsAt.of_own (own_set7 HOW.out (by omega)) hlen⟩
end Go.Proofs.YtdfebccmjbocjaaGreatDoor
