/- tithinglaw02: Census: the law's census as sheet's. -/
import Derived.Test.YtdfebccmjbocjaaGreatDoorYh
set_option linter.unusedVariables false
set_option linter.unusedSimpArgs false
namespace Go.Proofs.YtdfebccmjbocjaaGreatDoor
open Go.RowKit Go.Shelf

theorem Tryz.info82 : (Tryz.prog.info? 82).map (fun i => (i.zero, i.size, i.bytes)) = some (some (.agg #[.int .i64 0, .int .i64 0, .int .i64 0, .int .i64 0, .int .i64 0]), 5, 40) := by kernel_rfl
def entsV (es : List Ent) : List Value := es.flatMap fun e => [.int .i64 (e.s : Int), .int .i64 (e.x : Int), .int .i64 (e.k : Int), .int .i64 (e.lo : Int), .int .i64 (e.hi : Int)]
theorem entsV_app (a b : List Ent) : entsV (a ++ b) = entsV a ++ entsV b := by simp [entsV]
theorem entsV_get (es : List Ent) (i : Nat) (e : Ent) (h : es[i]? = some e) : (entsV es)[i * 5]? = some (.int .i64 (e.s : Int)) ∧ (entsV es)[i * 5 + 1]? = some (.int .i64 (e.x : Int)) ∧ (entsV es)[i * 5 + 2]? = some (.int .i64 (e.k : Int)) ∧ (entsV es)[i * 5 + 3]? = some (.int .i64 (e.lo : Int)) ∧ (entsV es)[i * 5 + 4]? = some (.int .i64 (e.hi : Int)) := by
  induction es generalizing i with
  | nil => simp at h
  | cons q es ih =>
    cases i with
    | zero => simp at h; subst h; exact ⟨rfl, rfl, rfl, rfl, rfl⟩
    | succ i =>
      have := ih i (by simpa using h)
      have e1 : (i + 1) * 5 = i * 5 + 1 + 1 + 1 + 1 + 1 := by omega
      rw [e1]
      exact this
theorem EntsAt.of_own {W : World} {B g n c : Nat} {t : TypeId} {es : List Ent} (h : W.ownsRow B t 5 (.slice (some ⟨g, 0, none⟩) n c) n (entsV es)) (hn : es.length = n) : EntsAt W g 0 es := by
  intro i e he
  have hi := (List.getElem?_eq_some_iff.1 he).1
  obtain ⟨g0, g1, g2, g3, g4⟩ := entsV_get es i e he
  rw [Nat.zero_add]
  exact ⟨(h.cellAt (i * 5) (by omega)).trans g0, (h.cellAt (i * 5 + 1) (by omega)).trans g1, (h.cellAt (i * 5 + 2) (by omega)).trans g2, (h.cellAt (i * 5 + 3) (by omega)).trans g3, (h.cellAt (i * 5 + 4) (by omega)).trans g4⟩
/-- an own row of entries, as a slice -/
theorem own_sle {W : World} {B : Nat} {t : TypeId} {v : Value} {es : List Ent} (h : W.ownsRow B t 5 v es.length (entsV es)) : ∃ s : Loc, v = .slice s.a es.length s.c ∧ SlE W s es ∧ (s.a = none ∨ s.a = some ⟨s.b, s.o, none⟩) ∧ (es ≠ [] → B ≤ s.b) := by
  rcases Joins.ownsRow_forms h with ⟨hv, h0⟩ | ⟨g, c, hv⟩
  · have e : es = [] := List.eq_nil_of_length_eq_zero h0
    subst e
    exact ⟨⟨none, 0, 0, 0⟩, hv, ⟨fun h => absurd rfl h, fun h => absurd rfl h, fun i p hi => by simp at hi⟩, .inl rfl, fun h => absurd rfl h⟩
  · subst hv
    exact ⟨⟨some ⟨g, 0, none⟩, g, 0, c⟩, rfl, ⟨fun _ => rfl, fun _ => (h.lt g rfl).2, EntsAt.of_own h rfl⟩, .inr rfl, fun _ => (h.lt g rfl).1⟩
theorem own_slp2 {W : World} {B : Nat} {t : TypeId} {v : Value} {ps : List (Nat × Nat)} (h : W.ownsRow B t 2 v ps.length (pairsV ps)) : ∃ s : Loc, v = .slice s.a ps.length s.c ∧ SlP W s ps ∧ (s.a = none ∨ s.a = some ⟨s.b, s.o, none⟩) ∧ (ps ≠ [] → B ≤ s.b) := by
  rcases Joins.ownsRow_forms h with ⟨hv, h0⟩ | ⟨g, c, hv⟩
  · have e : ps = [] := List.eq_nil_of_length_eq_zero h0
    subst e
    exact ⟨⟨none, 0, 0, 0⟩, hv, ⟨fun h => absurd rfl h, fun h => absurd rfl h, fun i p hi => by simp at hi⟩, .inl rfl, fun h => absurd rfl h⟩
  · subst hv
    exact ⟨⟨some ⟨g, 0, none⟩, g, 0, c⟩, rfl, ⟨fun _ => rfl, fun _ => (h.lt g rfl).2, PairsAt.of_own h rfl⟩, .inr rfl, fun _ => (h.lt g rfl).1⟩
theorem SlP.kx {E : Nat → Prop} {W W' : World} {l : Loc} {ps : List (Nat × Nat)} (h : SlP W l ps) (hk : Kx E W W') (hE : ps ≠ [] → ¬ E l.b) : SlP W' l ps := ⟨h.at_, fun hn => Nat.lt_of_lt_of_le (h.lt hn) hk.size, fun i p hi => by
  have hn : ps ≠ [] := by rintro rfl; simp at hi
  obtain ⟨c0, c1⟩ := h.cells i p hi
  exact ⟨(hk.cell (p := ⟨l.b, _, none⟩) (h.lt hn) (hE hn)).trans c0, (hk.cell (p := ⟨l.b, _, none⟩) (h.lt hn) (hE hn)).trans c1⟩⟩
theorem SlE.kx {E : Nat → Prop} {W W' : World} {l : Loc} {es : List Ent} (h : SlE W l es) (hk : Kx E W W') (hE : es ≠ [] → ¬ E l.b) : SlE W' l es := ⟨h.at_, fun hn => Nat.lt_of_lt_of_le (h.lt hn) hk.size, fun i p hi => by
  have hn : es ≠ [] := by rintro rfl; simp at hi
  obtain ⟨c0, c1, c2, c3, c4⟩ := h.cells i p hi
  exact ⟨(hk.cell (p := ⟨l.b, _, none⟩) (h.lt hn) (hE hn)).trans c0, (hk.cell (p := ⟨l.b, _, none⟩) (h.lt hn) (hE hn)).trans c1, (hk.cell (p := ⟨l.b, _, none⟩) (h.lt hn) (hE hn)).trans c2, (hk.cell (p := ⟨l.b, _, none⟩) (h.lt hn) (hE hn)).trans c3, (hk.cell (p := ⟨l.b, _, none⟩) (h.lt hn) (hE hn)).trans c4⟩⟩
theorem kx_set7 {W : World} {b : Nat} {y0 y1 y2 y3 y4 y5 y6 : Value} : Kx (fun k => k = b) W (((((((W.setCell ⟨b, 0, none⟩ y0).setCell ⟨b, 1, none⟩ y1).setCell ⟨b, 2, none⟩ y2).setCell ⟨b, 3, none⟩ y3).setCell ⟨b, 4, none⟩ y4).setCell ⟨b, 5, none⟩ y5).setCell ⟨b, 6, none⟩ y6) :=
  ((((((Kx.set (E := fun k => k = b) (a := ⟨b, 0, none⟩) rfl y0).trans (Kx.set (E := fun k => k = b) (a := ⟨b, 1, none⟩) rfl y1)).trans (Kx.set (E := fun k => k = b) (a := ⟨b, 2, none⟩) rfl y2)).trans (Kx.set (E := fun k => k = b) (a := ⟨b, 3, none⟩) rfl y3)).trans (Kx.set (E := fun k => k = b) (a := ⟨b, 4, none⟩) rfl y4)).trans (Kx.set (E := fun k => k = b) (a := ⟨b, 5, none⟩) rfl y5)).trans (Kx.set (E := fun k => k = b) (a := ⟨b, 6, none⟩) rfl y6)
theorem KS.kx {E : Nat → Prop} {w W W' : World} {bs : List (Nat × Array Value × TypeId)} (h : KS w bs W) (hk : Kx E W W') (hE : ∀ x, x ∈ bs → ¬ E x.1) (hb : ∀ k, E k → w.heap.size ≤ k) : KS w bs W' :=
  ⟨fun x hx => hk.blk (h.1 x hx) (hE x hx), h.2.trans (hk.bel h.2.size hb)⟩
theorem news_five {w : World} {b : Nat} {e : Ent} {t : TypeId} (h : Blk w b (entA e) t) : ∀ (j : Nat) (u : Value), (entsV [e])[j]? = some u → w.cell? ((⟨b, 0, none⟩ : Addr).add j) = some u := by
  intro j u hj
  rw [show ((⟨b, 0, none⟩ : Addr).add j) = ⟨b, j, none⟩ from by unfold Addr.add; simp; exact fun e => e.symm, h.cell j]
  simpa [entsV] using hj
/-- pairs that lie off a block -/
structure OffP (B Bo : Nat) (W : World) (s : Loc) (ps : List (Nat × Nat)) : Prop where
  sl : SlP W s ps
  form : s.a = none ∨ s.a = some ⟨s.b, s.o, none⟩
  low : ps ≠ [] → B < s.b
  off : ps ≠ [] → s.b ≠ Bo
/-- in the loop of Census() -/
structure CI (W1 : World) (Bo : Nat) (s a : Value) (ol oh nl nh : Int) (v : Value) (l : List Ent) (W : World) : Prop where
  kx : Kx (fun k => k = Bo) W1 W
  blk : Blk W Bo (cenA v s a ol oh nl nh) 54
  own : W.ownsRow W1.heap.size 82 5 v l.length (entsV l)
section
variable {W1 W W' : World} {Bo : Nat} {s a v v' : Value} {ol oh nl nh : Int} {l : List Ent}
theorem CI.below (h : CI W1 Bo s a ol oh nl nh v l W) (hb : Below W.heap.size W W') : CI W1 Bo s a ol oh nl nh v l W' := ⟨h.kx.trans (Kx.below hb), h.blk.b hb, row_below h.own hb⟩
theorem CI.grown (h : CI W1 Bo s a ol oh nl nh v l W) (hg : W.grownBy W' v.ownBlock) (hB : Bo < W1.heap.size) : Blk W' Bo (cenA v s a ol oh nl nh) 54 := h.blk.kept hg (fun e => by have := (h.own.lt _ e.symm).1; omega)
theorem CI.app (h : CI W1 Bo s a ol oh nl nh v l W) (hg : W.grownBy W' v.ownBlock) (hB : Bo < W1.heap.size) (x : Ent) (ho : W'.ownsRow W1.heap.size 82 5 v' (l.length + 1) (entsV l ++ entsV [x])) : CI W1 Bo s a ol oh nl nh v' (l ++ [x]) (W'.setCell ⟨Bo, 0, none⟩ v') := by
  have k1 : Kx (fun k => k = Bo) W1 W' := ⟨hg.os.trans h.kx.os, hg.tape.trans h.kx.tape, hg.output.trans h.kx.output, Nat.le_trans h.kx.size hg.size, fun k hk hE => (hg.block k (Nat.lt_of_lt_of_le hk h.kx.size) (fun e => by have := (h.own.lt _ e.symm).1; omega)).trans (h.kx.block k hk hE)⟩
  have b2 := (h.grown hg hB).set 0 v'
  simp only [List.setIfInBounds_toArray, List.set_cons_zero] at b2
  refine ⟨k1.trans (Kx.set (E := fun k => k = Bo) (a := ⟨Bo, 0, none⟩) rfl v'), b2, ?_⟩
  have h2 := ownsRow_setCell_other ho (a := ⟨Bo, 0, none⟩) (fun e => by have h3 : W1.heap.size ≤ Bo := (ho.lt _ e).1; omega) v'
  rw [List.length_append, entsV_app]
  exact h2
end
def CenPost (es : List Ent) (sm ap : List (Nat × Nat)) (om nu : Nat × Nat) (w : World) (x : Ending) (w' : World) : Prop :=
  ∃ e s a : Loc, x = .returned (cenL e s a es sm ap om nu) ∧ (SlE w' e es ∧ SlP w' s sm ∧ SlP w' a ap) ∧ (s.a = none ∨ s.a = some ⟨s.b, s.o, none⟩) ∧ (a.a = none ∨ a.a = some ⟨a.b, a.o, none⟩) ∧ Below w.heap.size w w'
set_option maxRecDepth 100000 in
set_option maxHeartbeats 6400000 in
theorem Census_any (e s a : Loc) (es : List Ent) (sm ap : List (Nat × Nat)) (om nu : Nat × Nat) (w : World) (hE : SlE w e es) (hS : SlP w s sm) (hA : SlP w a ap) (h10 : es.length ≤ 10) (h10s : sm.length ≤ 10) (h10a : ap.length ≤ 10) :
    Calls Tryz.prog 14 #[cenL e s a es sm ap om nu] w (CenPost es sm ap om nu w) := by
  have s0 := ((KS.start w).new (cenA (.slice e.a es.length e.c) (.slice s.a sm.length s.c) (.slice a.a ap.length a.c) (om.1 : Int) (om.2 : Int) (nu.1 : Int) (nu.2 : Int)) 40).new (cenA (.slice none 0 0) (.slice none 0 0) (.slice none 0 0) 0 0 0 0) 54
  simp only [World.size_alloc] at s0
  have H0 := Lib.hid s0
  clear s0
  have PS := Lib.hid (fun W (hW : Below w.heap.size w W) => pairs_any s sm.length sm W rfl (hS.below hW) h10s)
  have PA := Lib.hid (fun W (hW : Below w.heap.size w W) => pairs_any a ap.length ap W rfl (hA.below hW) h10a)
  have TO := Lib.hid (fun W => to_any (om.1 : Int) (om.2 : Int) W)
  have TN := Lib.hid (fun W => to_any (nu.1 : Int) (nu.2 : Int) W)
  have HE := Lib.hid hE
  clear hS hA hE
  obtain ⟨i0, hi0, hz0, hz1, hz2⟩ := info_parts Tryz.info82
  have HI := Lib.hid (And.intro hi0 (And.intro hz0 (And.intro hz1 hz2)))
  clear hi0 hz0 hz1 hz2
  go_enter Tryz.func14, Tryz.ntmps14
  go_wp2_with fail
  obtain ⟨W3, hW3⟩ : ∃ W3, W3 = (w.alloc (.cells (cenA (.slice e.a es.length e.c) (.slice s.a sm.length s.c) (.slice a.a ap.length a.c) (om.1 : Int) (om.2 : Int) (nu.1 : Int) (nu.2 : Int)) 40)).alloc (.cells (cenA (.slice none 0 0) (.slice none 0 0) (.slice none 0 0) 0 0 0 0) 54) := ⟨_, rfl⟩
  rw [← hW3] at H0
  change Code.wp _ _ _ _ ((w.alloc (.cells (cenA (.slice e.a es.length e.c) (.slice s.a sm.length s.c) (.slice a.a ap.length a.c) (om.1 : Int) (om.2 : Int) (nu.1 : Int) (nu.2 : Int)) 40)).alloc (.cells (cenA (.slice none 0 0) (.slice none 0 0) (.slice none 0 0) 0 0 0 0) 54))
  rw [← hW3]
  clear hW3
  have H1 := Lib.hid H0.out.drew
  clear H0
  have hS : KS w [(w.heap.size, (cenA (.slice e.a es.length e.c) (.slice s.a sm.length s.c) (.slice a.a ap.length a.c) (om.1 : Int) (om.2 : Int) (nu.1 : Int) (nu.2 : Int)), 40)] W3.drew := H1.out.sub (fun x hx => by simp only [List.mem_cons, List.not_mem_nil, or_false] at hx; subst hx; exact List.mem_cons_of_mem _ (List.mem_cons_self ..))
  have c0 : ∀ W, KS w [(w.heap.size, (cenA (.slice e.a es.length e.c) (.slice s.a sm.length s.c) (.slice a.a ap.length a.c) (om.1 : Int) (om.2 : Int) (nu.1 : Int) (nu.2 : Int)), 40)] W → W.cell? ⟨w.heap.size, 0, none⟩ = some (.slice e.a es.length e.c) := fun W h => (h.blkAt 0 rfl).cell 0
  have c1 : ∀ W, KS w [(w.heap.size, (cenA (.slice e.a es.length e.c) (.slice s.a sm.length s.c) (.slice a.a ap.length a.c) (om.1 : Int) (om.2 : Int) (nu.1 : Int) (nu.2 : Int)), 40)] W → W.cell? ⟨w.heap.size, 1, none⟩ = some (.slice s.a sm.length s.c) := fun W h => (h.blkAt 0 rfl).cell 1
  have c2 : ∀ W, KS w [(w.heap.size, (cenA (.slice e.a es.length e.c) (.slice s.a sm.length s.c) (.slice a.a ap.length a.c) (om.1 : Int) (om.2 : Int) (nu.1 : Int) (nu.2 : Int)), 40)] W → W.cell? ⟨w.heap.size, 2, none⟩ = some (.slice a.a ap.length a.c) := fun W h => (h.blkAt 0 rfl).cell 2
  have c3 : ∀ W, KS w [(w.heap.size, (cenA (.slice e.a es.length e.c) (.slice s.a sm.length s.c) (.slice a.a ap.length a.c) (om.1 : Int) (om.2 : Int) (nu.1 : Int) (nu.2 : Int)), 40)] W → W.cell? ⟨w.heap.size, 3, none⟩ = some (.int .i64 (om.1 : Int)) := fun W h => (h.blkAt 0 rfl).cell 3
  have c4 : ∀ W, KS w [(w.heap.size, (cenA (.slice e.a es.length e.c) (.slice s.a sm.length s.c) (.slice a.a ap.length a.c) (om.1 : Int) (om.2 : Int) (nu.1 : Int) (nu.2 : Int)), 40)] W → W.cell? ⟨w.heap.size, 4, none⟩ = some (.int .i64 (om.2 : Int)) := fun W h => (h.blkAt 0 rfl).cell 4
  have c5 : ∀ W, KS w [(w.heap.size, (cenA (.slice e.a es.length e.c) (.slice s.a sm.length s.c) (.slice a.a ap.length a.c) (om.1 : Int) (om.2 : Int) (nu.1 : Int) (nu.2 : Int)), 40)] W → W.cell? ⟨w.heap.size, 5, none⟩ = some (.int .i64 (nu.1 : Int)) := fun W h => (h.blkAt 0 rfl).cell 5
  have c6 : ∀ W, KS w [(w.heap.size, (cenA (.slice e.a es.length e.c) (.slice s.a sm.length s.c) (.slice a.a ap.length a.c) (om.1 : Int) (om.2 : Int) (nu.1 : Int) (nu.2 : Int)), 40)] W → W.cell? ⟨w.heap.size, 6, none⟩ = some (.int .i64 (nu.2 : Int)) := fun W h => (h.blkAt 0 rfl).cell 6
  have cl : ∀ W, KS w [(w.heap.size, (cenA (.slice e.a es.length e.c) (.slice s.a sm.length s.c) (.slice a.a ap.length a.c) (om.1 : Int) (om.2 : Int) (nu.1 : Int) (nu.2 : Int)), 40)] W → w.heap.size < W.heap.size := fun W h => (h.blkAt 0 rfl).lt
  refine wp_joinZ (ι := Nat × Loc × Loc) (f := fun aa bb => ((((((((((((((aa.put (some 6) (.pointer (some ⟨w.heap.size, 1, none⟩))).put (some 7) (.slice s.a sm.length s.c)).put (some 8) ((.slice bb.2.1.a sm.length bb.2.1.c))).put (some 9) (.pointer (some ⟨w.heap.size, 2, none⟩))).put (some 10) (.slice a.a ap.length a.c)).put (some 11) ((.slice bb.2.2.a ap.length bb.2.2.c))).put (some 12) (.pointer (some ⟨w.heap.size, 3, none⟩))).put (some 13) ((rngV (om.1 : Int) (om.2 : Int)))).put (some 14) ((rngV (om.1 : Int) (om.2 : Int)))).put (some 15) (.pointer (some ⟨w.heap.size, 5, none⟩))).put (some 16) ((rngV (nu.1 : Int) (nu.2 : Int)))).put (some 17) ((rngV (nu.1 : Int) (nu.2 : Int)))).put (some 18) (.agg (cenA (.slice none 0 0) (.slice bb.2.1.a sm.length bb.2.1.c) (.slice bb.2.2.a ap.length bb.2.2.c) (om.1 : Int) (om.2 : Int) (nu.1 : Int) (nu.2 : Int)))).put (some 3) (.pointer (some ⟨bb.1, 0, none⟩)))) (mid := fun bb W' => KS w [(w.heap.size + 1, (cenA (.slice none 0 0) (.slice none 0 0) (.slice none 0 0) 0 0 0 0), 54), (w.heap.size, (cenA (.slice e.a es.length e.c) (.slice s.a sm.length s.c) (.slice a.a ap.length a.c) (om.1 : Int) (om.2 : Int) (nu.1 : Int) (nu.2 : Int)), 40)] W' ∧ Blk W' bb.1 (cenA (.slice none 0 0) (.slice bb.2.1.a sm.length bb.2.1.c) (.slice bb.2.2.a ap.length bb.2.2.c) (om.1 : Int) (om.2 : Int) (nu.1 : Int) (nu.2 : Int)) 54 ∧ OffP (w.heap.size + 1) bb.1 W' bb.2.1 sm ∧ OffP (w.heap.size + 1) bb.1 W' bb.2.2 ap ∧ w.heap.size + 1 < bb.1) ?_ ?_
  · refine wp_region_held_drew (S := KS w [(w.heap.size, (cenA (.slice e.a es.length e.c) (.slice s.a sm.length s.c) (.slice a.a ap.length a.c) (om.1 : Int) (om.2 : Int) (nu.1 : Int) (nu.2 : Int)), 40)]) (by kernel_rfl) hS (fun hHeld => ?_)
    clear hS
    refine wpAnyH_take (i := 0) (v := ?_) rfl (by kernel_rfl) (by kernel_rfl) (by kernel_rfl) (fun _ _ _ h => (by cases h.1)) (Or.inl ⟨by rfl, ?h0⟩) hHeld ?_
    case h0 =>
      intro w' hSw
      (try dsimp only at hSw)
      go_simp
      (try with_reducible rfl)
    (try simp only [Act.put]); (try simp only [List.setIfInBounds_toArray]); (try simp only [List.set_cons_succ]); (try simp only [List.set_cons_zero])
    refine wpAnyH_take (i := 1) (v := ?_) rfl (by kernel_rfl) (by kernel_rfl) (by kernel_rfl) (fun _ _ _ h => (by cases h.1)) (Or.inl ⟨by rfl, ?h1⟩) hHeld ?_
    case h1 =>
      intro w' hSw
      (try dsimp only at hSw)
      go_simp
      (try with_reducible rfl)
    (try simp only [Act.put]); (try simp only [List.setIfInBounds_toArray]); (try simp only [List.set_cons_succ]); (try simp only [List.set_cons_zero])
    refine wpAnyH_take (i := 3) (v := ?_) rfl (by kernel_rfl) (by kernel_rfl) (by kernel_rfl) (fun _ _ _ h => (by cases h.1)) (Or.inl ⟨by rfl, ?h3⟩) hHeld ?_
    case h3 =>
      intro w' hSw
      (try dsimp only at hSw)
      go_simp
      (try with_reducible rfl)
    (try simp only [Act.put]); (try simp only [List.setIfInBounds_toArray]); (try simp only [List.set_cons_succ]); (try simp only [List.set_cons_zero])
    refine wpAnyH_take (i := 4) (v := ?_) rfl (by kernel_rfl) (by kernel_rfl) (by kernel_rfl) (fun _ _ _ h => (by cases h.1)) (Or.inl ⟨by rfl, ?h4⟩) hHeld ?_
    case h4 =>
      intro w' hSw
      (try dsimp only at hSw)
      go_simp
      (try with_reducible rfl)
    (try simp only [Act.put]); (try simp only [List.setIfInBounds_toArray]); (try simp only [List.set_cons_succ]); (try simp only [List.set_cons_zero])
    refine wpAnyH_take (i := 6) (v := ?_) rfl (by kernel_rfl) (by kernel_rfl) (by kernel_rfl) (fun _ _ _ h => (by cases h.1)) (Or.inl ⟨by rfl, ?h6⟩) hHeld ?_
    case h6 =>
      intro w' hSw
      (try dsimp only at hSw)
      go_simp
      (try with_reducible rfl)
    (try simp only [Act.put]); (try simp only [List.setIfInBounds_toArray]); (try simp only [List.set_cons_succ]); (try simp only [List.set_cons_zero])
    refine wpAnyH_take (i := 7) (v := ?_) rfl (by kernel_rfl) (by kernel_rfl) (by kernel_rfl) (fun _ _ _ h => (by cases h.1)) (Or.inl ⟨by rfl, ?h7⟩) hHeld ?_
    case h7 =>
      intro w' hSw
      (try dsimp only at hSw)
      go_simp
      (try with_reducible rfl)
    (try simp only [Act.put]); (try simp only [List.setIfInBounds_toArray]); (try simp only [List.set_cons_succ]); (try simp only [List.set_cons_zero])
    refine wpAnyH_take (i := 9) (v := ?_) rfl (by kernel_rfl) (by kernel_rfl) (by kernel_rfl) (fun _ _ _ h => (by cases h.1)) (Or.inl ⟨by rfl, ?h9⟩) hHeld ?_
    case h9 =>
      intro w' hSw
      (try dsimp only at hSw)
      go_simp
      (try with_reducible rfl)
    (try simp only [Act.put]); (try simp only [List.setIfInBounds_toArray]); (try simp only [List.set_cons_succ]); (try simp only [List.set_cons_zero])
    refine wpAnyH_take (i := 10) (v := ?_) rfl (by kernel_rfl) (by kernel_rfl) (by kernel_rfl) (fun _ _ _ h => (by cases h.1)) (Or.inl ⟨by rfl, ?h10⟩) hHeld ?_
    case h10 =>
      intro w' hSw
      (try dsimp only at hSw)
      go_simp
      (try with_reducible rfl)
    (try simp only [Act.put]); (try simp only [List.setIfInBounds_toArray]); (try simp only [List.set_cons_succ]); (try simp only [List.set_cons_zero])
    refine wpAnyH_ready (rs := [2, 13]) (by kernel_rfl) (by simp) ?_
    refine AllReadyH.cons rfl (fun K hK => ?_) (AllReadyH.cons rfl (fun K hK => ?_) (AllReadyH.nil))
    · go_simp
      have hlow := H1.out.lt 0 rfl
      refine (PS.out _ H1.out.bel).mono ?_
      rintro x wn ⟨v1, rfl, hown, hb⟩
      obtain ⟨s1, rfl, hsl, hfm, hge⟩ := own_slp2 hown
      have HS1 : Hid (SlP wn s1 sm ∧ (s1.a = none ∨ s1.a = some ⟨s1.b, s1.o, none⟩) ∧ (sm ≠ [] → w.heap.size + 1 < s1.b)) := Lib.hid ⟨hsl, hfm, fun h => by have := hge h; omega⟩
      clear hown hsl hfm hge hlow
      have H1 := Lib.hid (H1.out.below hb)
      refine hK.out _ _ (hHeld.below hb) (fun hHeld => ?_)
      clear hK K hb
      (try simp only [Act.put]); (try simp only [List.setIfInBounds_toArray]); (try simp only [List.set_cons_succ]); (try simp only [List.set_cons_zero])
      refine wpAnyH_ready (rs := [5, 13]) (by kernel_rfl) (by simp) ?_
      refine AllReadyH.cons rfl (fun K hK => ?_) (AllReadyH.cons rfl (fun K hK => ?_) (AllReadyH.nil))
      · go_simp
        have hlow := H1.out.lt 0 rfl
        refine (PA.out _ H1.out.bel).mono ?_
        rintro x wn ⟨v1, rfl, hown, hb⟩
        obtain ⟨a1, rfl, hsl, hfm, hge⟩ := own_slp2 hown
        have HS1 := Lib.hid (And.intro (HS1.out.1.below hb) HS1.out.2)
        have HA1 : Hid (SlP wn a1 ap ∧ (a1.a = none ∨ a1.a = some ⟨a1.b, a1.o, none⟩) ∧ (ap ≠ [] → w.heap.size + 1 < a1.b)) := Lib.hid ⟨hsl, hfm, fun h => by have := hge h; omega⟩
        clear hown hsl hfm hge hlow
        have H1 := Lib.hid (H1.out.below hb)
        refine hK.out _ _ (hHeld.below hb) (fun hHeld => ?_)
        clear hK K hb
        (try simp only [Act.put]); (try simp only [List.setIfInBounds_toArray]); (try simp only [List.set_cons_succ]); (try simp only [List.set_cons_zero])
        refine wpAnyH_ready (rs := [8, 13]) (by kernel_rfl) (by simp) ?_
        refine AllReadyH.cons rfl (fun K hK => ?_) (AllReadyH.cons rfl (fun K hK => ?_) (AllReadyH.nil))
        · go_simp
          refine (TO.out _).mono ?_
          rintro x wn ⟨rfl, hb⟩
          have HS1 := Lib.hid (And.intro (HS1.out.1.below hb) HS1.out.2)
          have HA1 := Lib.hid (And.intro (HA1.out.1.below hb) HA1.out.2)
          have H1 := Lib.hid (H1.out.below hb)
          refine hK.out _ _ (hHeld.below hb) (fun hHeld => ?_)
          clear hK K hb
          (try simp only [Act.put]); (try simp only [List.setIfInBounds_toArray]); (try simp only [List.set_cons_succ]); (try simp only [List.set_cons_zero])
          refine wpAnyH_ready (rs := [11, 13]) (by kernel_rfl) (by simp) ?_
          refine AllReadyH.cons rfl (fun K hK => ?_) (AllReadyH.cons rfl (fun K hK => ?_) (AllReadyH.nil))
          · go_simp
            refine (TN.out _).mono ?_
            rintro x wn ⟨rfl, hb⟩
            have HS1 := Lib.hid (And.intro (HS1.out.1.below hb) HS1.out.2)
            have HA1 := Lib.hid (And.intro (HA1.out.1.below hb) HA1.out.2)
            have H1 := Lib.hid (H1.out.below hb)
            refine hK.out _ _ (hHeld.below hb) (fun hHeld => ?_)
            clear hK K hb
            (try simp only [Act.put]); (try simp only [List.setIfInBounds_toArray]); (try simp only [List.set_cons_succ]); (try simp only [List.set_cons_zero])
            refine wpAnyH_take (i := 12) (v := ?_) rfl (by kernel_rfl) (by kernel_rfl) (by kernel_rfl) (fun _ _ _ h => (by cases h.1)) (Or.inl ⟨by rfl, ?h12⟩) hHeld ?_
            case h12 =>
              intro w' hSw
              (try dsimp only at hSw)
              go_simp
              (try with_reducible rfl)
            (try simp only [Act.put]); (try simp only [List.setIfInBounds_toArray]); (try simp only [List.set_cons_succ]); (try simp only [List.set_cons_zero])
            refine wpAnyH_ready (rs := [13]) (by kernel_rfl) (by simp) ?_
            refine AllReadyH.cons rfl (fun K hK => ?_) (AllReadyH.nil)
            go_simp
            have HLT : Hid (w.heap.size + 1 < wn.heap.size) := Lib.hid (H1.out.lt 0 rfl)
            have hb : Below wn.heap.size wn (wn.alloc (.cells (cenA (.slice none 0 0) (.slice none 0 0) (.slice none 0 0) 0 0 0 0) 54)) := (Below.refl wn.heap.size wn).alloc (Nat.le_refl _) _
            have HBo : Hid (Blk (wn.alloc (.cells (cenA (.slice none 0 0) (.slice none 0 0) (.slice none 0 0) 0 0 0 0) 54)) wn.heap.size (cenA (.slice none 0 0) (.slice none 0 0) (.slice none 0 0) 0 0 0 0) 54) := Lib.hid (Blk.new _ _ _)
            have H1 : Hid (KS w [(w.heap.size + 1, (cenA (.slice none 0 0) (.slice none 0 0) (.slice none 0 0) 0 0 0 0), 54), (w.heap.size, (cenA (.slice e.a es.length e.c) (.slice s.a sm.length s.c) (.slice a.a ap.length a.c) (om.1 : Int) (om.2 : Int) (nu.1 : Int) (nu.2 : Int)), 40)] (wn.alloc (.cells (cenA (.slice none 0 0) (.slice none 0 0) (.slice none 0 0) 0 0 0 0) 54))) := Lib.hid (H1.out.below hb)
            have hBl := H1.out.lt 0 rfl
            have hHeld2 : KS w [(w.heap.size, (cenA (.slice e.a es.length e.c) (.slice s.a sm.length s.c) (.slice a.a ap.length a.c) (om.1 : Int) (om.2 : Int) (nu.1 : Int) (nu.2 : Int)), 40)] (wn.alloc (.cells (cenA (.slice none 0 0) (.slice none 0 0) (.slice none 0 0) 0 0 0 0) 54)) := hHeld.below hb
            have hlt : w.heap.size + 1 < wn.heap.size := HLT.out
            have HS1 : Hid (SlP (wn.alloc (.cells (cenA (.slice none 0 0) (.slice none 0 0) (.slice none 0 0) 0 0 0 0) 54)) s1 sm ∧ (s1.a = none ∨ s1.a = some ⟨s1.b, s1.o, none⟩) ∧ (sm ≠ [] → w.heap.size + 1 < s1.b) ∧ (sm ≠ [] → s1.b ≠ wn.heap.size)) := Lib.hid ⟨HS1.out.1.below hb, HS1.out.2.1, HS1.out.2.2, fun h => by have := HS1.out.1.lt h; omega⟩
            have HA1 : Hid (SlP (wn.alloc (.cells (cenA (.slice none 0 0) (.slice none 0 0) (.slice none 0 0) 0 0 0 0) 54)) a1 ap ∧ (a1.a = none ∨ a1.a = some ⟨a1.b, a1.o, none⟩) ∧ (ap ≠ [] → w.heap.size + 1 < a1.b) ∧ (ap ≠ [] → a1.b ≠ wn.heap.size)) := Lib.hid ⟨HA1.out.1.below hb, HA1.out.2.1, HA1.out.2.2, fun h => by have := HA1.out.1.lt h; omega⟩
            generalize hX : (wn.alloc (.cells (cenA (.slice none 0 0) (.slice none 0 0) (.slice none 0 0) 0 0 0 0) 54)) = Wa at HBo H1 hHeld2 HS1 HA1 ⊢
            obtain ⟨Bo, hBo⟩ : ∃ Bo, Bo = wn.heap.size := ⟨_, rfl⟩
            rw [← hBo] at HBo HS1 HA1 hlt ⊢
            have HLT2 := Lib.hid hlt
            clear hBo hX hb hBl hlt
            refine hK.out _ _ hHeld2 (fun hHeld => ?_)
            clear hK K hHeld2
            (try simp only [Act.put]); (try simp only [List.setIfInBounds_toArray]); (try simp only [List.set_cons_succ]); (try simp only [List.set_cons_zero])
            refine wpAnyH_ready (rs := [14]) (by kernel_rfl) (by simp) ?_
            refine AllReadyH.cons rfl (fun K hK => ?_) (AllReadyH.nil)
            obtain ⟨q0, q1, q2, q3, q4, q5, q6⟩ := HBo.out.c7
            have f0 := HBo.out.frozen 0
            have f1 := HBo.out.frozen 1
            have f2 := HBo.out.frozen 2
            have f3 := HBo.out.frozen 3
            have f4 := HBo.out.frozen 4
            have f5 := HBo.out.frozen 5
            have f6 := HBo.out.frozen 6
            have g8 := HBo.out.lt
            go_simp
            clear q0 q1 q2 q3 q4 q5 q6 f0 f1 f2 f3 f4 f5 f6 g8
            have HF := Lib.hid (HBo.out.set7 (y0 := .slice none 0 0) (y1 := .slice s1.a sm.length s1.c) (y2 := .slice a1.a ap.length a1.c) (y3 := .int .i64 (om.1 : Int)) (y4 := .int .i64 (om.2 : Int)) (y5 := .int .i64 (nu.1 : Int)) (y6 := .int .i64 (nu.2 : Int)))
            have hk2 : KS w [(w.heap.size + 1, (cenA (.slice none 0 0) (.slice none 0 0) (.slice none 0 0) 0 0 0 0), 54), (w.heap.size, (cenA (.slice e.a es.length e.c) (.slice s.a sm.length s.c) (.slice a.a ap.length a.c) (om.1 : Int) (om.2 : Int) (nu.1 : Int) (nu.2 : Int)), 40)] _ := H1.out.kx (kx_set7 (b := Bo) (y0 := .slice none 0 0) (y1 := .slice s1.a sm.length s1.c) (y2 := .slice a1.a ap.length a1.c) (y3 := .int .i64 (om.1 : Int)) (y4 := .int .i64 (om.2 : Int)) (y5 := .int .i64 (nu.1 : Int)) (y6 := .int .i64 (nu.2 : Int))) (fun x hx => by have := HLT2.out; simp only [List.mem_cons, List.not_mem_nil, or_false] at hx; rcases hx with rfl | rfl <;> (intro e; simp only at e; omega)) (fun k e => by have := HLT2.out; omega)
            have HK2 := Lib.hid hk2
            clear hk2
            refine hK.out _ _ (HK2.out.sub (fun x hx => by simp only [List.mem_cons, List.not_mem_nil, or_false] at hx; subst hx; exact List.mem_cons_of_mem _ (List.mem_cons_self ..))) (fun hHeld => ?_)
            clear hK K
            (try simp only [Act.put]); (try simp only [List.setIfInBounds_toArray]); (try simp only [List.set_cons_succ]); (try simp only [List.set_cons_zero])
            refine wpAnyH_done (by kernel_rfl) ?_ _
            exact ⟨rfl, (Bo, s1, a1), rfl, HK2.out, HF.out, ⟨HS1.out.1.kx kx_set7 (fun h e => HS1.out.2.2.2 h e), HS1.out.2.1, HS1.out.2.2.1, HS1.out.2.2.2⟩, ⟨HA1.out.1.kx kx_set7 (fun h e => HA1.out.2.2.2 h e), HA1.out.2.1, HA1.out.2.2.1, HA1.out.2.2.2⟩, HLT2.out⟩
          · go_simp
            have HLT : Hid (w.heap.size + 1 < wn.heap.size) := Lib.hid (H1.out.lt 0 rfl)
            have hb : Below wn.heap.size wn (wn.alloc (.cells (cenA (.slice none 0 0) (.slice none 0 0) (.slice none 0 0) 0 0 0 0) 54)) := (Below.refl wn.heap.size wn).alloc (Nat.le_refl _) _
            have HBo : Hid (Blk (wn.alloc (.cells (cenA (.slice none 0 0) (.slice none 0 0) (.slice none 0 0) 0 0 0 0) 54)) wn.heap.size (cenA (.slice none 0 0) (.slice none 0 0) (.slice none 0 0) 0 0 0 0) 54) := Lib.hid (Blk.new _ _ _)
            have H1 : Hid (KS w [(w.heap.size + 1, (cenA (.slice none 0 0) (.slice none 0 0) (.slice none 0 0) 0 0 0 0), 54), (w.heap.size, (cenA (.slice e.a es.length e.c) (.slice s.a sm.length s.c) (.slice a.a ap.length a.c) (om.1 : Int) (om.2 : Int) (nu.1 : Int) (nu.2 : Int)), 40)] (wn.alloc (.cells (cenA (.slice none 0 0) (.slice none 0 0) (.slice none 0 0) 0 0 0 0) 54))) := Lib.hid (H1.out.below hb)
            have hBl := H1.out.lt 0 rfl
            have hHeld2 : KS w [(w.heap.size, (cenA (.slice e.a es.length e.c) (.slice s.a sm.length s.c) (.slice a.a ap.length a.c) (om.1 : Int) (om.2 : Int) (nu.1 : Int) (nu.2 : Int)), 40)] (wn.alloc (.cells (cenA (.slice none 0 0) (.slice none 0 0) (.slice none 0 0) 0 0 0 0) 54)) := hHeld.below hb
            have hlt : w.heap.size + 1 < wn.heap.size := HLT.out
            have HS1 : Hid (SlP (wn.alloc (.cells (cenA (.slice none 0 0) (.slice none 0 0) (.slice none 0 0) 0 0 0 0) 54)) s1 sm ∧ (s1.a = none ∨ s1.a = some ⟨s1.b, s1.o, none⟩) ∧ (sm ≠ [] → w.heap.size + 1 < s1.b) ∧ (sm ≠ [] → s1.b ≠ wn.heap.size)) := Lib.hid ⟨HS1.out.1.below hb, HS1.out.2.1, HS1.out.2.2, fun h => by have := HS1.out.1.lt h; omega⟩
            have HA1 : Hid (SlP (wn.alloc (.cells (cenA (.slice none 0 0) (.slice none 0 0) (.slice none 0 0) 0 0 0 0) 54)) a1 ap ∧ (a1.a = none ∨ a1.a = some ⟨a1.b, a1.o, none⟩) ∧ (ap ≠ [] → w.heap.size + 1 < a1.b) ∧ (ap ≠ [] → a1.b ≠ wn.heap.size)) := Lib.hid ⟨HA1.out.1.below hb, HA1.out.2.1, HA1.out.2.2, fun h => by have := HA1.out.1.lt h; omega⟩
            generalize hX : (wn.alloc (.cells (cenA (.slice none 0 0) (.slice none 0 0) (.slice none 0 0) 0 0 0 0) 54)) = Wa at HBo H1 hHeld2 HS1 HA1 ⊢
            obtain ⟨Bo, hBo⟩ : ∃ Bo, Bo = wn.heap.size := ⟨_, rfl⟩
            rw [← hBo] at HBo HS1 HA1 hlt ⊢
            have HLT2 := Lib.hid hlt
            clear hBo hX hb hBl hlt
            refine hK.out _ _ hHeld2 (fun hHeld => ?_)
            clear hK K hHeld2
            (try simp only [Act.put]); (try simp only [List.setIfInBounds_toArray]); (try simp only [List.set_cons_succ]); (try simp only [List.set_cons_zero])
            refine wpAnyH_ready (rs := [11]) (by kernel_rfl) (by simp) ?_
            refine AllReadyH.cons rfl (fun K hK => ?_) (AllReadyH.nil)
            go_simp
            refine (TN.out _).mono ?_
            rintro x wn ⟨rfl, hb⟩
            have HS1 := Lib.hid (And.intro (HS1.out.1.below hb) HS1.out.2)
            have HA1 := Lib.hid (And.intro (HA1.out.1.below hb) HA1.out.2)
            have H1 := Lib.hid (H1.out.below hb)
            have HBo := Lib.hid (HBo.out.b hb)
            refine hK.out _ _ (hHeld.below hb) (fun hHeld => ?_)
            clear hK K hb
            (try simp only [Act.put]); (try simp only [List.setIfInBounds_toArray]); (try simp only [List.set_cons_succ]); (try simp only [List.set_cons_zero])
            refine wpAnyH_take (i := 12) (v := ?_) rfl (by kernel_rfl) (by kernel_rfl) (by kernel_rfl) (fun _ _ _ h => (by cases h.1)) (Or.inl ⟨by rfl, ?h12⟩) hHeld ?_
            case h12 =>
              intro w' hSw
              (try dsimp only at hSw)
              go_simp
              (try with_reducible rfl)
            (try simp only [Act.put]); (try simp only [List.setIfInBounds_toArray]); (try simp only [List.set_cons_succ]); (try simp only [List.set_cons_zero])
            refine wpAnyH_ready (rs := [14]) (by kernel_rfl) (by simp) ?_
            refine AllReadyH.cons rfl (fun K hK => ?_) (AllReadyH.nil)
            obtain ⟨q0, q1, q2, q3, q4, q5, q6⟩ := HBo.out.c7
            have f0 := HBo.out.frozen 0
            have f1 := HBo.out.frozen 1
            have f2 := HBo.out.frozen 2
            have f3 := HBo.out.frozen 3
            have f4 := HBo.out.frozen 4
            have f5 := HBo.out.frozen 5
            have f6 := HBo.out.frozen 6
            have g8 := HBo.out.lt
            go_simp
            clear q0 q1 q2 q3 q4 q5 q6 f0 f1 f2 f3 f4 f5 f6 g8
            have HF := Lib.hid (HBo.out.set7 (y0 := .slice none 0 0) (y1 := .slice s1.a sm.length s1.c) (y2 := .slice a1.a ap.length a1.c) (y3 := .int .i64 (om.1 : Int)) (y4 := .int .i64 (om.2 : Int)) (y5 := .int .i64 (nu.1 : Int)) (y6 := .int .i64 (nu.2 : Int)))
            have hk2 : KS w [(w.heap.size + 1, (cenA (.slice none 0 0) (.slice none 0 0) (.slice none 0 0) 0 0 0 0), 54), (w.heap.size, (cenA (.slice e.a es.length e.c) (.slice s.a sm.length s.c) (.slice a.a ap.length a.c) (om.1 : Int) (om.2 : Int) (nu.1 : Int) (nu.2 : Int)), 40)] _ := H1.out.kx (kx_set7 (b := Bo) (y0 := .slice none 0 0) (y1 := .slice s1.a sm.length s1.c) (y2 := .slice a1.a ap.length a1.c) (y3 := .int .i64 (om.1 : Int)) (y4 := .int .i64 (om.2 : Int)) (y5 := .int .i64 (nu.1 : Int)) (y6 := .int .i64 (nu.2 : Int))) (fun x hx => by have := HLT2.out; simp only [List.mem_cons, List.not_mem_nil, or_false] at hx; rcases hx with rfl | rfl <;> (intro e; simp only at e; omega)) (fun k e => by have := HLT2.out; omega)
            have HK2 := Lib.hid hk2
            clear hk2
            refine hK.out _ _ (HK2.out.sub (fun x hx => by simp only [List.mem_cons, List.not_mem_nil, or_false] at hx; subst hx; exact List.mem_cons_of_mem _ (List.mem_cons_self ..))) (fun hHeld => ?_)
            clear hK K
            (try simp only [Act.put]); (try simp only [List.setIfInBounds_toArray]); (try simp only [List.set_cons_succ]); (try simp only [List.set_cons_zero])
            refine wpAnyH_done (by kernel_rfl) ?_ _
            exact ⟨rfl, (Bo, s1, a1), rfl, HK2.out, HF.out, ⟨HS1.out.1.kx kx_set7 (fun h e => HS1.out.2.2.2 h e), HS1.out.2.1, HS1.out.2.2.1, HS1.out.2.2.2⟩, ⟨HA1.out.1.kx kx_set7 (fun h e => HA1.out.2.2.2 h e), HA1.out.2.1, HA1.out.2.2.1, HA1.out.2.2.2⟩, HLT2.out⟩
        · go_simp
          have HLT : Hid (w.heap.size + 1 < wn.heap.size) := Lib.hid (H1.out.lt 0 rfl)
          have hb : Below wn.heap.size wn (wn.alloc (.cells (cenA (.slice none 0 0) (.slice none 0 0) (.slice none 0 0) 0 0 0 0) 54)) := (Below.refl wn.heap.size wn).alloc (Nat.le_refl _) _
          have HBo : Hid (Blk (wn.alloc (.cells (cenA (.slice none 0 0) (.slice none 0 0) (.slice none 0 0) 0 0 0 0) 54)) wn.heap.size (cenA (.slice none 0 0) (.slice none 0 0) (.slice none 0 0) 0 0 0 0) 54) := Lib.hid (Blk.new _ _ _)
          have H1 : Hid (KS w [(w.heap.size + 1, (cenA (.slice none 0 0) (.slice none 0 0) (.slice none 0 0) 0 0 0 0), 54), (w.heap.size, (cenA (.slice e.a es.length e.c) (.slice s.a sm.length s.c) (.slice a.a ap.length a.c) (om.1 : Int) (om.2 : Int) (nu.1 : Int) (nu.2 : Int)), 40)] (wn.alloc (.cells (cenA (.slice none 0 0) (.slice none 0 0) (.slice none 0 0) 0 0 0 0) 54))) := Lib.hid (H1.out.below hb)
          have hBl := H1.out.lt 0 rfl
          have hHeld2 : KS w [(w.heap.size, (cenA (.slice e.a es.length e.c) (.slice s.a sm.length s.c) (.slice a.a ap.length a.c) (om.1 : Int) (om.2 : Int) (nu.1 : Int) (nu.2 : Int)), 40)] (wn.alloc (.cells (cenA (.slice none 0 0) (.slice none 0 0) (.slice none 0 0) 0 0 0 0) 54)) := hHeld.below hb
          have hlt : w.heap.size + 1 < wn.heap.size := HLT.out
          have HS1 : Hid (SlP (wn.alloc (.cells (cenA (.slice none 0 0) (.slice none 0 0) (.slice none 0 0) 0 0 0 0) 54)) s1 sm ∧ (s1.a = none ∨ s1.a = some ⟨s1.b, s1.o, none⟩) ∧ (sm ≠ [] → w.heap.size + 1 < s1.b) ∧ (sm ≠ [] → s1.b ≠ wn.heap.size)) := Lib.hid ⟨HS1.out.1.below hb, HS1.out.2.1, HS1.out.2.2, fun h => by have := HS1.out.1.lt h; omega⟩
          have HA1 : Hid (SlP (wn.alloc (.cells (cenA (.slice none 0 0) (.slice none 0 0) (.slice none 0 0) 0 0 0 0) 54)) a1 ap ∧ (a1.a = none ∨ a1.a = some ⟨a1.b, a1.o, none⟩) ∧ (ap ≠ [] → w.heap.size + 1 < a1.b) ∧ (ap ≠ [] → a1.b ≠ wn.heap.size)) := Lib.hid ⟨HA1.out.1.below hb, HA1.out.2.1, HA1.out.2.2, fun h => by have := HA1.out.1.lt h; omega⟩
          generalize hX : (wn.alloc (.cells (cenA (.slice none 0 0) (.slice none 0 0) (.slice none 0 0) 0 0 0 0) 54)) = Wa at HBo H1 hHeld2 HS1 HA1 ⊢
          obtain ⟨Bo, hBo⟩ : ∃ Bo, Bo = wn.heap.size := ⟨_, rfl⟩
          rw [← hBo] at HBo HS1 HA1 hlt ⊢
          have HLT2 := Lib.hid hlt
          clear hBo hX hb hBl hlt
          refine hK.out _ _ hHeld2 (fun hHeld => ?_)
          clear hK K hHeld2
          (try simp only [Act.put]); (try simp only [List.setIfInBounds_toArray]); (try simp only [List.set_cons_succ]); (try simp only [List.set_cons_zero])
          refine wpAnyH_ready (rs := [8]) (by kernel_rfl) (by simp) ?_
          refine AllReadyH.cons rfl (fun K hK => ?_) (AllReadyH.nil)
          go_simp
          refine (TO.out _).mono ?_
          rintro x wn ⟨rfl, hb⟩
          have HS1 := Lib.hid (And.intro (HS1.out.1.below hb) HS1.out.2)
          have HA1 := Lib.hid (And.intro (HA1.out.1.below hb) HA1.out.2)
          have H1 := Lib.hid (H1.out.below hb)
          have HBo := Lib.hid (HBo.out.b hb)
          refine hK.out _ _ (hHeld.below hb) (fun hHeld => ?_)
          clear hK K hb
          (try simp only [Act.put]); (try simp only [List.setIfInBounds_toArray]); (try simp only [List.set_cons_succ]); (try simp only [List.set_cons_zero])
          refine wpAnyH_ready (rs := [11]) (by kernel_rfl) (by simp) ?_
          refine AllReadyH.cons rfl (fun K hK => ?_) (AllReadyH.nil)
          go_simp
          refine (TN.out _).mono ?_
          rintro x wn ⟨rfl, hb⟩
          have HS1 := Lib.hid (And.intro (HS1.out.1.below hb) HS1.out.2)
          have HA1 := Lib.hid (And.intro (HA1.out.1.below hb) HA1.out.2)
          have H1 := Lib.hid (H1.out.below hb)
          have HBo := Lib.hid (HBo.out.b hb)
          refine hK.out _ _ (hHeld.below hb) (fun hHeld => ?_)
          clear hK K hb
          (try simp only [Act.put]); (try simp only [List.setIfInBounds_toArray]); (try simp only [List.set_cons_succ]); (try simp only [List.set_cons_zero])
          refine wpAnyH_take (i := 12) (v := ?_) rfl (by kernel_rfl) (by kernel_rfl) (by kernel_rfl) (fun _ _ _ h => (by cases h.1)) (Or.inl ⟨by rfl, ?h12⟩) hHeld ?_
          case h12 =>
            intro w' hSw
            (try dsimp only at hSw)
            go_simp
            (try with_reducible rfl)
          (try simp only [Act.put]); (try simp only [List.setIfInBounds_toArray]); (try simp only [List.set_cons_succ]); (try simp only [List.set_cons_zero])
          refine wpAnyH_ready (rs := [14]) (by kernel_rfl) (by simp) ?_
          refine AllReadyH.cons rfl (fun K hK => ?_) (AllReadyH.nil)
          obtain ⟨q0, q1, q2, q3, q4, q5, q6⟩ := HBo.out.c7
          have f0 := HBo.out.frozen 0
          have f1 := HBo.out.frozen 1
          have f2 := HBo.out.frozen 2
          have f3 := HBo.out.frozen 3
          have f4 := HBo.out.frozen 4
          have f5 := HBo.out.frozen 5
          have f6 := HBo.out.frozen 6
          have g8 := HBo.out.lt
          go_simp
          clear q0 q1 q2 q3 q4 q5 q6 f0 f1 f2 f3 f4 f5 f6 g8
          have HF := Lib.hid (HBo.out.set7 (y0 := .slice none 0 0) (y1 := .slice s1.a sm.length s1.c) (y2 := .slice a1.a ap.length a1.c) (y3 := .int .i64 (om.1 : Int)) (y4 := .int .i64 (om.2 : Int)) (y5 := .int .i64 (nu.1 : Int)) (y6 := .int .i64 (nu.2 : Int)))
          have hk2 : KS w [(w.heap.size + 1, (cenA (.slice none 0 0) (.slice none 0 0) (.slice none 0 0) 0 0 0 0), 54), (w.heap.size, (cenA (.slice e.a es.length e.c) (.slice s.a sm.length s.c) (.slice a.a ap.length a.c) (om.1 : Int) (om.2 : Int) (nu.1 : Int) (nu.2 : Int)), 40)] _ := H1.out.kx (kx_set7 (b := Bo) (y0 := .slice none 0 0) (y1 := .slice s1.a sm.length s1.c) (y2 := .slice a1.a ap.length a1.c) (y3 := .int .i64 (om.1 : Int)) (y4 := .int .i64 (om.2 : Int)) (y5 := .int .i64 (nu.1 : Int)) (y6 := .int .i64 (nu.2 : Int))) (fun x hx => by have := HLT2.out; simp only [List.mem_cons, List.not_mem_nil, or_false] at hx; rcases hx with rfl | rfl <;> (intro e; simp only at e; omega)) (fun k e => by have := HLT2.out; omega)
          have HK2 := Lib.hid hk2
          clear hk2
          refine hK.out _ _ (HK2.out.sub (fun x hx => by simp only [List.mem_cons, List.not_mem_nil, or_false] at hx; subst hx; exact List.mem_cons_of_mem _ (List.mem_cons_self ..))) (fun hHeld => ?_)
          clear hK K
          (try simp only [Act.put]); (try simp only [List.setIfInBounds_toArray]); (try simp only [List.set_cons_succ]); (try simp only [List.set_cons_zero])
          refine wpAnyH_done (by kernel_rfl) ?_ _
          exact ⟨rfl, (Bo, s1, a1), rfl, HK2.out, HF.out, ⟨HS1.out.1.kx kx_set7 (fun h e => HS1.out.2.2.2 h e), HS1.out.2.1, HS1.out.2.2.1, HS1.out.2.2.2⟩, ⟨HA1.out.1.kx kx_set7 (fun h e => HA1.out.2.2.2 h e), HA1.out.2.1, HA1.out.2.2.1, HA1.out.2.2.2⟩, HLT2.out⟩
      · go_simp
        have HLT : Hid (w.heap.size + 1 < wn.heap.size) := Lib.hid (H1.out.lt 0 rfl)
        have hb : Below wn.heap.size wn (wn.alloc (.cells (cenA (.slice none 0 0) (.slice none 0 0) (.slice none 0 0) 0 0 0 0) 54)) := (Below.refl wn.heap.size wn).alloc (Nat.le_refl _) _
        have HBo : Hid (Blk (wn.alloc (.cells (cenA (.slice none 0 0) (.slice none 0 0) (.slice none 0 0) 0 0 0 0) 54)) wn.heap.size (cenA (.slice none 0 0) (.slice none 0 0) (.slice none 0 0) 0 0 0 0) 54) := Lib.hid (Blk.new _ _ _)
        have H1 : Hid (KS w [(w.heap.size + 1, (cenA (.slice none 0 0) (.slice none 0 0) (.slice none 0 0) 0 0 0 0), 54), (w.heap.size, (cenA (.slice e.a es.length e.c) (.slice s.a sm.length s.c) (.slice a.a ap.length a.c) (om.1 : Int) (om.2 : Int) (nu.1 : Int) (nu.2 : Int)), 40)] (wn.alloc (.cells (cenA (.slice none 0 0) (.slice none 0 0) (.slice none 0 0) 0 0 0 0) 54))) := Lib.hid (H1.out.below hb)
        have hBl := H1.out.lt 0 rfl
        have hHeld2 : KS w [(w.heap.size, (cenA (.slice e.a es.length e.c) (.slice s.a sm.length s.c) (.slice a.a ap.length a.c) (om.1 : Int) (om.2 : Int) (nu.1 : Int) (nu.2 : Int)), 40)] (wn.alloc (.cells (cenA (.slice none 0 0) (.slice none 0 0) (.slice none 0 0) 0 0 0 0) 54)) := hHeld.below hb
        have hlt : w.heap.size + 1 < wn.heap.size := HLT.out
        have HS1 : Hid (SlP (wn.alloc (.cells (cenA (.slice none 0 0) (.slice none 0 0) (.slice none 0 0) 0 0 0 0) 54)) s1 sm ∧ (s1.a = none ∨ s1.a = some ⟨s1.b, s1.o, none⟩) ∧ (sm ≠ [] → w.heap.size + 1 < s1.b) ∧ (sm ≠ [] → s1.b ≠ wn.heap.size)) := Lib.hid ⟨HS1.out.1.below hb, HS1.out.2.1, HS1.out.2.2, fun h => by have := HS1.out.1.lt h; omega⟩
        generalize hX : (wn.alloc (.cells (cenA (.slice none 0 0) (.slice none 0 0) (.slice none 0 0) 0 0 0 0) 54)) = Wa at HBo H1 hHeld2 HS1 ⊢
        obtain ⟨Bo, hBo⟩ : ∃ Bo, Bo = wn.heap.size := ⟨_, rfl⟩
        rw [← hBo] at HBo HS1 hlt ⊢
        have HLT2 := Lib.hid hlt
        clear hBo hX hb hBl hlt
        refine hK.out _ _ hHeld2 (fun hHeld => ?_)
        clear hK K hHeld2
        (try simp only [Act.put]); (try simp only [List.setIfInBounds_toArray]); (try simp only [List.set_cons_succ]); (try simp only [List.set_cons_zero])
        refine wpAnyH_ready (rs := [5]) (by kernel_rfl) (by simp) ?_
        refine AllReadyH.cons rfl (fun K hK => ?_) (AllReadyH.nil)
        go_simp
        have hlow := H1.out.lt 0 rfl
        have hbo := HBo.out.lt
        refine (PA.out _ H1.out.bel).mono ?_
        rintro x wn ⟨v1, rfl, hown, hb⟩
        obtain ⟨a1, rfl, hsl, hfm, hge⟩ := own_slp2 hown
        have HS1 := Lib.hid (And.intro (HS1.out.1.below hb) HS1.out.2)
        have HA1 : Hid (SlP wn a1 ap ∧ (a1.a = none ∨ a1.a = some ⟨a1.b, a1.o, none⟩) ∧ (ap ≠ [] → w.heap.size + 1 < a1.b) ∧ (ap ≠ [] → a1.b ≠ Bo)) := Lib.hid ⟨hsl, hfm, fun h => by have := hge h; omega, fun h => by have := hge h; omega⟩
        clear hown hsl hfm hge hlow hbo
        have H1 := Lib.hid (H1.out.below hb)
        have HBo := Lib.hid (HBo.out.b hb)
        refine hK.out _ _ (hHeld.below hb) (fun hHeld => ?_)
        clear hK K hb
        (try simp only [Act.put]); (try simp only [List.setIfInBounds_toArray]); (try simp only [List.set_cons_succ]); (try simp only [List.set_cons_zero])
        refine wpAnyH_ready (rs := [8]) (by kernel_rfl) (by simp) ?_
        refine AllReadyH.cons rfl (fun K hK => ?_) (AllReadyH.nil)
        go_simp
        refine (TO.out _).mono ?_
        rintro x wn ⟨rfl, hb⟩
        have HS1 := Lib.hid (And.intro (HS1.out.1.below hb) HS1.out.2)
        have HA1 := Lib.hid (And.intro (HA1.out.1.below hb) HA1.out.2)
        have H1 := Lib.hid (H1.out.below hb)
        have HBo := Lib.hid (HBo.out.b hb)
        refine hK.out _ _ (hHeld.below hb) (fun hHeld => ?_)
        clear hK K hb
        (try simp only [Act.put]); (try simp only [List.setIfInBounds_toArray]); (try simp only [List.set_cons_succ]); (try simp only [List.set_cons_zero])
        refine wpAnyH_ready (rs := [11]) (by kernel_rfl) (by simp) ?_
        refine AllReadyH.cons rfl (fun K hK => ?_) (AllReadyH.nil)
        go_simp
        refine (TN.out _).mono ?_
        rintro x wn ⟨rfl, hb⟩
        have HS1 := Lib.hid (And.intro (HS1.out.1.below hb) HS1.out.2)
        have HA1 := Lib.hid (And.intro (HA1.out.1.below hb) HA1.out.2)
        have H1 := Lib.hid (H1.out.below hb)
        have HBo := Lib.hid (HBo.out.b hb)
        refine hK.out _ _ (hHeld.below hb) (fun hHeld => ?_)
        clear hK K hb
        (try simp only [Act.put]); (try simp only [List.setIfInBounds_toArray]); (try simp only [List.set_cons_succ]); (try simp only [List.set_cons_zero])
        refine wpAnyH_take (i := 12) (v := ?_) rfl (by kernel_rfl) (by kernel_rfl) (by kernel_rfl) (fun _ _ _ h => (by cases h.1)) (Or.inl ⟨by rfl, ?h12⟩) hHeld ?_
        case h12 =>
          intro w' hSw
          (try dsimp only at hSw)
          go_simp
          (try with_reducible rfl)
        (try simp only [Act.put]); (try simp only [List.setIfInBounds_toArray]); (try simp only [List.set_cons_succ]); (try simp only [List.set_cons_zero])
        refine wpAnyH_ready (rs := [14]) (by kernel_rfl) (by simp) ?_
        refine AllReadyH.cons rfl (fun K hK => ?_) (AllReadyH.nil)
        obtain ⟨q0, q1, q2, q3, q4, q5, q6⟩ := HBo.out.c7
        have f0 := HBo.out.frozen 0
        have f1 := HBo.out.frozen 1
        have f2 := HBo.out.frozen 2
        have f3 := HBo.out.frozen 3
        have f4 := HBo.out.frozen 4
        have f5 := HBo.out.frozen 5
        have f6 := HBo.out.frozen 6
        have g8 := HBo.out.lt
        go_simp
        clear q0 q1 q2 q3 q4 q5 q6 f0 f1 f2 f3 f4 f5 f6 g8
        have HF := Lib.hid (HBo.out.set7 (y0 := .slice none 0 0) (y1 := .slice s1.a sm.length s1.c) (y2 := .slice a1.a ap.length a1.c) (y3 := .int .i64 (om.1 : Int)) (y4 := .int .i64 (om.2 : Int)) (y5 := .int .i64 (nu.1 : Int)) (y6 := .int .i64 (nu.2 : Int)))
        have hk2 : KS w [(w.heap.size + 1, (cenA (.slice none 0 0) (.slice none 0 0) (.slice none 0 0) 0 0 0 0), 54), (w.heap.size, (cenA (.slice e.a es.length e.c) (.slice s.a sm.length s.c) (.slice a.a ap.length a.c) (om.1 : Int) (om.2 : Int) (nu.1 : Int) (nu.2 : Int)), 40)] _ := H1.out.kx (kx_set7 (b := Bo) (y0 := .slice none 0 0) (y1 := .slice s1.a sm.length s1.c) (y2 := .slice a1.a ap.length a1.c) (y3 := .int .i64 (om.1 : Int)) (y4 := .int .i64 (om.2 : Int)) (y5 := .int .i64 (nu.1 : Int)) (y6 := .int .i64 (nu.2 : Int))) (fun x hx => by have := HLT2.out; simp only [List.mem_cons, List.not_mem_nil, or_false] at hx; rcases hx with rfl | rfl <;> (intro e; simp only at e; omega)) (fun k e => by have := HLT2.out; omega)
        have HK2 := Lib.hid hk2
        clear hk2
        refine hK.out _ _ (HK2.out.sub (fun x hx => by simp only [List.mem_cons, List.not_mem_nil, or_false] at hx; subst hx; exact List.mem_cons_of_mem _ (List.mem_cons_self ..))) (fun hHeld => ?_)
        clear hK K
        (try simp only [Act.put]); (try simp only [List.setIfInBounds_toArray]); (try simp only [List.set_cons_succ]); (try simp only [List.set_cons_zero])
        refine wpAnyH_done (by kernel_rfl) ?_ _
        exact ⟨rfl, (Bo, s1, a1), rfl, HK2.out, HF.out, ⟨HS1.out.1.kx kx_set7 (fun h e => HS1.out.2.2.2 h e), HS1.out.2.1, HS1.out.2.2.1, HS1.out.2.2.2⟩, ⟨HA1.out.1.kx kx_set7 (fun h e => HA1.out.2.2.2 h e), HA1.out.2.1, HA1.out.2.2.1, HA1.out.2.2.2⟩, HLT2.out⟩
    · go_simp
      have HLT : Hid (w.heap.size + 1 < W3.drew.heap.size) := Lib.hid (H1.out.lt 0 rfl)
      have hb : Below W3.drew.heap.size W3.drew (W3.alloc (.cells (cenA (.slice none 0 0) (.slice none 0 0) (.slice none 0 0) 0 0 0 0) 54)).drew := (Below.refl W3.drew.heap.size W3.drew).alloc (Nat.le_refl _) _
      have HBo : Hid (Blk (W3.alloc (.cells (cenA (.slice none 0 0) (.slice none 0 0) (.slice none 0 0) 0 0 0 0) 54)).drew W3.heap.size (cenA (.slice none 0 0) (.slice none 0 0) (.slice none 0 0) 0 0 0 0) 54) := Lib.hid ((Blk.new _ _ _).drew)
      have H1 : Hid (KS w [(w.heap.size + 1, (cenA (.slice none 0 0) (.slice none 0 0) (.slice none 0 0) 0 0 0 0), 54), (w.heap.size, (cenA (.slice e.a es.length e.c) (.slice s.a sm.length s.c) (.slice a.a ap.length a.c) (om.1 : Int) (om.2 : Int) (nu.1 : Int) (nu.2 : Int)), 40)] (W3.alloc (.cells (cenA (.slice none 0 0) (.slice none 0 0) (.slice none 0 0) 0 0 0 0) 54)).drew) := Lib.hid (H1.out.below hb)
      have hBl := H1.out.lt 0 rfl
      have hHeld2 : KS w [(w.heap.size, (cenA (.slice e.a es.length e.c) (.slice s.a sm.length s.c) (.slice a.a ap.length a.c) (om.1 : Int) (om.2 : Int) (nu.1 : Int) (nu.2 : Int)), 40)] (W3.alloc (.cells (cenA (.slice none 0 0) (.slice none 0 0) (.slice none 0 0) 0 0 0 0) 54)).drew := hHeld.below hb
      have hlt : w.heap.size + 1 < W3.heap.size := HLT.out
      generalize hX : (W3.alloc (.cells (cenA (.slice none 0 0) (.slice none 0 0) (.slice none 0 0) 0 0 0 0) 54)).drew = Wa at HBo H1 hHeld2 ⊢
      obtain ⟨Bo, hBo⟩ : ∃ Bo, Bo = W3.heap.size := ⟨_, rfl⟩
      rw [← hBo] at HBo hlt ⊢
      have HLT2 := Lib.hid hlt
      clear hBo hX hb hBl hlt
      refine hK.out _ _ hHeld2 (fun hHeld => ?_)
      clear hK K hHeld2
      (try simp only [Act.put]); (try simp only [List.setIfInBounds_toArray]); (try simp only [List.set_cons_succ]); (try simp only [List.set_cons_zero])
      refine wpAnyH_ready (rs := [2]) (by kernel_rfl) (by simp) ?_
      refine AllReadyH.cons rfl (fun K hK => ?_) (AllReadyH.nil)
      go_simp
      have hlow := H1.out.lt 0 rfl
      have hbo := HBo.out.lt
      refine (PS.out _ H1.out.bel).mono ?_
      rintro x wn ⟨v1, rfl, hown, hb⟩
      obtain ⟨s1, rfl, hsl, hfm, hge⟩ := own_slp2 hown
      have HS1 : Hid (SlP wn s1 sm ∧ (s1.a = none ∨ s1.a = some ⟨s1.b, s1.o, none⟩) ∧ (sm ≠ [] → w.heap.size + 1 < s1.b) ∧ (sm ≠ [] → s1.b ≠ Bo)) := Lib.hid ⟨hsl, hfm, fun h => by have := hge h; omega, fun h => by have := hge h; omega⟩
      clear hown hsl hfm hge hlow hbo
      have H1 := Lib.hid (H1.out.below hb)
      have HBo := Lib.hid (HBo.out.b hb)
      refine hK.out _ _ (hHeld.below hb) (fun hHeld => ?_)
      clear hK K hb
      (try simp only [Act.put]); (try simp only [List.setIfInBounds_toArray]); (try simp only [List.set_cons_succ]); (try simp only [List.set_cons_zero])
      refine wpAnyH_ready (rs := [5]) (by kernel_rfl) (by simp) ?_
      refine AllReadyH.cons rfl (fun K hK => ?_) (AllReadyH.nil)
      go_simp
      have hlow := H1.out.lt 0 rfl
      have hbo := HBo.out.lt
      refine (PA.out _ H1.out.bel).mono ?_
      rintro x wn ⟨v1, rfl, hown, hb⟩
      obtain ⟨a1, rfl, hsl, hfm, hge⟩ := own_slp2 hown
      have HS1 := Lib.hid (And.intro (HS1.out.1.below hb) HS1.out.2)
      have HA1 : Hid (SlP wn a1 ap ∧ (a1.a = none ∨ a1.a = some ⟨a1.b, a1.o, none⟩) ∧ (ap ≠ [] → w.heap.size + 1 < a1.b) ∧ (ap ≠ [] → a1.b ≠ Bo)) := Lib.hid ⟨hsl, hfm, fun h => by have := hge h; omega, fun h => by have := hge h; omega⟩
      clear hown hsl hfm hge hlow hbo
      have H1 := Lib.hid (H1.out.below hb)
      have HBo := Lib.hid (HBo.out.b hb)
      refine hK.out _ _ (hHeld.below hb) (fun hHeld => ?_)
      clear hK K hb
      (try simp only [Act.put]); (try simp only [List.setIfInBounds_toArray]); (try simp only [List.set_cons_succ]); (try simp only [List.set_cons_zero])
      refine wpAnyH_ready (rs := [8]) (by kernel_rfl) (by simp) ?_
      refine AllReadyH.cons rfl (fun K hK => ?_) (AllReadyH.nil)
      go_simp
      refine (TO.out _).mono ?_
      rintro x wn ⟨rfl, hb⟩
      have HS1 := Lib.hid (And.intro (HS1.out.1.below hb) HS1.out.2)
      have HA1 := Lib.hid (And.intro (HA1.out.1.below hb) HA1.out.2)
      have H1 := Lib.hid (H1.out.below hb)
      have HBo := Lib.hid (HBo.out.b hb)
      refine hK.out _ _ (hHeld.below hb) (fun hHeld => ?_)
      clear hK K hb
      (try simp only [Act.put]); (try simp only [List.setIfInBounds_toArray]); (try simp only [List.set_cons_succ]); (try simp only [List.set_cons_zero])
      refine wpAnyH_ready (rs := [11]) (by kernel_rfl) (by simp) ?_
      refine AllReadyH.cons rfl (fun K hK => ?_) (AllReadyH.nil)
      go_simp
      refine (TN.out _).mono ?_
      rintro x wn ⟨rfl, hb⟩
      have HS1 := Lib.hid (And.intro (HS1.out.1.below hb) HS1.out.2)
      have HA1 := Lib.hid (And.intro (HA1.out.1.below hb) HA1.out.2)
      have H1 := Lib.hid (H1.out.below hb)
      have HBo := Lib.hid (HBo.out.b hb)
      refine hK.out _ _ (hHeld.below hb) (fun hHeld => ?_)
      clear hK K hb
      (try simp only [Act.put]); (try simp only [List.setIfInBounds_toArray]); (try simp only [List.set_cons_succ]); (try simp only [List.set_cons_zero])
      refine wpAnyH_take (i := 12) (v := ?_) rfl (by kernel_rfl) (by kernel_rfl) (by kernel_rfl) (fun _ _ _ h => (by cases h.1)) (Or.inl ⟨by rfl, ?h12⟩) hHeld ?_
      case h12 =>
        intro w' hSw
        (try dsimp only at hSw)
        go_simp
        (try with_reducible rfl)
      (try simp only [Act.put]); (try simp only [List.setIfInBounds_toArray]); (try simp only [List.set_cons_succ]); (try simp only [List.set_cons_zero])
      refine wpAnyH_ready (rs := [14]) (by kernel_rfl) (by simp) ?_
      refine AllReadyH.cons rfl (fun K hK => ?_) (AllReadyH.nil)
      obtain ⟨q0, q1, q2, q3, q4, q5, q6⟩ := HBo.out.c7
      have f0 := HBo.out.frozen 0
      have f1 := HBo.out.frozen 1
      have f2 := HBo.out.frozen 2
      have f3 := HBo.out.frozen 3
      have f4 := HBo.out.frozen 4
      have f5 := HBo.out.frozen 5
      have f6 := HBo.out.frozen 6
      have g8 := HBo.out.lt
      go_simp
      clear q0 q1 q2 q3 q4 q5 q6 f0 f1 f2 f3 f4 f5 f6 g8
      have HF := Lib.hid (HBo.out.set7 (y0 := .slice none 0 0) (y1 := .slice s1.a sm.length s1.c) (y2 := .slice a1.a ap.length a1.c) (y3 := .int .i64 (om.1 : Int)) (y4 := .int .i64 (om.2 : Int)) (y5 := .int .i64 (nu.1 : Int)) (y6 := .int .i64 (nu.2 : Int)))
      have hk2 : KS w [(w.heap.size + 1, (cenA (.slice none 0 0) (.slice none 0 0) (.slice none 0 0) 0 0 0 0), 54), (w.heap.size, (cenA (.slice e.a es.length e.c) (.slice s.a sm.length s.c) (.slice a.a ap.length a.c) (om.1 : Int) (om.2 : Int) (nu.1 : Int) (nu.2 : Int)), 40)] _ := H1.out.kx (kx_set7 (b := Bo) (y0 := .slice none 0 0) (y1 := .slice s1.a sm.length s1.c) (y2 := .slice a1.a ap.length a1.c) (y3 := .int .i64 (om.1 : Int)) (y4 := .int .i64 (om.2 : Int)) (y5 := .int .i64 (nu.1 : Int)) (y6 := .int .i64 (nu.2 : Int))) (fun x hx => by have := HLT2.out; simp only [List.mem_cons, List.not_mem_nil, or_false] at hx; rcases hx with rfl | rfl <;> (intro e; simp only at e; omega)) (fun k e => by have := HLT2.out; omega)
      have HK2 := Lib.hid hk2
      clear hk2
      refine hK.out _ _ (HK2.out.sub (fun x hx => by simp only [List.mem_cons, List.not_mem_nil, or_false] at hx; subst hx; exact List.mem_cons_of_mem _ (List.mem_cons_self ..))) (fun hHeld => ?_)
      clear hK K
      (try simp only [Act.put]); (try simp only [List.setIfInBounds_toArray]); (try simp only [List.set_cons_succ]); (try simp only [List.set_cons_zero])
      refine wpAnyH_done (by kernel_rfl) ?_ _
      exact ⟨rfl, (Bo, s1, a1), rfl, HK2.out, HF.out, ⟨HS1.out.1.kx kx_set7 (fun h e => HS1.out.2.2.2 h e), HS1.out.2.1, HS1.out.2.2.1, HS1.out.2.2.2⟩, ⟨HA1.out.1.kx kx_set7 (fun h e => HA1.out.2.2.2 h e), HA1.out.2.1, HA1.out.2.2.1, HA1.out.2.2.2⟩, HLT2.out⟩
  rintro ⟨Bo, s1, a1⟩ W1 ⟨hk, hbo, hs1, ha1, hlo⟩
  dsimp only at hbo hs1 ha1 hlo ⊢
  have HK := Lib.hid hk
  have HB := Lib.hid hbo
  have HS1 := Lib.hid hs1
  have HA1 := Lib.hid ha1
  have HLO := Lib.hid hlo
  clear hk hbo hs1 ha1 hlo hS H1 c0 c1 c2 c3 c4 c5 c6 cl PS PA TN TO
  simp only [Act.put, List.setIfInBounds_toArray, List.set_cons_zero, List.set_cons_succ]
  go_wp2_with fail
  have HBL := Lib.hid HB.out.lt
  have H0 : Hid (CI W1 Bo (.slice s1.a sm.length s1.c) (.slice a1.a ap.length a1.c) (om.1 : Int) (om.2 : Int) (nu.1 : Int) (nu.2 : Int) (.slice none 0 0) [] W1) := Lib.hid ⟨Kx.refl _ _, HB.out, ⟨rfl, .inl ⟨rfl, rfl⟩⟩⟩
  go_loopw [4] (fun x wr => ∃ (i : Nat) (v : Value), i ≤ es.length ∧ x = .int .i64 (i : Int) ∧ Hid (CI W1 Bo (.slice s1.a sm.length s1.c) (.slice a1.a ap.length a1.c) (om.1 : Int) (om.2 : Int) (nu.1 : Int) (nu.2 : Int) v (es.take i) wr)) (fun x _ => es.length - (intOf x).toNat)
  case atStart => exact ⟨0, _, Nat.zero_le _, rfl, H0⟩
  case round =>
    clear H0 HB
    obtain ⟨i, v, hi, rfl, H⟩ := hrel
    have hks : KS w [(w.heap.size + 1, (cenA (.slice none 0 0) (.slice none 0 0) (.slice none 0 0) 0 0 0 0), 54), (w.heap.size, (cenA (.slice e.a es.length e.c) (.slice s.a sm.length s.c) (.slice a.a ap.length a.c) (om.1 : Int) (om.2 : Int) (nu.1 : Int) (nu.2 : Int)), 40)] wr := HK.out.kx H.out.kx (fun x hx => by have := HLO.out; simp only [List.mem_cons, List.not_mem_nil, or_false] at hx; rcases hx with rfl | rfl <;> (intro e; simp only at e; omega)) (fun k e => by have := HLO.out; omega)
    obtain ⟨q0, q1, q2, q3, q4, q5, q6⟩ := (hks.blkAt 1 rfl).c7
    have ql := (hks.blkAt 1 rfl).lt
    have HKS := Lib.hid hks
    clear hks
    by_cases hlt : i < es.length
    · obtain ⟨x, hx⟩ : ∃ x, es[i]? = some x := ⟨_, List.getElem?_eq_getElem hlt⟩
      have hne : es ≠ [] := by rintro rfl; simp at hlt
      obtain ⟨ea, eb, eo, ec⟩ := e
      dsimp only at *
      have hsa : ea = some ⟨eb, eo, none⟩ := HE.out.at_ hne
      subst hsa
      obtain ⟨z0, z1, z2, z3, z4⟩ := (HE.out.below HKS.out.bel).cells i x hx
      have zl := (HE.out.below HKS.out.bel).lt hne
      have b0 : (0 : Int) ≤ (i : Int) := by omega
      have b1 : (i : Int) < (es.length : Int) := by omega
      have HX := Lib.hid hx
      have HLR := Lib.hid (fun r (e : v.ownBlock = some r) => (H.out.own.lt r e))
      have hlen : (es.take i).length = i := by rw [List.length_take]; omega
      have HLEN := Lib.hid hlen
      have TO := Lib.hid (fun W => to_any (x.lo : Int) (x.hi : Int) W)
      obtain ⟨xs, xx, xk, xlo, xhi⟩ := x
      dsimp only at z0 z1 z2 z3 z4 TO
      clear hx hne
      go_wp2_with fail
      clear q0 q1 q2 q3 q4 q5 q6 ql z0 z1 z2 z3 z4 zl hlen
      have H5 : Hid (CI W1 Bo (.slice s1.a sm.length s1.c) (.slice a1.a ap.length a1.c) (om.1 : Int) (om.2 : Int) (nu.1 : Int) (nu.2 : Int) v (es.take i) (wr.alloc (.cells (entA ⟨xs, xx, xk, xlo, xhi⟩) 47)).drew) := Lib.hid ((H.out.below ((Below.refl _ _).alloc (Nat.le_refl _) _)).below (Below.refl _ _).drew)
      have hS : KS w [(wr.heap.size, (entA ⟨xs, xx, xk, xlo, xhi⟩), 47)] (wr.alloc (.cells (entA ⟨xs, xx, xk, xlo, xhi⟩) 47)).drew := ⟨fun x hx => by simp only [List.mem_cons, List.not_mem_nil, or_false] at hx; subst hx; exact (Blk.new _ _ _).drew, (HKS.out.bel.alloc HKS.out.size _).drew⟩
      have c0 : ∀ W, KS w [(wr.heap.size, (entA ⟨xs, xx, xk, xlo, xhi⟩), 47)] W → W.cell? ⟨wr.heap.size, 0, none⟩ = some (.int .i64 (xs : Int)) := fun W h => (h.blkAt 0 rfl).cell 0
      have c1 : ∀ W, KS w [(wr.heap.size, (entA ⟨xs, xx, xk, xlo, xhi⟩), 47)] W → W.cell? ⟨wr.heap.size, 1, none⟩ = some (.int .i64 (xx : Int)) := fun W h => (h.blkAt 0 rfl).cell 1
      have c2 : ∀ W, KS w [(wr.heap.size, (entA ⟨xs, xx, xk, xlo, xhi⟩), 47)] W → W.cell? ⟨wr.heap.size, 2, none⟩ = some (.int .i64 (xk : Int)) := fun W h => (h.blkAt 0 rfl).cell 2
      have c3 : ∀ W, KS w [(wr.heap.size, (entA ⟨xs, xx, xk, xlo, xhi⟩), 47)] W → W.cell? ⟨wr.heap.size, 3, none⟩ = some (.int .i64 (xlo : Int)) := fun W h => (h.blkAt 0 rfl).cell 3
      have c4 : ∀ W, KS w [(wr.heap.size, (entA ⟨xs, xx, xk, xlo, xhi⟩), 47)] W → W.cell? ⟨wr.heap.size, 4, none⟩ = some (.int .i64 (xhi : Int)) := fun W h => (h.blkAt 0 rfl).cell 4
      have cl : ∀ W, KS w [(wr.heap.size, (entA ⟨xs, xx, xk, xlo, xhi⟩), 47)] W → wr.heap.size < W.heap.size := fun W h => (h.blkAt 0 rfl).lt
      have cb : ∀ W, KS w [(wr.heap.size, (entA ⟨xs, xx, xk, xlo, xhi⟩), 47)] W → Bo < W.heap.size := fun W h => by have := (h.blkAt 0 rfl).lt; have := HBL.out; have := H.out.kx.size; omega
      obtain ⟨W5, hW5⟩ : ∃ W5, W5 = (wr.alloc (.cells (entA ⟨xs, xx, xk, xlo, xhi⟩) 47)) := ⟨_, rfl⟩
      rw [← hW5] at H5 hS
      change Code.wp _ _ _ _ (wr.alloc (.cells (entA ⟨xs, xx, xk, xlo, xhi⟩) 47))
      rw [← hW5]
      have HWS : Hid (wr.heap.size < W5.heap.size) := Lib.hid (hS.blkAt 0 rfl).lt
      clear hW5
      refine wp_joinZ (ι := Nat × Value) (f := fun aa bb => (((((((((((((((aa.put (some 31) (.pointer (some ⟨Bo, 0, none⟩))).put (some 32) (v)).put (some 33) (.pointer (some ⟨wr.heap.size, 0, none⟩))).put (some 34) (.int .i64 (xs : Int))).put (some 35) (.pointer (some ⟨wr.heap.size, 1, none⟩))).put (some 36) (.int .i64 (xx : Int))).put (some 37) (.pointer (some ⟨wr.heap.size, 2, none⟩))).put (some 38) (.int .i64 (xk : Int))).put (some 39) (.pointer (some ⟨wr.heap.size, 3, none⟩))).put (some 40) (rngV (xlo : Int) (xhi : Int))).put (some 41) (rngV (xlo : Int) (xhi : Int))).put (some 42) (.agg (entA ⟨xs, xx, xk, xlo, xhi⟩))).put (some 43) (.slice (some ⟨bb.1, 0, none⟩) 1 1)).put (some 44) (bb.2)).put (some 45) (.pointer (some ⟨Bo, 0, none⟩)))) (mid := fun bb W' => CI W1 Bo (.slice s1.a sm.length s1.c) (.slice a1.a ap.length a1.c) (om.1 : Int) (om.2 : Int) (nu.1 : Int) (nu.2 : Int) bb.2 (es.take (i + 1)) W') ?_ ?_
      · refine wp_region_held_drew (S := KS w [(wr.heap.size, (entA ⟨xs, xx, xk, xlo, xhi⟩), 47)]) (by kernel_rfl) hS (fun hHeld => ?_)
        clear hS
        refine wpAnyH_take (i := 0) (v := ?_) rfl (by kernel_rfl) (by kernel_rfl) (by kernel_rfl) (fun _ _ _ h => (by cases h.1)) (Or.inl ⟨by rfl, ?h0⟩) hHeld ?_
        case h0 =>
          intro w' hSw
          (try dsimp only at hSw)
          go_simp
          (try with_reducible rfl)
        (try simp only [Act.put]); (try simp only [List.setIfInBounds_toArray]); (try simp only [List.set_cons_succ]); (try simp only [List.set_cons_zero])
        refine wpAnyH_take (i := 2) (v := ?_) rfl (by kernel_rfl) (by kernel_rfl) (by kernel_rfl) (fun _ _ _ h => (by cases h.1)) (Or.inl ⟨by rfl, ?h2⟩) hHeld ?_
        case h2 =>
          intro w' hSw
          (try dsimp only at hSw)
          go_simp
          (try with_reducible rfl)
        (try simp only [Act.put]); (try simp only [List.setIfInBounds_toArray]); (try simp only [List.set_cons_succ]); (try simp only [List.set_cons_zero])
        refine wpAnyH_take (i := 3) (v := ?_) rfl (by kernel_rfl) (by kernel_rfl) (by kernel_rfl) (fun _ _ _ h => (by cases h.1)) (Or.inl ⟨by rfl, ?h3⟩) hHeld ?_
        case h3 =>
          intro w' hSw
          (try dsimp only at hSw)
          go_simp
          (try with_reducible rfl)
        (try simp only [Act.put]); (try simp only [List.setIfInBounds_toArray]); (try simp only [List.set_cons_succ]); (try simp only [List.set_cons_zero])
        refine wpAnyH_take (i := 4) (v := ?_) rfl (by kernel_rfl) (by kernel_rfl) (by kernel_rfl) (fun _ _ _ h => (by cases h.1)) (Or.inl ⟨by rfl, ?h4⟩) hHeld ?_
        case h4 =>
          intro w' hSw
          (try dsimp only at hSw)
          go_simp
          (try with_reducible rfl)
        (try simp only [Act.put]); (try simp only [List.setIfInBounds_toArray]); (try simp only [List.set_cons_succ]); (try simp only [List.set_cons_zero])
        refine wpAnyH_take (i := 5) (v := ?_) rfl (by kernel_rfl) (by kernel_rfl) (by kernel_rfl) (fun _ _ _ h => (by cases h.1)) (Or.inl ⟨by rfl, ?h5⟩) hHeld ?_
        case h5 =>
          intro w' hSw
          (try dsimp only at hSw)
          go_simp
          (try with_reducible rfl)
        (try simp only [Act.put]); (try simp only [List.setIfInBounds_toArray]); (try simp only [List.set_cons_succ]); (try simp only [List.set_cons_zero])
        refine wpAnyH_take (i := 6) (v := ?_) rfl (by kernel_rfl) (by kernel_rfl) (by kernel_rfl) (fun _ _ _ h => (by cases h.1)) (Or.inl ⟨by rfl, ?h6⟩) hHeld ?_
        case h6 =>
          intro w' hSw
          (try dsimp only at hSw)
          go_simp
          (try with_reducible rfl)
        (try simp only [Act.put]); (try simp only [List.setIfInBounds_toArray]); (try simp only [List.set_cons_succ]); (try simp only [List.set_cons_zero])
        refine wpAnyH_take (i := 7) (v := ?_) rfl (by kernel_rfl) (by kernel_rfl) (by kernel_rfl) (fun _ _ _ h => (by cases h.1)) (Or.inl ⟨by rfl, ?h7⟩) hHeld ?_
        case h7 =>
          intro w' hSw
          (try dsimp only at hSw)
          go_simp
          (try with_reducible rfl)
        (try simp only [Act.put]); (try simp only [List.setIfInBounds_toArray]); (try simp only [List.set_cons_succ]); (try simp only [List.set_cons_zero])
        refine wpAnyH_take (i := 8) (v := ?_) rfl (by kernel_rfl) (by kernel_rfl) (by kernel_rfl) (fun _ _ _ h => (by cases h.1)) (Or.inl ⟨by rfl, ?h8⟩) hHeld ?_
        case h8 =>
          intro w' hSw
          (try dsimp only at hSw)
          go_simp
          (try with_reducible rfl)
        (try simp only [Act.put]); (try simp only [List.setIfInBounds_toArray]); (try simp only [List.set_cons_succ]); (try simp only [List.set_cons_zero])
        refine wpAnyH_take (i := 9) (v := ?_) rfl (by kernel_rfl) (by kernel_rfl) (by kernel_rfl) (fun _ _ _ h => (by cases h.1)) (Or.inl ⟨by rfl, ?h9⟩) hHeld ?_
        case h9 =>
          intro w' hSw
          (try dsimp only at hSw)
          go_simp
          (try with_reducible rfl)
        (try simp only [Act.put]); (try simp only [List.setIfInBounds_toArray]); (try simp only [List.set_cons_succ]); (try simp only [List.set_cons_zero])
        refine wpAnyH_ready (rs := [1, 10]) (by kernel_rfl) (by simp) ?_
        refine AllReadyH.cons rfl (fun K hK => ?_) (AllReadyH.cons rfl (fun K hK => ?_) (AllReadyH.nil))
        · have c7 := H5.out.blk.cell 0
          go_simp
          clear c7
          refine hK.out _ _ hHeld (fun hHeld => ?_)
          clear hK K
          (try simp only [Act.put]); (try simp only [List.setIfInBounds_toArray]); (try simp only [List.set_cons_succ]); (try simp only [List.set_cons_zero])
          refine wpAnyH_ready (rs := [10]) (by kernel_rfl) (by simp) ?_
          refine AllReadyH.cons rfl (fun K hK => ?_) (AllReadyH.nil)
          go_simp
          refine (TO.out _).mono ?_
          rintro y wn ⟨rfl, hb⟩
          have H5 := Lib.hid (H5.out.below hb)
          refine hK.out _ _ (hHeld.below hb) (fun hHeld => ?_)
          clear hK K hb
          (try simp only [Act.put]); (try simp only [List.setIfInBounds_toArray]); (try simp only [List.set_cons_succ]); (try simp only [List.set_cons_zero])
          refine wpAnyH_take (i := 11) (v := ?_) rfl (by kernel_rfl) (by kernel_rfl) (by kernel_rfl) (fun _ _ _ h => (by cases h.1)) (Or.inl ⟨by rfl, ?h11⟩) hHeld ?_
          case h11 =>
            intro w' hSw
            (try dsimp only at hSw)
            go_simp
            (try with_reducible rfl)
          (try simp only [Act.put]); (try simp only [List.setIfInBounds_toArray]); (try simp only [List.set_cons_succ]); (try simp only [List.set_cons_zero])
          refine wpAnyH_ready (rs := [12]) (by kernel_rfl) (by simp) ?_
          refine AllReadyH.cons rfl (fun K hK => ?_) (AllReadyH.nil)
          go_simp
          have NB := Lib.hid (Blk.new wn (entA ⟨xs, xx, xk, xlo, xhi⟩) 82)
          have H5 := Lib.hid (H5.out.below ((Below.refl _ _).alloc (Nat.le_refl _) (.cells (entA ⟨xs, xx, xk, xlo, xhi⟩) 82)))
          refine hK.out _ _ (hHeld.alloc _) (fun hHeld => ?_)
          clear hK K
          (try simp only [Act.put]); (try simp only [List.setIfInBounds_toArray]); (try simp only [List.set_cons_succ]); (try simp only [List.set_cons_zero])
          refine wpAnyH_ready (rs := [13]) (by kernel_rfl) (by simp) ?_
          refine AllReadyH.cons rfl (fun K hK => ?_) (AllReadyH.nil)
          refine step_append_set rfl _ _ 51 rfl W1.heap.size 82 i0 _ 5 40 Tryz.underlying51 HI.out.1 HI.out.2.1 HI.out.2.2.1 HI.out.2.2.2 rfl (by decide) v i (entsV (es.take i)) rfl (by have h := H5.out.own; rw [HLEN.out] at h; exact h) ⟨_, 0, none⟩ 1 1 (entsV [⟨xs, xx, xk, xlo, xhi⟩]) rfl rfl (news_five NB.out) (by simp [Value.oneCell', entsV]) (by unfold maxLen; omega) (by omega) H5.out.kx.size ?_
          intro v9 w9 hown hgr _
          obtain ⟨gr, cr, rfl⟩ := Joins.ownsRow_form hown (by omega)
          have HC := Lib.hid (H5.out.grown hgr HBL.out)
          have HF := Lib.hid (H5.out.app hgr HBL.out ⟨xs, xx, xk, xlo, xhi⟩ (by rw [HLEN.out]; exact hown))
          have hk9 : KS w [(wr.heap.size, (entA ⟨xs, xx, xk, xlo, xhi⟩), 47)] w9 := hHeld.grown hgr (fun r e => by have h1 := HLR.out r e; have h2 := HK.out.size; exact ⟨by omega, fun x hx => by simp only [List.mem_cons, List.not_mem_nil, or_false] at hx; subst hx; simp only; omega⟩)
          clear hown hgr NB
          refine hK.out _ _ hk9 (fun hHeld => ?_)
          clear hK K hk9
          (try simp only [Act.put]); (try simp only [List.setIfInBounds_toArray]); (try simp only [List.set_cons_succ]); (try simp only [List.set_cons_zero])
          refine wpAnyH_take (i := 14) (v := ?_) rfl (by kernel_rfl) (by kernel_rfl) (by kernel_rfl) (fun _ _ _ h => (by cases h.1)) (Or.inl ⟨by rfl, ?h14⟩) hHeld ?_
          case h14 =>
            intro w' hSw
            (try dsimp only at hSw)
            go_simp
            (try with_reducible rfl)
          (try simp only [Act.put]); (try simp only [List.setIfInBounds_toArray]); (try simp only [List.set_cons_succ]); (try simp only [List.set_cons_zero])
          refine wpAnyH_ready (rs := [15]) (by kernel_rfl) (by simp) ?_
          refine AllReadyH.cons rfl (fun K hK => ?_) (AllReadyH.nil)
          have c8 := HC.out.cell 0
          have f8 := HC.out.frozen 0
          have g8 := HC.out.lt
          go_simp
          clear c8 f8 g8
          refine hK.out _ _ (hHeld.kx (Kx.set (E := fun k => k = Bo) (a := ⟨Bo, 0, none⟩) rfl _) (fun x hx => by have h1 := HBL.out; have h2 := H.out.kx.size; simp only [List.mem_cons, List.not_mem_nil, or_false] at hx; subst hx; intro e; simp only at e; omega) (fun k e => by have := HLO.out; omega)) (fun hHeld => ?_)
          clear hK K
          (try simp only [Act.put]); (try simp only [List.setIfInBounds_toArray]); (try simp only [List.set_cons_succ]); (try simp only [List.set_cons_zero])
          refine wpAnyH_done (by kernel_rfl) ?_ _
          refine ⟨rfl, (_, _), rfl, ?_⟩
          rw [List.take_add_one, HX.out]
          exact HF.out
        · go_simp
          refine (TO.out _).mono ?_
          rintro y wn ⟨rfl, hb⟩
          have H5 := Lib.hid (H5.out.below hb)
          refine hK.out _ _ (hHeld.below hb) (fun hHeld => ?_)
          clear hK K hb
          (try simp only [Act.put]); (try simp only [List.setIfInBounds_toArray]); (try simp only [List.set_cons_succ]); (try simp only [List.set_cons_zero])
          refine wpAnyH_take (i := 11) (v := ?_) rfl (by kernel_rfl) (by kernel_rfl) (by kernel_rfl) (fun _ _ _ h => (by cases h.1)) (Or.inl ⟨by rfl, ?h11⟩) hHeld ?_
          case h11 =>
            intro w' hSw
            (try dsimp only at hSw)
            go_simp
            (try with_reducible rfl)
          (try simp only [Act.put]); (try simp only [List.setIfInBounds_toArray]); (try simp only [List.set_cons_succ]); (try simp only [List.set_cons_zero])
          refine wpAnyH_ready (rs := [1, 12]) (by kernel_rfl) (by simp) ?_
          refine AllReadyH.cons rfl (fun K hK => ?_) (AllReadyH.cons rfl (fun K hK => ?_) (AllReadyH.nil))
          · have c7 := H5.out.blk.cell 0
            go_simp
            clear c7
            refine hK.out _ _ hHeld (fun hHeld => ?_)
            clear hK K
            (try simp only [Act.put]); (try simp only [List.setIfInBounds_toArray]); (try simp only [List.set_cons_succ]); (try simp only [List.set_cons_zero])
            refine wpAnyH_ready (rs := [12]) (by kernel_rfl) (by simp) ?_
            refine AllReadyH.cons rfl (fun K hK => ?_) (AllReadyH.nil)
            go_simp
            have NB := Lib.hid (Blk.new wn (entA ⟨xs, xx, xk, xlo, xhi⟩) 82)
            have H5 := Lib.hid (H5.out.below ((Below.refl _ _).alloc (Nat.le_refl _) (.cells (entA ⟨xs, xx, xk, xlo, xhi⟩) 82)))
            refine hK.out _ _ (hHeld.alloc _) (fun hHeld => ?_)
            clear hK K
            (try simp only [Act.put]); (try simp only [List.setIfInBounds_toArray]); (try simp only [List.set_cons_succ]); (try simp only [List.set_cons_zero])
            refine wpAnyH_ready (rs := [13]) (by kernel_rfl) (by simp) ?_
            refine AllReadyH.cons rfl (fun K hK => ?_) (AllReadyH.nil)
            refine step_append_set rfl _ _ 51 rfl W1.heap.size 82 i0 _ 5 40 Tryz.underlying51 HI.out.1 HI.out.2.1 HI.out.2.2.1 HI.out.2.2.2 rfl (by decide) v i (entsV (es.take i)) rfl (by have h := H5.out.own; rw [HLEN.out] at h; exact h) ⟨_, 0, none⟩ 1 1 (entsV [⟨xs, xx, xk, xlo, xhi⟩]) rfl rfl (news_five NB.out) (by simp [Value.oneCell', entsV]) (by unfold maxLen; omega) (by omega) H5.out.kx.size ?_
            intro v9 w9 hown hgr _
            obtain ⟨gr, cr, rfl⟩ := Joins.ownsRow_form hown (by omega)
            have HC := Lib.hid (H5.out.grown hgr HBL.out)
            have HF := Lib.hid (H5.out.app hgr HBL.out ⟨xs, xx, xk, xlo, xhi⟩ (by rw [HLEN.out]; exact hown))
            have hk9 : KS w [(wr.heap.size, (entA ⟨xs, xx, xk, xlo, xhi⟩), 47)] w9 := hHeld.grown hgr (fun r e => by have h1 := HLR.out r e; have h2 := HK.out.size; exact ⟨by omega, fun x hx => by simp only [List.mem_cons, List.not_mem_nil, or_false] at hx; subst hx; simp only; omega⟩)
            clear hown hgr NB
            refine hK.out _ _ hk9 (fun hHeld => ?_)
            clear hK K hk9
            (try simp only [Act.put]); (try simp only [List.setIfInBounds_toArray]); (try simp only [List.set_cons_succ]); (try simp only [List.set_cons_zero])
            refine wpAnyH_take (i := 14) (v := ?_) rfl (by kernel_rfl) (by kernel_rfl) (by kernel_rfl) (fun _ _ _ h => (by cases h.1)) (Or.inl ⟨by rfl, ?h14⟩) hHeld ?_
            case h14 =>
              intro w' hSw
              (try dsimp only at hSw)
              go_simp
              (try with_reducible rfl)
            (try simp only [Act.put]); (try simp only [List.setIfInBounds_toArray]); (try simp only [List.set_cons_succ]); (try simp only [List.set_cons_zero])
            refine wpAnyH_ready (rs := [15]) (by kernel_rfl) (by simp) ?_
            refine AllReadyH.cons rfl (fun K hK => ?_) (AllReadyH.nil)
            have c8 := HC.out.cell 0
            have f8 := HC.out.frozen 0
            have g8 := HC.out.lt
            go_simp
            clear c8 f8 g8
            refine hK.out _ _ (hHeld.kx (Kx.set (E := fun k => k = Bo) (a := ⟨Bo, 0, none⟩) rfl _) (fun x hx => by have h1 := HBL.out; have h2 := H.out.kx.size; simp only [List.mem_cons, List.not_mem_nil, or_false] at hx; subst hx; intro e; simp only at e; omega) (fun k e => by have := HLO.out; omega)) (fun hHeld => ?_)
            clear hK K
            (try simp only [Act.put]); (try simp only [List.setIfInBounds_toArray]); (try simp only [List.set_cons_succ]); (try simp only [List.set_cons_zero])
            refine wpAnyH_done (by kernel_rfl) ?_ _
            refine ⟨rfl, (_, _), rfl, ?_⟩
            rw [List.take_add_one, HX.out]
            exact HF.out
          · go_simp
            have NB := Lib.hid (Blk.new wn (entA ⟨xs, xx, xk, xlo, xhi⟩) 82)
            have H5 := Lib.hid (H5.out.below ((Below.refl _ _).alloc (Nat.le_refl _) (.cells (entA ⟨xs, xx, xk, xlo, xhi⟩) 82)))
            refine hK.out _ _ (hHeld.alloc _) (fun hHeld => ?_)
            clear hK K
            (try simp only [Act.put]); (try simp only [List.setIfInBounds_toArray]); (try simp only [List.set_cons_succ]); (try simp only [List.set_cons_zero])
            refine wpAnyH_ready (rs := [1]) (by kernel_rfl) (by simp) ?_
            refine AllReadyH.cons rfl (fun K hK => ?_) (AllReadyH.nil)
            have c7 := H5.out.blk.cell 0
            go_simp
            clear c7
            refine hK.out _ _ hHeld (fun hHeld => ?_)
            clear hK K
            (try simp only [Act.put]); (try simp only [List.setIfInBounds_toArray]); (try simp only [List.set_cons_succ]); (try simp only [List.set_cons_zero])
            refine wpAnyH_ready (rs := [13]) (by kernel_rfl) (by simp) ?_
            refine AllReadyH.cons rfl (fun K hK => ?_) (AllReadyH.nil)
            refine step_append_set rfl _ _ 51 rfl W1.heap.size 82 i0 _ 5 40 Tryz.underlying51 HI.out.1 HI.out.2.1 HI.out.2.2.1 HI.out.2.2.2 rfl (by decide) v i (entsV (es.take i)) rfl (by have h := H5.out.own; rw [HLEN.out] at h; exact h) ⟨_, 0, none⟩ 1 1 (entsV [⟨xs, xx, xk, xlo, xhi⟩]) rfl rfl (news_five NB.out) (by simp [Value.oneCell', entsV]) (by unfold maxLen; omega) (by omega) H5.out.kx.size ?_
            intro v9 w9 hown hgr _
            obtain ⟨gr, cr, rfl⟩ := Joins.ownsRow_form hown (by omega)
            have HC := Lib.hid (H5.out.grown hgr HBL.out)
            have HF := Lib.hid (H5.out.app hgr HBL.out ⟨xs, xx, xk, xlo, xhi⟩ (by rw [HLEN.out]; exact hown))
            have hk9 : KS w [(wr.heap.size, (entA ⟨xs, xx, xk, xlo, xhi⟩), 47)] w9 := hHeld.grown hgr (fun r e => by have h1 := HLR.out r e; have h2 := HK.out.size; exact ⟨by omega, fun x hx => by simp only [List.mem_cons, List.not_mem_nil, or_false] at hx; subst hx; simp only; omega⟩)
            clear hown hgr NB
            refine hK.out _ _ hk9 (fun hHeld => ?_)
            clear hK K hk9
            (try simp only [Act.put]); (try simp only [List.setIfInBounds_toArray]); (try simp only [List.set_cons_succ]); (try simp only [List.set_cons_zero])
            refine wpAnyH_take (i := 14) (v := ?_) rfl (by kernel_rfl) (by kernel_rfl) (by kernel_rfl) (fun _ _ _ h => (by cases h.1)) (Or.inl ⟨by rfl, ?h14⟩) hHeld ?_
            case h14 =>
              intro w' hSw
              (try dsimp only at hSw)
              go_simp
              (try with_reducible rfl)
            (try simp only [Act.put]); (try simp only [List.setIfInBounds_toArray]); (try simp only [List.set_cons_succ]); (try simp only [List.set_cons_zero])
            refine wpAnyH_ready (rs := [15]) (by kernel_rfl) (by simp) ?_
            refine AllReadyH.cons rfl (fun K hK => ?_) (AllReadyH.nil)
            have c8 := HC.out.cell 0
            have f8 := HC.out.frozen 0
            have g8 := HC.out.lt
            go_simp
            clear c8 f8 g8
            refine hK.out _ _ (hHeld.kx (Kx.set (E := fun k => k = Bo) (a := ⟨Bo, 0, none⟩) rfl _) (fun x hx => by have h1 := HBL.out; have h2 := H.out.kx.size; simp only [List.mem_cons, List.not_mem_nil, or_false] at hx; subst hx; intro e; simp only at e; omega) (fun k e => by have := HLO.out; omega)) (fun hHeld => ?_)
            clear hK K
            (try simp only [Act.put]); (try simp only [List.setIfInBounds_toArray]); (try simp only [List.set_cons_succ]); (try simp only [List.set_cons_zero])
            refine wpAnyH_done (by kernel_rfl) ?_ _
            refine ⟨rfl, (_, _), rfl, ?_⟩
            rw [List.take_add_one, HX.out]
            exact HF.out
      rintro ⟨nb, v9⟩ W9 h9
      have H9 := Lib.hid h9
      clear h9 hS c0 c1 c2 c3 c4 cl cb H5
      simp only [Act.put, List.setIfInBounds_toArray, List.set_cons_zero, List.set_cons_succ]
      go_wp2_with fail
      go_roundw
      case rel => exact ⟨i + 1, v9, by omega, by go_num, H9⟩
      case measure => simp [intOf]; omega
    · obtain rfl : i = es.length := by omega
      have ho := H.out.own
      rw [List.take_length] at ho
      obtain ⟨e1, hv, hse, hef, hge⟩ := own_sle ho
      subst hv
      obtain ⟨y0, y1, y2, y3, y4, y5, y6⟩ := H.out.blk.c7
      have yl := H.out.blk.lt
      obtain ⟨k0, k1, k2, k3, k4, k5, k6⟩ := (HKS.out.blkAt 0 rfl).c7
      have kl := (HKS.out.blkAt 0 rfl).lt
      have f0 := (HKS.out.blkAt 0 rfl).frozen 0
      have f1 := (HKS.out.blkAt 0 rfl).frozen 1
      have f2 := (HKS.out.blkAt 0 rfl).frozen 2
      have f3 := (HKS.out.blkAt 0 rfl).frozen 3
      have f4 := (HKS.out.blkAt 0 rfl).frozen 4
      have f5 := (HKS.out.blkAt 0 rfl).frozen 5
      have f6 := (HKS.out.blkAt 0 rfl).frozen 6
      have HSE := Lib.hid (And.intro hse (And.intro hef hge))
      clear ho hse hef hge
      go_wp2_with fail
      have hF := (HKS.out.blkAt 0 rfl).set7 (y0 := .slice e1.a es.length e1.c) (y1 := .slice s1.a sm.length s1.c) (y2 := .slice a1.a ap.length a1.c) (y3 := .int .i64 (om.1 : Int)) (y4 := .int .i64 (om.2 : Int)) (y5 := .int .i64 (nu.1 : Int)) (y6 := .int .i64 (nu.2 : Int))
      obtain ⟨r0, r1, r2, r3, r4, r5, r6⟩ := hF.c7
      have rl := hF.lt
      have hlo := HLO.out
      have hbl := HBL.out
      refine bodyPost_ret (v := cenL e1 s1 a1 es sm ap om nu) (by simp [results, Tryz.results14, go_sem, r0, r1, r2, r3, r4, r5, r6, rl]) rfl ⟨e1, s1, a1, rfl, ⟨HSE.out.1.kx kx_set7 (fun h e => by have := HSE.out.2.2 h; omega), (HS1.out.sl.kx H.out.kx (fun h e => HS1.out.off h e)).kx kx_set7 (fun h e => by have := HS1.out.low h; omega), (HA1.out.sl.kx H.out.kx (fun h e => HA1.out.off h e)).kx kx_set7 (fun h e => by have := HA1.out.low h; omega)⟩, HS1.out.form, HA1.out.form, bel_set7 HKS.out.bel (by omega)⟩
end Go.Proofs.YtdfebccmjbocjaaGreatDoor
