/- Texts of package name, for this seat. -/
import Derived.Test.YtkdflgaahhnigaaC8
import Derived.Test.YtkdflgaahhnigaaCmt
import Derived.Lib.BufferWrite
set_option linter.unusedVariables false
set_option linter.unusedSimpArgs false
namespace Go.Proofs.Ytkdflgaahhnigaa
open Go.RowKit Go.Shelf Go.Sort

theorem sort_own {base g n cap : Nat} {l : List Nat} {w : World} (h : w.ownsRow base 3 1 (.slice (some ⟨g, 0, none⟩) n cap) n (natsV l)) (hn : n ≤ 1000) (l' : List Nat) (hp : l.Perm l') (hs : l'.Pairwise (· < ·)) :
    Calls Try.prog 47 #[.slice (some ⟨g, 0, none⟩) n cap] w fun e w' => e = .returned (.tuple #[]) ∧ w'.ownsRow base 3 1 (.slice (some ⟨g, 0, none⟩) n cap) n (natsV l') ∧ w.grownBy w' (some g) := by
  have e1 : natsV l = (l.map (fun (k : Nat) => (k : Int))).map (Value.int .i64) := by simp [natsV]
  rw [e1] at h
  have e2 : ((l.map (fun (k : Nat) => (k : Int))).mergeSort fun x y => decide (x ≤ y)) = l'.map (fun (k : Nat) => (k : Int)) := by
    refine ((List.mergeSort_perm _ _).trans (hp.map _)).eq_of_pairwise (le := (· ≤ ·)) (fun a b _ _ h1 h2 => by omega) ?_ ?_
    · exact (List.pairwise_mergeSort (le := fun x y : Int => decide (x ≤ y)) (by intro a b c; simp; omega) (by intro a b; simp; omega) _).imp (by intro a b h; simpa using h)
    · rw [List.pairwise_map]
      exact hs.imp (by intro a b h; omega)
  obtain ⟨g', cap', hv, hb, hlt, hnc, hcm, hl, hH⟩ := Lib.holds_of_ownsRow h (by simp)
  cases hv
  have hS := Try.slices_Sort_int g 0 cap (l.map (fun (k : Nat) => (k : Int))) w hH hlt (by omega)
  rw [hl] at hS
  refine Calls.mono hS ?_
  rintro e w' ⟨rfl, q, os, rfl⟩
  refine ⟨rfl, ?_, grownBy_sortedI _⟩
  rcases h.2 with ⟨e0, _⟩ | ⟨g', cap', cur, e0, hb', hg, hn', hm, hs, ht⟩
  · cases e0
  · cases e0
    have := ownsRow_sortedI (w := w) (base := base) (g := g) (cap := cap) (n := q) (os := os) (ss := l.map (fun (k : Nat) => (k : Int))) (ts := (l.map (fun (k : Nat) => (k : Int))).mergeSort fun x y => decide (x ≤ y)) (List.length_mergeSort _) hb hg (by omega) hcm (by simpa using hs)
    rw [hl, e2] at this
    rw [e2]
    rw [List.map_map] at this
    exact this
theorem tInfo4 : (Try.prog.info? 4).map (fun i => (i.zero, i.size, i.bytes)) = some (some (.bool false), 1, 1) := by kernel_rfl
theorem grownBy_rowOld {w w' w'' : World} {row : Option Nat} (h : w.grownBy w' row) (k : w'.grownBy w'' row) : w.grownBy w'' row :=
  ⟨k.os.trans h.os, k.tape.trans h.tape, k.output.trans h.output, Nat.le_trans h.size k.size, fun i hi hr => (k.block i (Nat.lt_of_lt_of_le hi h.size) hr).trans (h.block i hi hr)⟩
def boolsV (l : List Bool) : List Value := l.map Value.bool
theorem boolsV_set (l : List Bool) (k : Nat) (b : Bool) : (boolsV l).set k (.bool b) = boolsV (l.set k b) := by simp [boolsV, List.map_set]
/-- the relation of a table and a limit -/
def rT (tab : List (List Nat)) (L : Nat) (i k : Nat) : Bool := decide ((tab.getD i []).getD k 0 ≤ L)
theorem TabK.kept {W W' : World} {B : Nat} {v : Value} {tab : List (List Nat)} {row : Option Nat} (h : TabK W B v tab) (hg : W.grownBy W' row) (hr : ∀ r, row = some r → r < B) : TabK W' B v tab := by
  obtain ⟨vs, h1, h2⟩ := h
  have hk : ∀ {v : Value} {n : Nat} {xs : List Value} {e : TypeId}, W.ownsRow B e 1 v n xs → v.ownBlock = none ∨ v.ownBlock ≠ row := by
    intro v n xs e h
    cases hb : v.ownBlock with
    | none => exact .inl rfl
    | some k => exact .inr (fun e => by have := hr k e.symm; have := (h.lt k hb).1; omega)
  refine ⟨vs, h1.kept hg (hk h1), fun i r e => ?_⟩
  obtain ⟨u, k1, k2, k3⟩ := h2 i r e
  exact ⟨u, k1, k2.kept hg (hk k2), k3⟩
/-- what a table's rows read -/
theorem TabK.reads {w : World} {B : Nat} {tv : Value} {tab : List (List Nat)} {n : Nat} (h : TabK w B tv tab) (hn : tab.length = n) (h0 : 0 < n) (hrow : ∀ r, r ∈ tab → r.length = n) :
    ∃ tg tc, tv = .slice (some ⟨tg, 0, none⟩) n tc ∧ ∀ i, i < n → ∃ ug uc, ∀ W, Below w.heap.size w W → W.cell? ⟨tg, i, none⟩ = some (.slice (some ⟨ug, 0, none⟩) n uc) ∧ ∀ k, k < n → W.cell? ⟨ug, k, none⟩ = some (.int .i64 (((tab.getD i []).getD k 0 : Nat) : Int)) := by
  obtain ⟨vs, h1, h2⟩ := h
  rw [hn] at h1
  obtain ⟨tg, tc, rfl⟩ := Joins.ownsRow_form h1 h0
  refine ⟨tg, tc, rfl, fun i hi => ?_⟩
  have hr : tab[i]? = some (tab.getD i []) := by rw [List.getD_eq_getElem?_getD, List.getElem?_eq_getElem (by omega)]; rfl
  obtain ⟨u, k1, k2, _⟩ := h2 i _ hr
  have hrl := hrow _ (List.mem_of_getElem? hr)
  unfold natsOwn at k2
  rw [hrl] at k2
  obtain ⟨ug, uc, rfl⟩ := Joins.ownsRow_form k2 h0
  refine ⟨ug, uc, fun W hW => ⟨?_, fun k hk => ?_⟩⟩
  · rw [hW.cell (p := ⟨tg, i, none⟩) (h1.lt tg rfl).2, h1.cellAt i (by omega), k1]
  · rw [hW.cell (p := ⟨ug, k, none⟩) (k2.lt ug rfl).2, k2.cellAt k (by omega), natsV, List.getElem?_map, List.getD_eq_getElem?_getD (l := tab.getD i []), List.getElem?_eq_getElem (by omega)]; rfl
end Go.Proofs.Ytkdflgaahhnigaa

namespace Go.Proofs.Ytkdflgaahhnigaa
open Go.RowKit Go.Shelf

/-- between two names of the outer loop -/
def GO (w : World) (n : Nat) (W : World) (v : Value) (s : List (List Nat) × List Bool) : Prop :=
  W.ownsRow w.heap.size 4 1 (.slice (some ⟨w.heap.size, 0, none⟩) n n) n (boolsV s.2) ∧ TabK W (w.heap.size + 1) v s.1 ∧ Below w.heap.size w W ∧ w.heap.size < W.heap.size
/-- while a group is gathered -/
def GI (w wo : World) (n : Nat) (W : World) (g : Value) (s : List Nat × List Bool) : Prop :=
  W.ownsRow w.heap.size 4 1 (.slice (some ⟨w.heap.size, 0, none⟩) n n) n (boolsV s.2) ∧ W.ownsRow wo.heap.size 3 1 g s.1.length (natsV s.1) ∧ wo.grownBy W (some w.heap.size) ∧ Below w.heap.size w W ∧ w.heap.size < wo.heap.size
theorem GI.size {w wo W : World} {n : Nat} {g : Value} {s : List Nat × List Bool} (h : GI w wo n W g s) : wo.heap.size ≤ W.heap.size := h.2.2.1.size
theorem GI.put {w wo W W2 : World} {n k kl : Nat} {g g' : Value} {s : List Nat × List Bool} (h : GI w wo n W g s) (hk : s.1.length = kl) (hown : W2.ownsRow wo.heap.size 3 1 g' (kl + 1) (natsV s.1 ++ [.int .i64 (k : Int)])) (hg : (W.alloc (.cells #[.int .i64 (k : Int)] 3)).grownBy W2 g.ownBlock) :
    GI w wo n (W2.setCell ⟨w.heap.size, k, none⟩ (.bool true)) g' (s.1 ++ [k], s.2.set k true) := by
  obtain ⟨h1, h2, h3, h4, h5⟩ := h
  have hsz := h3.size
  have hgb : ∀ j, g.ownBlock = some j → wo.heap.size ≤ j := fun j e => (h2.lt j e).1
  have ga : wo.grownBy W2 (some w.heap.size) := by
    have g1 : wo.grownBy (W.alloc (.cells #[.int .i64 (k : Int)] 3)) (some w.heap.size) := grownBy_rowOld h3 (grownBy_below ((Below.refl _ _).alloc (Nat.le_refl _) _) _)
    cases hb : g.ownBlock with
    | none => rw [hb] at hg; exact grownBy_rowOld g1 ⟨hg.os, hg.tape, hg.output, hg.size, fun i hi _ => hg.block i hi (by simp)⟩
    | some j => rw [hb] at hg; exact grownBy_rowNew g1 hg (hgb j hb)
  have hd : W2.ownsRow w.heap.size 4 1 (.slice (some ⟨w.heap.size, 0, none⟩) n n) n (boolsV s.2) := (h1.alloc _).kept hg (.inr (fun e => by have h9 := hgb w.heap.size e.symm; omega))
  obtain ⟨d1, d2⟩ := hd.stored k (.bool true)
  rw [boolsV_set] at d1
  refine ⟨d1, ?_, grownBy_rowOld ga d2, ?_, h5⟩
  · have := hown.kept d2 (by
      rcases Joins.ownsRow_forms hown with ⟨e, _⟩ | ⟨q, c, e⟩
      · rw [e]; exact .inl rfl
      · right; rw [e]; intro e2; have h8 : wo.heap.size ≤ q := (hown.lt q (by rw [e]; rfl)).1; have e3 : q = w.heap.size := by simpa [Value.ownBlock] using e2
        omega)
    rw [List.length_append, hk]
    simpa [natsV] using this
  · refine ((h4.alloc h4.size _).grown hg (by have := h4.size; simp; omega) (fun j e => ?_)).grown d2 ?_ (fun j e => by cases e; exact Nat.le_refl _)
    · have := hgb j e; omega
    · have := hg.size; simp at this; omega
theorem GI.start {w wo : World} {n f : Nat} {v : Value} {s : List (List Nat) × List Bool} (h : GO w n wo v s) :
    GI w wo n ((wo.alloc (.cells #[.int .i64 (f : Int)] 3)).setCell ⟨w.heap.size, f, none⟩ (.bool true)) (.slice (some ⟨wo.heap.size, 0, none⟩) 1 1) ([f], s.2.set f true) := by
  obtain ⟨h1, h2, h3, h4⟩ := h
  obtain ⟨d1, d2⟩ := (h1.alloc (.cells #[.int .i64 (f : Int)] 3)).stored f (.bool true)
  rw [boolsV_set] at d1
  refine ⟨d1, ?_, grownBy_rowOld (grownBy_below ((Below.refl _ _).alloc (Nat.le_refl _) _) _) d2, ?_, h4⟩
  · have h9 := World.ownsRow_lit (base := wo.heap.size) (e := 3) (size := 1) wo #[.int .i64 (f : Int)] 1 (Nat.le_refl _) (by unfold maxLen; omega) rfl
    refine h9.kept d2 (.inr fun e2 => ?_)
    have e3 : wo.heap.size = w.heap.size := by simpa [Value.ownBlock] using e2
    omega
  · exact (h3.alloc h3.size _).grown d2 (by have := h3.size; simp; omega) (fun j e => by cases e; exact Nat.le_refl _)
/-- the group is known: the next name -/
theorem GI.close {w wo W7 W8 W9 : World} {n : Nat} {v v' u : Value} {s : List (List Nat) × List Bool} {t : List Nat × List Bool} {l : List Nat} (h : GO w n wo v s) (hi : GI w wo n W7 u t) {gg gc m : Nat} (hu : u = .slice (some ⟨gg, 0, none⟩) m gc)
    (hown : W8.ownsRow wo.heap.size 3 1 u m (natsV l)) (hg8 : W7.grownBy W8 (some gg)) (hm : l.length = m) {vs : List Value} (hvs : W8.ownsRow (w.heap.size + 1) 39 1 v s.1.length vs) (hrs : RowsAt W8 (w.heap.size + 1) v vs s.1)
    (ho9 : W9.ownsRow (w.heap.size + 1) 39 1 v' (s.1.length + 1) (vs ++ [u])) (hg9 : (W8.alloc (.cells #[u] 39)).grownBy W9 v.ownBlock) (hat : v'.ownBlock = v.ownBlock ∨ v'.ownBlock = some (W8.alloc (.cells #[u] 39)).heap.size) (hvb : ∀ j, v.ownBlock = some j → j < wo.heap.size) (hD : t.2.length = n) :
    GO w n W9 v' (s.1 ++ [l], t.2) := by
  obtain ⟨i1, i2, i3, i4, i5⟩ := hi
  have hgo : wo.heap.size ≤ gg := (hown.lt gg (by rw [hu]; rfl)).1
  have z7 := i3.size
  have z8 := hg8.size
  have z9 := hg9.size
  rw [World.size_alloc] at z9
  have b8 : Below w.heap.size w W8 := i4.grown hg8 i4.size (fun j e => by cases e; omega)
  have hvw : ∀ j, v.ownBlock = some j → w.heap.size + 1 ≤ j := fun j e => (hvs.lt j e).1
  have hd8 : W8.ownsRow w.heap.size 4 1 (.slice (some ⟨w.heap.size, 0, none⟩) n n) n (boolsV t.2) := i1.kept hg8 (.inr fun e2 => by
    have e3 : w.heap.size = gg := by simpa [Value.ownBlock] using e2
    omega)
  refine ⟨(hd8.alloc _).kept hg9 (.inr fun e2 => by have h9 := hvw w.heap.size e2.symm; omega), ?_, (b8.alloc b8.size _).grown hg9 (by have := b8.size; simp; omega) (fun j e => by have := hvw j e; omega), by omega⟩
  subst hu
  have hu8 : natsOwn W8 (w.heap.size + 1) (.slice (some ⟨gg, 0, none⟩) m gc) l := by
    unfold natsOwn; rw [hm]; exact hown.mono (by omega)
  refine tab_snoc (W := W8.alloc _) (hvs.alloc _) (fun i r e => by obtain ⟨u', q1, q2, q3⟩ := hrs i r e; exact ⟨u', q1, q2.alloc _, q3⟩) (hu8.alloc _) (fun j e e2 => ?_) ho9 hg9 hat
  have e3 : gg = j := by simpa [Value.ownBlock] using e2
  have := hvb j e
  omega
set_option maxRecDepth 100000 in
set_option maxHeartbeats 4000000 in
theorem groups_pos {Bt : Nat} (tv : Value) (n L : Nat) (tab : List (List Nat)) (w : World) (hT : TabK w Bt tv tab) (hn : tab.length = n) (hrow : ∀ r, r ∈ tab → r.length = n) (h0 : 0 < n) (hn12 : n ≤ 12) (hr : ∀ i, rT tab L i i = true) (hs : ∀ i k, rT tab L i k = rT tab L k i) :
    Calls Try.prog 23 #[tv, .int .i64 (L : Int)] w fun e w' => ∃ v, e = .returned v ∧ TabK w' (w.heap.size + 1) v (Nm.outer (rT tab L) n n).1 ∧ Below w.heap.size w w' := by
  obtain ⟨tg, tc, rfl, hrd⟩ := hT.reads hn h0 hrow
  have HRD := Lib.hid hrd
  have HR := Lib.hid hr
  have HS := Lib.hid hs
  obtain ⟨i3, hi3, hx0, hx1, hx2⟩ := info_parts tInfo3
  obtain ⟨i4, hi4, hy0, hy1, hy2⟩ := info_parts tInfo4
  obtain ⟨i41, hi41, hz0, hz1, hz2⟩ := info_parts tInfo41
  have HRT := Lib.hid (fun (i k : Nat) => show rT tab L i k = decide ((tab.getD i []).getD k 0 ≤ L) from rfl)
  clear hT hrd hr hs hn hrow
  go_enter Try.func23, Try.ntmps23
  go_wp2_with (at_make; refine wpList_make_full w rfl _ _ 88 rfl w.heap.size 4 i4 (.bool false) 1 Try.underlying88 hi4 hy0 hy1 .i64 .i64 n n n rfl rfl rfl rfl (by rw [hy2]; omega) (by unfold maxLen; omega) (Nat.le_refl _) ?_; intro w1 hrow hg; have HRW := Lib.hid hrow; have HG := Lib.hid hg; clear hrow hg)
  have hrow0 : w1.ownsRow w.heap.size 4 1 (.slice (some ⟨w.heap.size, 0, none⟩) n n) n (boolsV (List.replicate n false)) := by
    have h : w1.ownsRow w.heap.size 4 1 (.slice (some ⟨w.heap.size, 0, none⟩) n n) n (madeCells #[.bool false] (n * 1)).toList := HRW.out
    rw [toList_madeCells_one, Nat.mul_one] at h
    simpa [boolsV] using h
  have S0 := Lib.hid (show GO w n w1 (.slice none 0 0) (Nm.outer (rT tab L) n 0) from ⟨hrow0, ⟨[], World.ownsRow_nil _ _ _ _, fun i r e => by simp [Nm.outer] at e⟩, (Below.refl _ _).grown HG.out (Nat.le_refl _) (fun j e => by cases e), (hrow0.lt _ rfl).2⟩)
  clear hrow0 HRW HG
  go_loopw [16, 4] (fun y v wr => ∃ f : Nat, f ≤ n ∧ y = .int .i64 (f : Int) ∧ GO w n wr v (Nm.outer (rT tab L) n f)) (fun y _ _ => n - (intOf y).toNat)
  case atStart => exact ⟨0, Nat.zero_le _, rfl, S0.out⟩
  case round =>
    clear S0
    obtain ⟨f, hf', rfl, hGO⟩ := hrel
    obtain ⟨wo, hwo⟩ : ∃ wo, wo = wr := ⟨_, rfl⟩
    subst hwo
    have S := Lib.hid hGO
    have hlt := hGO.2.2.2
    have hlen : (Nm.outer (rT tab L) n f).2.length = n := by have := hGO.1.1; simpa [boolsV] using this
    by_cases hfn : f < n
    · have kd : wo.cell? ⟨w.heap.size, f, none⟩ = some (.bool ((Nm.outer (rT tab L) n f).2.getD f true)) := by
        rw [hGO.1.cellAt f (by omega), boolsV, List.getElem?_map, List.getD_eq_getElem?_getD, List.getElem?_eq_getElem (by omega)]; rfl
      cases hd : (Nm.outer (rT tab L) n f).2.getD f true with
      | true =>
        rw [hd] at kd
        have HN := Lib.hid (show Nm.outer (rT tab L) n (f + 1) = Nm.outer (rT tab L) n f by rw [Nm.outer]; simp only [hd, if_true])
        clear hGO hd hlen
        go_wp2_with fail
        go_roundw
        case rel => exact ⟨f + 1, by omega, by go_num, by rw [HN.out]; exact S.out⟩
        case measure => simp [intOf]; omega
      | false =>
        rw [hd] at kd
        have kf := hGO.1.frozenAt f
        have S1 := Lib.hid (GI.start (f := f) hGO)
        have HST := Lib.hid (Nm.outer_start (r := rT tab L) HR.out hfn hlen hd)
        have HNX := Lib.hid (show Nm.outer (rT tab L) n (f + 1) = ((Nm.outer (rT tab L) n f).1 ++ [(List.range n).filter (Nm.wj (rT tab L) n f)], (Nm.bs (rT tab L) n ([f], (Nm.outer (rT tab L) n f).2.set f true) n).2) by rw [Nm.outer]; simp only [hd, Bool.false_eq_true, if_false])
        have HINV := Lib.hid (Nm.outer_inv HR.out HS.out f (by omega))
        have hE : (wo.alloc (.cells #[.int .i64 (f : Int)] 3)).setCell ⟨w.heap.size, f, none⟩ (.bool true) = (wo.setCell ⟨w.heap.size, f, none⟩ (.bool true)).alloc (.cells #[.int .i64 (f : Int)] 3) := by go_simp
        rw [hE] at S1
        clear hGO hd hlen hE
        go_wp2_with fail
        generalize (wo.setCell ⟨w.heap.size, f, none⟩ (.bool true)).alloc (.cells #[.int .i64 (f : Int)] 3) = W0 at *
        generalize hs0 : (([f], (Nm.outer (rT tab L) n f).2.set f true) : List Nat × List Bool) = s0 at *
        have HS0 := Lib.hid hs0
        clear kd kf hs0
        go_loopw [8, 7] (fun y v W => ∃ i : Nat, i ≤ (Nm.bs (rT tab L) n s0 i).1.length ∧ y = .int .i64 (i : Int) ∧ GI w wo n W v (Nm.bs (rT tab L) n s0 i)) (fun y _ _ => n - (intOf y).toNat)
        case atStart => exact ⟨0, Nat.zero_le _, rfl, S1.out⟩
        case round =>
          clear S1
          obtain ⟨i, hi9, rfl, hGI⟩ := hrel
          obtain ⟨hG1, hG2, hG3⟩ := HST.out.bs i
          have hle := hG1.le
          have hl1 : 1 ≤ (Nm.bs (rT tab L) n s0 i).1.length := by
            obtain ⟨t, ht⟩ := hG2
            rw [ht, ← HS0.out]; simp
          have GT := Lib.hid hG1
          have I := Lib.hid hGI
          obtain ⟨kl, hkl⟩ : ∃ kl, (Nm.bs (rT tab L) n s0 i).1.length = kl := ⟨_, rfl⟩
          have HKL := Lib.hid hkl
          have hrw := hGI.2.1
          rw [hkl] at hrw hi9 hle hl1
          obtain ⟨gg, gc, rfl⟩ := Joins.ownsRow_form hrw hl1
          by_cases hil : i < kl
          · obtain ⟨gi, hgi⟩ : ∃ gi, (Nm.bs (rT tab L) n s0 i).1[i]? = some gi := ⟨(Nm.bs (rT tab L) n s0 i).1[i]'(by omega), by simp⟩
            have kg : wr.cell? ⟨gg, i, none⟩ = some (.int .i64 (gi : Int)) := by
              rw [hrw.cellAt i (by omega), natsV, List.getElem?_map, hgi]; rfl
            have hgm : gi ∈ (Nm.bs (rT tab L) n s0 i).1 := List.mem_of_getElem? hgi
            have hgn := hG1.lt gi hgm
            have hgd : (Nm.bs (rT tab L) n s0 i).1.getD i 0 = gi := by rw [List.getD_eq_getElem?_getD, hgi]; rfl
            have HNB := Lib.hid (show Nm.bs (rT tab L) n s0 (i + 1) = Nm.row (rT tab L) gi (Nm.bs (rT tab L) n s0 i) n by rw [Nm.bs, if_pos (by omega), hgd])
            obtain ⟨ug, uc, hrd⟩ := HRD.out gi hgn
            obtain ⟨kt, _⟩ := hrd wr hGI.2.2.2.1
            have HRW := Lib.hid hrd
            have HROW := Lib.hid (fun m hm => hG1.row hgm m hm)
            clear hG1 hG2 hG3 hrw hkl hgi hgm hgd hrd
            go_wp2_with fail
            go_loopw [42, 7] (fun y v W => ∃ q : Nat, q ≤ n ∧ y = .int .i64 (q : Int) ∧ GI w wo n W v (Nm.row (rT tab L) gi (Nm.bs (rT tab L) n s0 i) q)) (fun y _ _ => n - (intOf y).toNat)
            case atStart => exact ⟨0, Nat.zero_le _, rfl, I.out⟩
            case round =>
              clear I kg kt
              obtain ⟨q, hq', rfl, hGI⟩ := hrel
              obtain ⟨hR1, hR2, _⟩ := HROW.out q hq'
              have hle2 := hR1.le
              have hlq : i < (Nm.row (rT tab L) gi (Nm.bs (rT tab L) n s0 i) q).1.length := by
                obtain ⟨t, ht⟩ := hR2
                rw [ht, List.length_append, HKL.out]; omega
              have hlen2 := hR1.len
              have J := Lib.hid hGI
              by_cases hqn : q < n
              · have HNR := Lib.hid (show Nm.row (rT tab L) gi (Nm.bs (rT tab L) n s0 i) (q + 1) = Nm.rowStep (rT tab L) gi (Nm.row (rT tab L) gi (Nm.bs (rT tab L) n s0 i) q) q from rfl)
                generalize Nm.row (rT tab L) gi (Nm.bs (rT tab L) n s0 i) q = sq at *
                obtain ⟨kq, hkq⟩ : ∃ kq, sq.1.length = kq := ⟨_, rfl⟩
                have HKQ := Lib.hid hkq
                have hrw := hGI.2.1
                rw [hkq] at hrw hlq hle2
                obtain ⟨gg2, gc2, rfl⟩ := Joins.ownsRow_form hrw (by omega)
                have kd : wr.cell? ⟨w.heap.size, q, none⟩ = some (.bool (sq.2.getD q true)) := by
                  rw [hGI.1.cellAt q (by omega), boolsV, List.getElem?_map, List.getD_eq_getElem?_getD, List.getElem?_eq_getElem (by omega)]; rfl
                have kc := (HRW.out wr hGI.2.2.2.1).2 q hqn
                have hszw := hGI.size
                have hwl := hGI.2.2.2.2
                have HRQ := Lib.hid (HRT.out gi q)
                have HRW2 := Lib.hid hrw
                generalize (tab.getD gi []).getD q 0 = cq at *
                cases hd : sq.2.getD q true with
                | true =>
                  rw [hd] at kd
                  have HST2 := Lib.hid (show Nm.rowStep (rT tab L) gi sq q = sq by unfold Nm.rowStep; rw [hd]; rfl)
                  clear hGI hR1 hR2 hrw hkq hd
                  go_wp2_with fail
                  go_roundw
                  case rel => exact ⟨q + 1, by omega, by go_num, by rw [HNR.out, HST2.out]; exact J.out⟩
                  case measure => simp [intOf]; omega
                | false =>
                  rw [hd] at kd
                  by_cases hcq : cq ≤ L
                  · have HST2 := Lib.hid (show Nm.rowStep (rT tab L) gi sq q = (sq.1 ++ [q], sq.2.set q true) by unfold Nm.rowStep; rw [hd, HRQ.out]; simp [hcq])
                    have hcq' : (cq : Int) ≤ (L : Int) := by omega
                    clear hGI hR1 hR2 hrw hkq hd
                    go_wp2_with (at_builtin; refine wpList_append_own _ rfl _ _ 39 rfl wo.heap.size 3 i3 (.int .i64 0) 1 8 Try.underlying39 hi3 hx0 hx1 hx2 rfl (by decide) _ _ _ rfl (HRW2.out.alloc _) ⟨wr.heap.size, 0, none⟩ 1 1 [.int .i64 (q : Int)] rfl rfl (cell_one_new _ _ _) (by simp [Value.oneCell']) (by unfold maxLen; omega) (by omega) (by simp; omega) ?_; intro v' w5 hown' hgrow _; have HO5 := Lib.hid hown'; have HG5 := Lib.hid hgrow; have hd5 := (J.out.1.alloc (.cells #[.int .i64 (q : Int)] 3)).kept hgrow (.inr (fun e2 => by have h9 : wo.heap.size ≤ w.heap.size := (HRW2.out.lt w.heap.size e2.symm).1; omega)); have hfz := hd5.frozenAt q; have hcl := hd5.cellAt q (by omega); rw [show (boolsV sq.2)[q]? = some (.bool (sq.2.getD q true)) by rw [boolsV, List.getElem?_map, List.getD_eq_getElem?_getD, List.getElem?_eq_getElem (by omega)]; rfl] at hcl; clear hown' hgrow hd5)
                    go_roundw
                    case rel => exact ⟨q + 1, by omega, by go_num, by rw [HNR.out, HST2.out]; exact J.out.put HKQ.out HO5.out HG5.out⟩
                    case measure => simp [intOf]; omega
                  · have HST2 := Lib.hid (show Nm.rowStep (rT tab L) gi sq q = sq by unfold Nm.rowStep; rw [hd, HRQ.out]; simp [hcq])
                    have hcq' : ¬ (cq : Int) ≤ (L : Int) := by omega
                    clear hGI hR1 hR2 hrw hkq hd
                    go_wp2_with fail
                    go_roundw
                    case rel => exact ⟨q + 1, by omega, by go_num, by rw [HNR.out, HST2.out]; exact J.out⟩
                    case measure => simp [intOf]; omega
              · obtain rfl : q = n := by omega
                clear hGI hR1 hR2
                go_wp2_with fail
                go_roundw
                case rel => exact ⟨i + 1, by rw [HNB.out]; omega, by go_num, by rw [HNB.out]; exact J.out⟩
                case measure => simp [intOf]; omega
          · have hik : i = kl := by omega
            have hle3 : (Nm.bs (rT tab L) n s0 i).1.length ≤ i := by omega
            have hbn : Nm.bs (rT tab L) n s0 n = Nm.bs (rT tab L) n s0 i := by
              have := Nm.bs_stop hle3 (n - i)
              rwa [show i + (n - i) = n by omega] at this
            have hD9 : ∀ x y, x < n → y < n → (Nm.outer (rT tab L) n f).2.getD x true = true → rT tab L x y = true → (Nm.outer (rT tab L) n f).2.getD y true = true := by
              intro x y hx hy hdx hxy
              obtain ⟨_, q2, _⟩ := HINV.out
              rw [q2 x hx] at hdx; rw [q2 y hy]
              obtain ⟨z, hz, hzx⟩ := List.any_eq_true.1 hdx
              exact List.any_eq_true.2 ⟨z, hz, Nm.wj_trans n x z y hx hzx (Nm.wj_base n x y hxy)⟩
            have hga := Nm.gathered HS.out HST.out (by rw [← HS0.out]; simp) hD9 hle3
            obtain ⟨p1, _, p3⟩ := hga
            obtain ⟨vs, hvs, hrs⟩ := S.out.2.1
            have SO := Lib.hid (sort_own hrw (by omega) _ p1 (List.Pairwise.sublist List.filter_sublist List.pairwise_lt_range))
            have HLF := Lib.hid (show ((List.range n).filter (Nm.wj (rT tab L) n f)).length = kl by rw [← p1.length_eq, hkl])
            have HBN := Lib.hid hbn
            have HP3 := Lib.hid p3
            have HVS := Lib.hid hvs
            have hgg : wo.heap.size ≤ gg := (hrw.lt gg rfl).1
            have hszw := hGI.size
            have HVO : ∀ W8, wr.grownBy W8 (some gg) → W8.ownsRow (w.heap.size + 1) 39 1 u4 (Nm.outer (rT tab L) n f).1.length vs ∧ RowsAt W8 (w.heap.size + 1) u4 vs (Nm.outer (rT tab L) n f).1 := fun W8 h8 => by
              have hg9 := grownBy_rowNew I.out.2.2.1 h8 hgg
              have hkk : ∀ {v : Value} {m : Nat} {xs : List Value} {e : TypeId}, wo.ownsRow (w.heap.size + 1) e 1 v m xs → v.ownBlock = none ∨ v.ownBlock ≠ some w.heap.size := by
                intro v m xs e h
                cases hb : v.ownBlock with
                | none => exact .inl rfl
                | some k => exact .inr (fun e => by cases e; have := (h.lt _ hb).1; omega)
              refine ⟨hvs.kept hg9 (hkk hvs), fun j r e => ?_⟩
              obtain ⟨u, k1, k2, k3⟩ := hrs j r e
              exact ⟨u, k1, k2.kept hg9 (hkk k2), k3⟩
            have HVO' := Lib.hid HVO
            have HVB := Lib.hid (fun j (e : u4.ownBlock = some j) => (hvs.lt j e).2)
            have hol : (Nm.outer (rT tab L) n f).1.length ≤ n := by
              obtain ⟨_, _, q3⟩ := HINV.out
              rw [q3, List.length_map]
              have := List.length_filter_le (fun i => (List.range i).all fun k => !Nm.wj (rT tab L) n i k) (List.range f)
              rw [List.length_range] at this
              omega
            clear hG1 hG2 hG3 hrw hkl hbn hD9 p1 p3 hvs hrs HVO hGI hle3 hik
            go_wp2_with (first
              | (go_at_call 47; (refine SO.out.mono ?_); rintro e w8 ⟨rfl, hs8, hg8⟩; have HO8 := Lib.hid hs8; have HG8 := Lib.hid hg8; have hv8 := (HVO'.out w8 hg8).1; have HV8 := Lib.hid hv8; have s8 := hg8.size; clear hs8 hg8 hv8)
              | (at_builtin; refine wpList_append_own_at _ rfl _ _ 31 rfl (w.heap.size + 1) 39 i41 (.slice none 0 0) 1 24 Try.underlying31 hi41 hz0 hz1 hz2 rfl (by decide) _ _ _ rfl (HV8.out.alloc _) ⟨w8.heap.size, 0, none⟩ 1 1 [.slice (some ⟨gg, 0, none⟩) kl gc] rfl rfl (cell_one_new _ _ _) (by simp [Value.oneCell']) (by unfold maxLen; omega) (by omega) (by simp; omega) ?_; intro v' w9 hown' hgrow _ hat; have HO9 := Lib.hid hown'; have HG9 := Lib.hid hgrow; have HAT := Lib.hid hat; clear hown' hgrow hat))
            go_roundw
            case rel =>
              refine ⟨f + 1, by omega, by go_num, ?_⟩
              rw [HNX.out, HBN.out]
              exact GI.close S.out I.out rfl HO8.out HG8.out HLF.out HV8.out (HVO'.out w8 HG8.out).2 HO9.out HG9.out HAT.out HVB.out HP3.out
            case measure => simp [intOf]; omega
    · have S9 := S.out
      obtain rfl : f = n := by omega
      go_wp2_with fail
      go_ret
      exact ⟨_, rfl, S9.2.1, S9.2.2.1⟩
end Go.Proofs.Ytkdflgaahhnigaa

namespace Go.Proofs.Ytkdflgaahhnigaa
open Go.RowKit Go.Shelf

theorem cR_pf (R : RB) (x y : ByteArray) : cR R x y 0 0 = Nm.pf (SW (sndR R) R.al.toNat R.ot.toNat x y) (SA R.soft R.sk.toNat R.ss.toNat R.db.toNat x) (SA R.soft R.sk.toNat R.ss.toNat R.db.toNat y) x.size y.size := by
  unfold cR csD Nm.cs
  rw [Nat.sub_zero, Nat.sub_zero, Nm.rs_eq_pf]
theorem swN_comm (sn : UInt8 → UInt8) (al ot : Nat) (p q : UInt8) : swN sn al ot p q = swN sn al ot q p := by
  unfold swN
  simp only [eq_comm (a := p) (b := q), eq_comm (a := sn p) (b := sn q)]
/-- the cost does not depend on the order -/
theorem cR_comm (R : RB) (x y : ByteArray) : cR R x y 0 0 = cR R y x 0 0 := by
  rw [cR_pf, cR_pf, Nm.pf_swap]
  congr 1
  funext j i
  exact swN_comm _ _ _ _ _
/-- a name and itself -/
theorem cR_self (R : RB) (x : ByteArray) : cR R x x 0 0 = 0 := by
  rw [cR_pf]
  have := Nm.pf_diag (SW (sndR R) R.al.toNat R.ot.toNat x x) (SA R.soft R.sk.toNat R.ss.toNat R.db.toNat x) (SA R.soft R.sk.toNat R.ss.toNat R.db.toNat x) (fun _ => 0) (fun i => by simp [SW, swN]) (fun _ => Nat.le_refl _) rfl x.size
  omega
theorem tabL_get (R : RB) (ys : List ByteArray) (i k : Nat) : ((tabL R ys ys).getD i []).getD k 0 = match ys[i]?, ys[k]? with | some x, some y => cR R x y 0 0 | _, _ => 0 := by
  unfold tabL
  rw [List.getD_eq_getElem?_getD (l := ys.map _), List.getElem?_map]
  cases h : ys[i]? with
  | none => simp
  | some x =>
    simp only [Option.map_some, Option.getD_some]
    unfold costsL
    rw [List.getD_eq_getElem?_getD, List.getElem?_map]
    cases h2 : ys[k]? with
    | none => simp
    | some y => simp
theorem rT_refl (R : RB) (ys : List ByteArray) (L i : Nat) : rT (tabL R ys ys) L i i = true := by
  unfold rT
  rw [tabL_get]
  cases h : ys[i]? with
  | none => simp
  | some x => simp [cR_self]
theorem rT_comm (R : RB) (ys : List ByteArray) (L i k : Nat) : rT (tabL R ys ys) L i k = rT (tabL R ys ys) L k i := by
  unfold rT
  rw [tabL_get, tabL_get]
  cases h : ys[i]? with
  | none => cases h2 : ys[k]? <;> simp
  | some x =>
    cases h2 : ys[k]? with
    | none => simp
    | some y =>
      show decide (cR R x y 0 0 ≤ L) = decide (cR R y x 0 0 ≤ L)
      rw [cR_comm]
set_option maxRecDepth 100000 in
set_option maxHeartbeats 1000000 in
theorem groups_zero {Bt : Nat} (tv : Value) (L : Nat) (w : World) (hT : TabK w Bt tv []) :
    Calls Try.prog 23 #[tv, .int .i64 (L : Int)] w fun e w' => e = .returned (.slice none 0 0) ∧ Below w.heap.size w w' := by
  obtain ⟨vs, h1, _⟩ := hT
  obtain ⟨q, c, rfl⟩ : ∃ q c, tv = .slice q 0 c := by
    rcases Joins.ownsRow_forms h1 with ⟨e, _⟩ | ⟨g, c, e⟩
    · exact ⟨_, _, e⟩
    · exact ⟨_, _, e⟩
  obtain ⟨i4, hi4, hy0, hy1, hy2⟩ := info_parts tInfo4
  clear h1
  go_enter Try.func23, Try.ntmps23
  go_wp2_with (at_make; refine wpList_make_full w rfl _ _ 88 rfl w.heap.size 4 i4 (.bool false) 1 Try.underlying88 hi4 hy0 hy1 .i64 .i64 0 0 0 rfl rfl rfl rfl (by rw [hy2]; omega) (by unfold maxLen; omega) (Nat.le_refl _) ?_; intro w1 hrow hg; have HG := Lib.hid hg; clear hrow hg)
  go_loopw [16, 4] (fun y v wr => y = .int .i64 0 ∧ v = .slice none 0 0 ∧ wr = w1) (fun _ _ _ => 0)
  case atStart => exact ⟨rfl, rfl, rfl⟩
  case round =>
    obtain ⟨rfl, rfl, hw⟩ := hrel
    replace hw := hw.symm
    subst hw
    go_wp2_with fail
    go_ret
    exact ⟨rfl, (Below.refl _ _).grown HG.out (Nat.le_refl _) (fun j e => by cases e)⟩
/-- the groups of a list -/
def grpL (R : RB) (ys : List ByteArray) (L : Nat) : List (List Nat) := (Nm.outer (rT (tabL R ys ys) L) ys.length ys.length).1
theorem groups_any {Bt : Nat} (tv : Value) (L : Nat) (R : RB) (ys : List ByteArray) (w : World) (hT : TabK w Bt tv (tabL R ys ys)) (h12 : ys.length ≤ 12) :
    Calls Try.prog 23 #[tv, .int .i64 (L : Int)] w fun e w' => ∃ v, e = .returned v ∧ TabK w' (w.heap.size + 1) v (grpL R ys L) ∧ Below w.heap.size w w' := by
  rcases Nat.eq_zero_or_pos ys.length with h0 | h0
  · have e1 : ys = [] := List.eq_nil_of_length_eq_zero h0
    subst e1
    exact (groups_zero tv L w hT).mono fun e w' h => ⟨_, h.1, ⟨[], World.ownsRow_nil _ _ _ _, fun i r e => by simp [grpL, Nm.outer] at e⟩, h.2⟩
  · exact groups_pos tv ys.length L (tabL R ys ys) w hT (by simp [tabL]) (fun r hr => by
      unfold tabL at hr
      rw [List.mem_map] at hr
      obtain ⟨x, _, rfl⟩ := hr
      simp [costsL]) h0 h12 (rT_refl R ys L) (rT_comm R ys L)
end Go.Proofs.Ytkdflgaahhnigaa

namespace Go.Proofs.Ytkdflgaahhnigaa
open Go.RowKit Go.Shelf

set_option maxRecDepth 100000 in
set_option maxHeartbeats 2000000 in
theorem Groups_bad (a : Option Addr) (g o c n : Nat) (R : RB) (w : World) (hN : R.cls.length = n) (hk : SK w a g o R.cls) (hc : n ≤ c) (ht : Thn R) (an : Option Addr) (gn on cn m : Nat) (ys : List ByteArray) (hkn : SKn w an gn on cn m ys) (hcm : m ≤ cn) (hm : m ≤ 900) (hl : ∀ y, y ∈ ys → y.size ≤ 1000) (lim : Int) (v : Nat) (hv : lstN R ys [] = v) (h0 : v ≠ 0) :
    Calls Try.prog 7 #[rulesV a n c R.soft R.al R.ot R.sk R.ss R.db, .slice an m cn, .int .i64 lim] w fun e w' => e = .returned (.tuple #[.slice none 0 0, .int .i64 (v : Nat)]) ∧ Below w.heap.size w w' := by
  have CL := Lib.hid (fun W (hW : Below w.heap.size w W) => listed_any a g o c n R W hN (hk.below hW) hc ht an gn on cn m ys (hkn.below hW) hm none 0 0 0 0 [] (skn_nil W) (by omega) (by simpa using hl))
  rw [hv] at CL
  have t0 : ((v : Int) == 0) = false := by simp; omega
  have t1 : ((v : Int) != 0) = true := by simp; omega
  clear hv h0
  have s0 := (KS.start w).new (rulesC a n c R.soft R.al R.ot R.sk R.ss R.db) 27
  have S0 := Lib.hid s0
  obtain ⟨kb0_0, kb0_1, kb0_2, kb0_3, kb0_4, kb0_5, kb0_6⟩ := (s0.blkAt 0 rfl).c7
  clear s0 hk ht hN hkn hl
  go_enter Try.func7, Try.ntmps7
  go_wp2_with (go_at_call 21; (refine (CL.out _ S0.out.bel).mono ?_); rintro e w1 ⟨rfl, hb⟩; have S1 := Lib.hid (S0.out.below hb); obtain ⟨kc0, kc1, kc2, kc3, kc4, kc5, kc6⟩ := (S1.out.blkAt 0 rfl).c7; clear hb)
  go_ret2
  exact ⟨rfl, S1.out.bel⟩
set_option maxRecDepth 100000 in
set_option maxHeartbeats 2000000 in
theorem Groups_range (a : Option Addr) (g o c n : Nat) (R : RB) (w : World) (hN : R.cls.length = n) (hk : SK w a g o R.cls) (hc : n ≤ c) (ht : Thn R) (an : Option Addr) (gn on cn m : Nat) (ys : List ByteArray) (hkn : SKn w an gn on cn m ys) (hcm : m ≤ cn) (hm : m ≤ 900) (hl : ∀ y, y ∈ ys → y.size ≤ 1000) (lim : Int) (hv : lstN R ys [] = 0) (h0 : inB lim 0 5000 = false) :
    Calls Try.prog 7 #[rulesV a n c R.soft R.al R.ot R.sk R.ss R.db, .slice an m cn, .int .i64 lim] w fun e w' => e = .returned (.tuple #[.slice none 0 0, .int .i64 2]) ∧ Below w.heap.size w w' := by
  have CL := Lib.hid (fun W (hW : Below w.heap.size w W) => listed_any a g o c n R W hN (hk.below hW) hc ht an gn on cn m ys (hkn.below hW) hm none 0 0 0 0 [] (skn_nil W) (by omega) (by simpa using hl))
  rw [hv] at CL
  have CW := Lib.hid (fun W => within_any lim 0 5000 W)
  rw [h0] at CW
  clear hv h0
  have s0 := (KS.start w).new (rulesC a n c R.soft R.al R.ot R.sk R.ss R.db) 27
  have S0 := Lib.hid s0
  obtain ⟨kb0_0, kb0_1, kb0_2, kb0_3, kb0_4, kb0_5, kb0_6⟩ := (s0.blkAt 0 rfl).c7
  clear s0 hk ht hN hkn hl
  go_enter Try.func7, Try.ntmps7
  go_wp2_with (first | (go_at_call 21; (refine (CL.out _ S0.out.bel).mono ?_); rintro e w1 ⟨rfl, hb⟩; have S1 := Lib.hid (S0.out.below hb); obtain ⟨kc0, kc1, kc2, kc3, kc4, kc5, kc6⟩ := (S1.out.blkAt 0 rfl).c7; clear hb) | (go_at_call 22; (with_reducible refine (CW.out _).mono ?_); rintro e w2 ⟨rfl, rfl⟩))
  go_ret2
  exact ⟨rfl, S1.out.bel⟩
set_option maxRecDepth 100000 in
set_option maxHeartbeats 2000000 in
theorem Groups_good (a : Option Addr) (g o c n : Nat) (R : RB) (w : World) (hN : R.cls.length = n) (hk : SK w a g o R.cls) (hc : n ≤ c) (ht : Thn R) (an : Option Addr) (gn on cn m : Nat) (ys : List ByteArray) (hkn : SKn w an gn on cn m ys) (hcm : m ≤ cn) (hm : m ≤ 900) (hl : ∀ y, y ∈ ys → y.size ≤ 1000) (L : Nat) (hL : L ≤ 5000) (hv : lstN R ys [] = 0) :
    Calls Try.prog 7 #[rulesV a n c R.soft R.al R.ot R.sk R.ss R.db, .slice an m cn, .int .i64 (L : Int)] w fun e w' => (∃ v, e = .returned (.tuple #[v, .int .i64 0]) ∧ TabK w' (w.heap.size + 1) v (grpL R ys L)) ∧ Below w.heap.size w w' := by
  have CL := Lib.hid (fun W (hW : Below w.heap.size w W) => listed_any a g o c n R W hN (hk.below hW) hc ht an gn on cn m ys (hkn.below hW) hm none 0 0 0 0 [] (skn_nil W) (by omega) (by simpa using hl))
  have hv2 := hv
  unfold lstN at hv2
  split at hv2
  · cases hv2
  rename_i h12
  rw [List.append_nil] at hv2
  obtain ⟨hg, hall⟩ := chkN_ok hv2
  rw [hv] at CL
  have CW := Lib.hid (fun W => within_any (L : Int) 0 5000 W)
  rw [show inB (L : Int) 0 5000 = true by rw [inB_iff]; omega] at CW
  have CT := Lib.hid (fun W (hW : Below w.heap.size w W) => table_any a g o c n R W hN (hk.below hW) hc ht an gn on cn m ys hkn.1 (hkn.below hW).2.1 hcm (by omega) hall hg)
  have CG := Lib.hid (fun tv W Bt (h : TabK W Bt tv (tabL R ys ys)) => groups_any tv L R ys W h (by omega))
  clear hv hv2 h12 hg hall
  have s0 := (KS.start w).new (rulesC a n c R.soft R.al R.ot R.sk R.ss R.db) 27
  have S0 := Lib.hid s0
  obtain ⟨kb0_0, kb0_1, kb0_2, kb0_3, kb0_4, kb0_5, kb0_6⟩ := (s0.blkAt 0 rfl).c7
  clear s0 hk ht hN hkn hl
  go_enter Try.func7, Try.ntmps7
  go_wp2_with (first | (go_at_call 21; (refine (CL.out _ S0.out.bel).mono ?_); rintro e w1 ⟨rfl, hb⟩; have S1 := Lib.hid (S0.out.below hb); obtain ⟨kc0, kc1, kc2, kc3, kc4, kc5, kc6⟩ := (S1.out.blkAt 0 rfl).c7; clear hb) | (go_at_call 22; (with_reducible refine (CW.out _).mono ?_); rintro e w2 ⟨rfl, rfl⟩) | (go_at_call 24; (refine (CT.out _ S1.out.bel).mono ?_); rintro e w2 ⟨v2, rfl, ht2, hb2⟩; have S2 := Lib.hid (S1.out.below hb2); have HT := Lib.hid ht2; clear ht2 hb2) | (go_at_call 23; (refine (CG.out _ _ _ HT.out).mono ?_); rintro e w3 ⟨v3, rfl, hv3, hb3⟩; have S3 := Lib.hid (S2.out.below hb3); have HV3 := Lib.hid hv3; have HB3 := Lib.hid hb3; clear hv3 hb3))
  go_ret2
  refine ⟨⟨_, rfl, ?_⟩, S3.out.bel⟩
  obtain ⟨vs, q1, q2⟩ := HV3.out
  have := S2.out.size
  refine ⟨vs, q1.mono (by omega), fun i r e => ?_⟩
  obtain ⟨u, p1, p2, p3⟩ := q2 i r e
  exact ⟨u, p1, p2.mono (by omega), p3⟩
/-- Groups' error and its groups -/
def groupsE (R : RB) (ys : List ByteArray) (lim : Int) : Nat := if lstN R ys [] = 0 then (if inB lim 0 5000 then 0 else 2) else lstN R ys []
def groupsV (R : RB) (ys : List ByteArray) (lim : Int) : List (List Nat) := if groupsE R ys lim = 0 then grpL R ys lim.toNat else []
theorem tab_nil (w : World) (B : Nat) : TabK w B (.slice none 0 0) [] := ⟨[], World.ownsRow_nil _ _ _ _, fun i r e => by simp at e⟩
theorem Groups_any (a : Option Addr) (g o c n : Nat) (R : RB) (w : World) (hN : R.cls.length = n) (hk : SK w a g o R.cls) (hc : n ≤ c) (ht : Thn R) (an : Option Addr) (gn on cn m : Nat) (ys : List ByteArray) (hkn : SKn w an gn on cn m ys) (hcm : m ≤ cn) (hm : m ≤ 900) (hl : ∀ y, y ∈ ys → y.size ≤ 1000) (lim : Int) :
    Calls Try.prog 7 #[rulesV a n c R.soft R.al R.ot R.sk R.ss R.db, .slice an m cn, .int .i64 lim] w fun e w' => (∃ v, e = .returned (.tuple #[v, .int .i64 (groupsE R ys lim : Nat)]) ∧ TabK w' (w.heap.size + 1) v (groupsV R ys lim)) ∧ Below w.heap.size w w' := by
  by_cases hv : lstN R ys [] = 0
  · cases hb : inB lim 0 5000 with
    | false =>
      have e1 : groupsE R ys lim = 2 := by unfold groupsE; rw [if_pos hv, hb]; rfl
      have e2 : groupsV R ys lim = [] := by unfold groupsV; rw [e1]; rfl
      rw [e1, e2]
      exact (Groups_range a g o c n R w hN hk hc ht an gn on cn m ys hkn hcm hm hl lim hv hb).mono fun e w' h => ⟨⟨_, h.1, tab_nil _ _⟩, h.2⟩
    | true =>
      have e1 : groupsE R ys lim = 0 := by unfold groupsE; rw [if_pos hv, hb]; rfl
      have e2 : groupsV R ys lim = grpL R ys lim.toNat := by unfold groupsV; rw [e1]; rfl
      rw [e1, e2]
      have hb2 := inB_iff.1 hb
      obtain ⟨L, rfl⟩ : ∃ L : Nat, lim = L := ⟨lim.toNat, by omega⟩
      exact Groups_good a g o c n R w hN hk hc ht an gn on cn m ys hkn hcm hm hl L (by omega) hv
  · have e1 : groupsE R ys lim = lstN R ys [] := by unfold groupsE; rw [if_neg hv]
    have e2 : groupsV R ys lim = [] := by unfold groupsV; rw [e1, if_neg hv]
    rw [e1, e2]
    exact (Groups_bad a g o c n R w hN hk hc ht an gn on cn m ys hkn hcm hm hl lim _ rfl hv).mono fun e w' h => ⟨⟨_, h.1, tab_nil _ _⟩, h.2⟩
end Go.Proofs.Ytkdflgaahhnigaa
