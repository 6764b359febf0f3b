/- tithingref02: Of. -/
import Derived.Test.YtdfebccmjbocjaaGreatDoorWa
import Derived.Test.YtdfebccmjbocjaaGreatDoorWd
import Derived.Test.YtdfebccmjbocjaaGreatDoorYh
set_option linter.unusedVariables false
set_option linter.unusedSimpArgs false
namespace Go.Proofs.YtdfebccmjbocjaaGreatDoor
open Go.RowKit Go.Shelf
/-- a row of numbers, told by a function -/
def OwnI (W : World) (B : Nat) (v : Value) (f : Nat → Int) (n : Nat) : Prop := W.ownsRow B 3 1 v n ((List.range n).map fun m => .int .i64 (f m))
theorem OwnI.congr {W : World} {B n : Nat} {v : Value} {f f' : Nat → Int} (h : OwnI W B v f n) (he : ∀ m, m < n → f' m = f m) : OwnI W B v f' n := by
  unfold OwnI
  rw [List.map_congr_left (g := fun m => Value.int .i64 (f m)) (fun m hm => by rw [he m (List.mem_range.1 hm)])]
  exact h
theorem OwnI.cell {W : World} {B n : Nat} {v : Value} {f : Nat → Int} {g c : Nat} (h : OwnI W B v f n) (hv : v = .slice (some ⟨g, 0, none⟩) n c) {i : Nat} (hi : i < n) : W.cell? ⟨g, i, none⟩ = some (.int .i64 (f i)) := by
  subst hv
  refine (World.ownsRow.cellAt h i (by omega)).trans ?_
  simp [hi]
theorem own_seti {W : World} {B : Nat} {e : TypeId} {n g c i : Nat} {xs : List Value} (h : W.ownsRow B e 1 (.slice (some ⟨g, 0, none⟩) n c) n xs) (u : Value) : (W.setCell ⟨g, i, none⟩ u).ownsRow B e 1 (.slice (some ⟨g, 0, none⟩) n c) n (xs.set i u) := by
  rcases h with ⟨hl, ⟨hv, _⟩ | ⟨g', cap, cur, hv, hB, hg, hcap, hm, hsz, htk⟩⟩
  · cases hv
  · cases hv
    refine ⟨by rw [List.length_set]; exact hl, .inr ⟨g, c, cur.setIfInBounds i u, rfl, hB, Blk.set (show Blk W g cur e from hg) i u, hcap, hm, by rw [Array.size_setIfInBounds]; exact hsz, ?_⟩⟩
    rw [Array.toList_setIfInBounds, List.take_set, htk]
theorem OwnI.set {W : World} {B n g c i : Nat} {f f' : Nat → Int} {x : Int} (h : OwnI W B (.slice (some ⟨g, 0, none⟩) n c) f n) (hf : ∀ m, m < n → f' m = if m = i then x else f m) : OwnI (W.setCell ⟨g, i, none⟩ (.int .i64 x)) B (.slice (some ⟨g, 0, none⟩) n c) f' n := by
  have h2 := own_seti (i := i) h (.int .i64 x)
  have e : ((List.range n).map fun m => Value.int .i64 (f m)).set i (.int .i64 x) = (List.range n).map fun m => Value.int .i64 (f' m) := by
    apply List.ext_getElem?
    intro m
    rw [List.getElem?_set, List.getElem?_map, List.getElem?_map, List.length_map, List.length_range]
    by_cases hm : m < n
    · rw [List.getElem?_range hm]
      simp only [Option.map_some, hf m hm]
      by_cases he : i = m
      · subst he; rw [if_pos rfl, if_pos hm, if_pos rfl]
      · rw [if_neg he, if_neg (fun e => he e.symm)]
    · rw [List.getElem?_eq_none (by simp; omega)]
      by_cases he : i = m
      · subst he; rw [if_pos rfl, if_neg hm]; rfl
      · rw [if_neg he]; rfl
  unfold OwnI
  rw [← e]
  exact h2
theorem OwnI.snoc {W : World} {B n : Nat} {v : Value} {f : Nat → Int} (h : W.ownsRow B 3 1 v (n + 1) (((List.range n).map fun m => .int .i64 (f m)) ++ [.int .i64 (f n)])) : OwnI W B v f (n + 1) := by
  unfold OwnI
  rw [List.range_succ, List.map_append]
  exact h
theorem OwnI.frozen {W : World} {B n : Nat} {f : Nat → Int} {g c : Nat} (h : OwnI W B (.slice (some ⟨g, 0, none⟩) n c) f n) (i : Nat) : W.frozen? ⟨g, i, none⟩ = false := by
  rcases h with ⟨_, ⟨hv, _⟩ | ⟨g', cap, cur, hv, _, hg, _⟩⟩
  · cases hv
  · cases hv; exact Blk.frozen (show Blk W g cur 3 from hg) i
/-- the cells of a table's row -/
theorem TabK.row {W : World} {B : Nat} {v : Value} {tab : List (List Nat)} (h : TabK W B v tab) {k : Nat} {r : List Nat} (hk : tab[k]? = some r) : ∃ (ga ca : Nat) (s : Loc), v = .slice (some ⟨ga, 0, none⟩) tab.length ca ∧ ga < W.heap.size ∧ W.cell? ⟨ga, k, none⟩ = some (.slice s.a r.length s.c) ∧ SlN W s r := by
  obtain ⟨vs, h1, h2⟩ := h
  obtain ⟨u, hu, hr, -⟩ := h2 k r hk
  have hkl := (List.getElem?_eq_some_iff.1 hk).1
  obtain ⟨ga, ca, hv⟩ := Joins.ownsRow_form h1 (by omega)
  obtain ⟨s, hs, hsl, -⟩ := SlN.of_own hr
  subst hv
  refine ⟨ga, ca, s, rfl, (h1.lt ga rfl).2, ?_, hsl⟩
  rw [World.ownsRow.cellAt h1 k (by omega), hu, hs]
def OfPost (tab : List (List Nat)) (n : Nat) (w : World) (x : Ending) (w' : World) : Prop := ∃ v' B', x = .returned (.tuple #[v', .bool true]) ∧ OwnI w' B' v' (fun m => (idxG tab m : Int)) n ∧ Below w.heap.size w w'
set_option maxRecDepth 100000 in
set_option maxHeartbeats 3200000 in
theorem Of_ok (e s a : Loc) (n n1 n2 : Nat) (ol oh nl nh : Int) (B : Nat) (v : Value) (of : List Nat) (tab : List (List Nat)) (w : World) (hn : of.length = n) (h10 : n ≤ 10) (hT : TabK w B v tab) (hG : GrpOk of tab) (h10t : tab.length ≤ 10) (h10r : ∀ r, r ∈ tab → r.length ≤ 10) :
    Calls Tryz.prog 49 #[cenV (.slice e.a n e.c) (.slice s.a n1 s.c) (.slice a.a n2 a.c) ol oh nl nh, v] w (OfPost tab n w) := by
  have s0 := (KS.start w).new (cenA (.slice e.a n e.c) (.slice s.a n1 s.c) (.slice a.a n2 a.c) ol oh nl nh) 40
  obtain ⟨i0, hi0, hz0, hz1, hz2⟩ := info_parts Tryz.info3'
  have HI := Lib.hid (And.intro hi0 (And.intro hz0 (And.intro hz1 hz2)))
  obtain ⟨BS, hBS⟩ : ∃ BS : List (Nat × Array Value × TypeId), BS = [(w.heap.size, cenA (.slice e.a n e.c) (.slice s.a n1 s.c) (.slice a.a n2 a.c) ol oh nl nh, 40)] := ⟨_, rfl⟩
  rw [← hBS] at s0
  have KC := Lib.hid (fun W (h : KS w BS W) => show Blk W w.heap.size (cenA (.slice e.a n e.c) (.slice s.a n1 s.c) (.slice a.a n2 a.c) ol oh nl nh) 40 by rw [hBS] at h; exact h.blkAt 0 rfl)
  have KO := Lib.hid (fun W (h : KS w BS W) g (hg : w.heap.size + 1 ≤ g) i u => show KS w BS (W.setCell ⟨g, i, none⟩ u) from h.setOff (a := ⟨g, i, none⟩) (by show w.heap.size ≤ g; omega) (fun x hx => by rw [hBS] at hx; simp at hx; subst hx; show w.heap.size ≠ g; omega) u)
  have KG := Lib.hid (fun W W' (h : KS w BS W) (row : Option Nat) (hg : W.grownBy W' row) (hr : ∀ r, row = some r → w.heap.size + 1 ≤ r) => show KS w BS W' from ⟨fun x hx => (h.1 x hx).kept hg (fun e => by have := hr _ e.symm; rw [hBS] at hx; simp at hx; subst hx; simp only at this; omega), h.bel.grown hg h.bel.size (fun r e => by have := hr r e; omega)⟩)
  have S0 := Lib.hid s0
  have HT := Lib.hid hT
  have HG := Lib.hid hG
  have HN := Lib.hid hn
  obtain ⟨va, vc, hv⟩ : ∃ (a : Option Addr) (c : Nat), v = .slice a tab.length c := by
    obtain ⟨vs, h1, -⟩ := hT
    rcases Joins.ownsRow_forms h1 with ⟨hv, h0⟩ | ⟨g, c, hv⟩
    · rw [h0]; exact ⟨_, _, hv⟩
    · exact ⟨_, _, hv⟩
  subst hv
  have HR10 := Lib.hid h10r
  have HOF := Lib.hid hn
  clear s0 hT hG hi0 hz0 hz1 hz2 hBS h10r hn
  obtain ⟨c0, -, -, -, -, -, -⟩ := (KC.out _ S0.out).c7
  have cl := (KC.out _ S0.out).lt
  go_enter Tryz.func49, Tryz.ntmps49
  go_wp2_with fail
  go_loopw [7, 6] (fun x v wr => ∃ i : Nat, i ≤ n ∧ x = .int .i64 (i : Int) ∧ Hid (OwnI wr (w.heap.size + 1) v (fun _ => -1) i ∧ KS w BS wr ∧ w.heap.size + 1 ≤ wr.heap.size)) (fun x _ _ => n - (intOf x).toNat)
  case atStart => exact ⟨0, Nat.zero_le _, rfl, Lib.hid ⟨World.ownsRow_nil _ _ _ _, S0.out, by simp⟩⟩
  case round =>
    obtain ⟨i, hi, rfl, H⟩ := hrel
    obtain ⟨c0, -, -, -, -, -, -⟩ := (KC.out _ H.out.2.1).c7
    have cl := (KC.out _ H.out.2.1).lt
    by_cases hin : i < n
    · have b1 : (i : Int) < (n : Int) := by omega
      have HSZ := Lib.hid H.out.2.2
      go_wp2_with (at_builtin; refine wpList_append_own _ rfl _ _ 41 rfl (w.heap.size + 1) 3 i0 (.int .i64 0) 1 8 Tryz.underlying41 HI.out.1 HI.out.2.1 HI.out.2.2.1 HI.out.2.2.2 rfl (by decide) _ _ _ rfl (row_below H.out.1 ((Below.refl _ _).alloc (Nat.le_refl _) _)) ⟨wr.heap.size, 0, none⟩ 1 1 [.int .i64 (-1)] rfl rfl (news_one' ((Blk.new wr #[.int .i64 (-1)] 3).cell 0)) (by simp [Value.oneCell']) (by unfold maxLen; omega) (by omega) (by have := HSZ.out; simp; omega) ?_; intro v' w1 hown' hgrow _; have HO1 := Lib.hid hown'; have HG1 := Lib.hid hgrow; clear hown' hgrow)
      go_roundw
      case rel =>
        have hba : Below wr.heap.size wr (wr.alloc (.cells #[.int .i64 (-1)] 3)) := (Below.refl _ _).alloc (Nat.le_refl _) _
        have h3s := HSZ.out
        have hsz := HG1.out.size
        exact ⟨i + 1, by omega, by go_num, Lib.hid ⟨OwnI.snoc HO1.out, KG.out _ _ (H.out.2.1.below hba) _ HG1.out (fun r e => (H.out.1.lt r e).1), by simp at hsz; omega⟩⟩
      case measure => simp [intOf]; omega
    · obtain rfl : i = n := by omega
      have b1 : ¬ (i : Int) < (i : Int) := by omega
      obtain ⟨a6, c6, hv6⟩ : ∃ (a : Option Addr) (c : Nat), u6 = .slice a i c := by
        rcases Joins.ownsRow_forms H.out.1 with ⟨hv, h0⟩ | ⟨g, c, hv⟩
        · rw [h0]; exact ⟨_, _, hv⟩
        · exact ⟨_, _, hv⟩
      subst hv6
      have HR := Lib.hid (And.intro (H.out.1.congr (f' := stF tab 0 0) (fun m _ => st_zero m)) H.out.2.1)
      clear H
      go_wp2_with fail
      go_loopw [8] (fun x wr2 => ∃ k : Nat, k ≤ tab.length ∧ x = .int .i64 (k : Int) ∧ Hid (OwnI wr2 (w.heap.size + 1) (.slice a6 i c6) (stF tab k 0) i ∧ KS w BS wr2)) (fun x _ => tab.length - (intOf x).toNat)
      case atStart => exact ⟨0, Nat.zero_le _, rfl, HR⟩
      case round =>
        clear HR
        obtain ⟨k, hk, rfl, G⟩ := hrel
        by_cases hkt : k < tab.length
        · obtain ⟨r, hr⟩ : ∃ r, tab[k]? = some r := ⟨_, List.getElem?_eq_getElem hkt⟩
          have hrm := List.mem_of_getElem? hr
          obtain ⟨ga, ca, s1, hv, hga, hcell, hsl⟩ := HT.out.row hr
          simp only [Value.slice.injEq, true_and] at hv
          obtain ⟨hv1, hv2⟩ := hv
          subst hv1
          subst hv2
          have hrl : 0 < r.length := List.length_pos_iff.2 (HG.out.ne r hrm)
          have hr10 := HR10.out r hrm
          have hrne := HG.out.ne r hrm
          obtain ⟨s1a, s1b, s1o, s1c⟩ := s1
          have e1 := hsl.at_ hrne
          dsimp only at e1 hcell
          subst e1
          have q0 : (0 : Int) ≤ (k : Int) := by omega
          have q1 : (k : Int) < (tab.length : Int) := by omega
          have t0 : ((r.length : Int) == 0) = false := by simp; omega
          have HCL := Lib.hid (fun W (h : KS w BS W) => And.intro ((h.bel.cell (p := ⟨ga, k, none⟩) hga).trans hcell) (Nat.lt_of_lt_of_le hga h.bel.size))
          have HSL := Lib.hid (fun W (h : KS w BS W) => hsl.below h.bel)
          have HRR := Lib.hid (And.intro hr (And.intro hrm hrne))
          obtain ⟨cg, lg⟩ := HCL.out _ G.out.2
          clear hr hrm hrne hcell hga hsl
          go_wp2_with fail
          go_loopw [9] (fun x wr3 => ∃ p : Nat, p ≤ r.length ∧ x = .int .i64 (p : Int) ∧ Hid (OwnI wr3 (w.heap.size + 1) (.slice a6 i c6) (stF tab k p) i ∧ KS w BS wr3)) (fun x _ => r.length - (intOf x).toNat)
          case atStart => exact ⟨0, Nat.zero_le _, rfl, G⟩
          case round =>
            clear G
            obtain ⟨p, hp, rfl, F⟩ := hrel
            obtain ⟨cg, lg⟩ := HCL.out _ F.out.2
            by_cases hpr : p < r.length
            · obtain ⟨x, hx⟩ : ∃ x, r[p]? = some x := ⟨_, List.getElem?_eq_getElem hpr⟩
              have hxn : x < i := by rw [← HOF.out]; exact HG.out.lt r HRR.out.2.1 x (List.mem_of_getElem? hx)
              obtain ⟨st1, st2⟩ := st_new HG.out HRR.out.1 hx
              obtain ⟨g6, cc, hv6⟩ := Joins.ownsRow_form F.out.1 (by omega)
              simp only [Value.slice.injEq, true_and] at hv6
              obtain ⟨hv7, hv8⟩ := hv6
              subst hv7
              subst hv8
              have hg6 := F.out.1.lt g6 rfl
              have cx := F.out.1.cell rfl hxn
              rw [st1] at cx
              have fx := F.out.1.frozen x
              have cr := (HSL.out _ F.out.2).cells p x hx
              have lr := (HSL.out _ F.out.2).lt HRR.out.2.2
              dsimp only at cr lr
              have ein : inB (x : Int) 0 ((i : Int) - 1) = true := by unfold inB; simp; omega
              have C80 := Lib.hid (fun W => In80_any (x : Int) 0 ((i : Int) - 1) W)
              rw [ein] at C80
              have q2 : (0 : Int) ≤ (p : Int) := by omega
              have q3 : (p : Int) < (r.length : Int) := by omega
              have q4 : (0 : Int) ≤ (x : Int) := by omega
              have q5 : (x : Int) < (i : Int) := by omega
              have l6 := hg6.2
              have HST := Lib.hid st2
              have HG6 := Lib.hid hg6.1
              have HXX := Lib.hid hx
              clear st1 st2 hg6 ein hx
              by_cases hp0 : 0 < p
              · obtain ⟨p1, hp1⟩ : ∃ p1, p1 = p - 1 := ⟨_, rfl⟩
                have sp1 : (p : Int) - 1 = (p1 : Int) := by omega
                obtain ⟨y, hy⟩ : ∃ y, r[p1]? = some y := ⟨_, List.getElem?_eq_getElem (by omega)⟩
                have hyx : y < x := by
                  have hy' := List.getElem?_eq_some_iff.1 hy
                  have hx' := List.getElem?_eq_some_iff.1 HXX.out
                  have := List.pairwise_iff_getElem.1 (HG.out.sorted r HRR.out.2.1) p1 p hy'.1 hx'.1 (by omega)
                  rwa [hy'.2, hx'.2] at this
                have cy := (HSL.out _ F.out.2).cells p1 y hy
                dsimp only at cy
                have q6 : (0 : Int) < (p : Int) := by omega
                have q7 : ¬ (x : Int) ≤ (y : Int) := by omega
                have q8 : (0 : Int) ≤ (p1 : Int) := by omega
                have q9 : (p1 : Int) < (r.length : Int) := by omega
                clear hp1 hy
                go_wp2_with (go_at_call 80; (with_reducible refine (C80.out _).mono ?_); rintro e w' ⟨rfl, rfl⟩)
                go_roundw
                case rel => exact ⟨p + 1, by omega, by go_num, Lib.hid ⟨F.out.1.set (fun m _ => HST.out m), KO.out _ F.out.2 g6 HG6.out x _⟩⟩
                case measure => simp [intOf]; omega
              · have q6 : ¬ (0 : Int) < (p : Int) := by omega
                go_wp2_with (go_at_call 80; (with_reducible refine (C80.out _).mono ?_); rintro e w' ⟨rfl, rfl⟩)
                go_roundw
                case rel => exact ⟨p + 1, by omega, by go_num, Lib.hid ⟨F.out.1.set (fun m _ => HST.out m), KO.out _ F.out.2 g6 HG6.out x _⟩⟩
                case measure => simp [intOf]; omega
            · have hpx : p = r.length := by omega
              have HF := Lib.hid (And.intro (F.out.1.congr (f' := stF tab (k + 1) 0) (fun m _ => by rw [hpx]; exact st_row HG.out HRR.out.1 m)) F.out.2)
              have q3 : ¬ (p : Int) < (r.length : Int) := by omega
              clear hpx
              go_wp2_with fail
              go_roundw
              case rel => exact ⟨k + 1, by omega, by go_num, HF⟩
              case measure => simp [intOf]; omega
        · have hkx : k = tab.length := by omega
          have HF := Lib.hid (And.intro (G.out.1.congr (f' := fun m => (idxG tab m : Int)) (fun m hm => by rw [hkx]; exact (st_all HG.out (by rw [HOF.out]; exact hm)).symm)) G.out.2)
          have q1 : ¬ (k : Int) < (tab.length : Int) := by omega
          clear hkx G
          go_wp2_with fail
          go_loopw [11] (fun x wr4 => ∃ j : Nat, j ≤ i ∧ x = .int .i64 (j : Int) ∧ Hid (OwnI wr4 (w.heap.size + 1) (.slice a6 i c6) (fun m => (idxG tab m : Int)) i ∧ KS w BS wr4)) (fun x _ => i - (intOf x).toNat)
          case atStart => exact ⟨0, Nat.zero_le _, rfl, HF⟩
          case round =>
            clear HF
            obtain ⟨j, hj, rfl, F⟩ := hrel
            by_cases hji : j < i
            · obtain ⟨g6, cc, hv6⟩ := Joins.ownsRow_form F.out.1 (by omega)
              simp only [Value.slice.injEq, true_and] at hv6
              obtain ⟨hv7, hv8⟩ := hv6
              subst hv7
              subst hv8
              have cx := F.out.1.cell rfl hji
              have l6 := (F.out.1.lt g6 rfl).2
              have q2 : (0 : Int) ≤ (j : Int) := by omega
              have q3 : (j : Int) < (i : Int) := by omega
              obtain ⟨z, hz⟩ : ∃ z, z = idxG tab j := ⟨_, rfl⟩
              rw [← hz] at cx
              have q4 : ¬ (z : Int) < 0 := by omega
              clear hz
              go_wp2_with fail
              go_roundw
              case rel => exact ⟨j + 1, by omega, by go_num, F⟩
              case measure => simp [intOf]; omega
            · have q3 : ¬ (j : Int) < (i : Int) := by omega
              go_wp2_with fail
              exact bodyPost_ret (v := .tuple #[.slice a6 i c6, .bool true]) (by simp [results, Tryz.results49, go_sem]) rfl ⟨_, _, rfl, F.out.1, F.out.2.bel⟩
end Go.Proofs.YtdfebccmjbocjaaGreatDoor
