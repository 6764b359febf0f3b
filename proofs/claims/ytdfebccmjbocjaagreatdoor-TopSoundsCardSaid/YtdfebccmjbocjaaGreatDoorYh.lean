/- tithingtop: grouped: the entries of each person. -/
import Derived.Test.YtdfebccmjbocjaaGreatDoorYg
import Derived.Maps.AppendAt
import Derived.Deep.Onto
set_option linter.unusedVariables false
set_option linter.unusedSimpArgs false
namespace Go.Proofs.YtdfebccmjbocjaaGreatDoor
open Go.RowKit Go.Shelf
theorem row_below {W W' : World} {base : Nat} {e : TypeId} {size : Nat} {v : Value} {k : Nat} {xs : List Value} (h : W.ownsRow base e size v k xs) (hb : Below W.heap.size W W') : W'.ownsRow base e size v k xs := by
  refine h.kept (grownBy_below hb none) ?_
  rcases h.2 with ⟨rfl, _⟩ | ⟨g, cap, cur, rfl, _, hgb, _⟩
  · exact .inl rfl
  · exact .inr (by simp [Value.ownBlock])
theorem own_shape {w : World} {base : Nat} {e : TypeId} {size : Nat} {v : Value} {n : Nat} {xs : List Value} (h : w.ownsRow base e size v n xs) : ∃ a c, v = .slice a n c := by
  rcases Joins.ownsRow_forms h with ⟨hv, h0⟩ | ⟨g, c, hv⟩
  · exact ⟨none, 0, by rw [hv, h0]⟩
  · exact ⟨_, c, hv⟩
def natsOwn (W : World) (B : Nat) (u : Value) (r : List Nat) : Prop := W.ownsRow B 3 1 u r.length (natV r)
def RowsAt (W : World) (B : Nat) (v : Value) (vs : List Value) (tab : List (List Nat)) : Prop :=
  ∀ (i : Nat) (r : List Nat), tab[i]? = some r → ∃ u : Value, vs[i]? = some u ∧ natsOwn W B u r ∧ (∀ j : Nat, v.ownBlock = some j → u.ownBlock ≠ some j)
/-- a table of the call's own -/
def TabK (W : World) (B : Nat) (v : Value) (tab : List (List Nat)) : Prop :=
  ∃ vs : List Value, W.ownsRow B 41 1 v tab.length vs ∧ RowsAt W B v vs tab
theorem TabK.below {W W' : World} {B : Nat} {v : Value} {tab : List (List Nat)} (h : TabK W B v tab) (hb : Below W.heap.size W W') : TabK W' B v tab := by
  obtain ⟨vs, h1, h2⟩ := h
  refine ⟨vs, row_below h1 hb, fun i r e => ?_⟩
  obtain ⟨u, k1, k2, k3⟩ := h2 i r e
  exact ⟨u, k1, row_below k2 hb, k3⟩
theorem tab_snoc {W W' : World} {B : Nat} {v v' u : Value} {vs : List Value} {tab : List (List Nat)} {r : List Nat} (h1 : W.ownsRow B 41 1 v tab.length vs) (h2 : RowsAt W B v vs tab) (hu : natsOwn W B u r) (hun : ∀ j, v.ownBlock = some j → u.ownBlock ≠ some j)
    (hown : W'.ownsRow B 41 1 v' (tab.length + 1) (vs ++ [u])) (hg : W.grownBy W' v.ownBlock) (hat : v'.ownBlock = v.ownBlock ∨ v'.ownBlock = some W.heap.size) : TabK W' B v' (tab ++ [r]) := by
  have hkeep : ∀ u r, natsOwn W B u r → (∀ j, v.ownBlock = some j → u.ownBlock ≠ some j) → natsOwn W' B u r ∧ (∀ j, v'.ownBlock = some j → u.ownBlock ≠ some j) := by
    intro u r hu hn
    refine ⟨hu.kept hg ?_, fun j e h => ?_⟩
    · cases hb : u.ownBlock with
      | none => exact .inl rfl
      | some k => exact .inr (fun e => hn k e.symm hb)
    · rcases hat with e2 | e2
      · exact hn j (e2 ▸ e) h
      · rw [e2] at e
        cases e
        have := (hu.lt _ h).2
        omega
  have hl : vs.length = tab.length := by simpa using h1.1
  refine ⟨vs ++ [u], by simpa using hown, fun i r' e => ?_⟩
  rw [List.getElem?_append] at e
  split at e
  · obtain ⟨u', k1, k2, k3⟩ := h2 i r' e
    obtain ⟨q1, q2⟩ := hkeep u' r' k2 k3
    exact ⟨u', by rw [List.getElem?_append_left (by omega)]; exact k1, q1, q2⟩
  · have hi : i = tab.length := by
      have := (List.getElem?_eq_some_iff.1 e).1
      simp at this
      omega
    subst hi
    simp at e
    subst e
    obtain ⟨q1, q2⟩ := hkeep u r hu hun
    exact ⟨u, by rw [← hl]; simp, q1, q2⟩
theorem tInfo41 : (Tryz.prog.info? 41).map (fun i => (i.zero, i.size, i.bytes)) = some (some (.slice none 0 0), 1, 24) := by kernel_rfl
theorem cell_one_new (w : World) (v : Value) (t : TypeId) : ∀ (j : Nat) (u : Value), [v][j]? = some u → (w.alloc (.cells #[v] t)).cell? ((⟨w.heap.size, 0, none⟩ : Addr).add j) = some u := news_one' ((Blk.new w #[v] t).cell 0)
def ownTo (of : List Nat) (p i : Nat) : List Nat := (List.range i).filter fun j => ofF of j == p
theorem ownTo_succ (of : List Nat) (p i : Nat) : ownTo of p (i + 1) = ownTo of p i ++ (if ofF of i = p then [i] else []) := by
  unfold ownTo
  rw [List.range_succ, List.filter_append]
  congr 1
  by_cases h : ofF of i = p <;> simp [h]
theorem ownTo_len (of : List Nat) (p i : Nat) : (ownTo of p i).length ≤ i := by
  have := List.length_filter_le (fun j => ofF of j == p) (List.range i)
  rw [List.length_range] at this
  exact this
theorem groupsTo_len (of : List Nat) (q : Nat) : (groupsTo of q).length ≤ q := by
  unfold groupsTo
  have := List.length_filter_le (fun l : List Nat => !l.isEmpty) ((List.range q).map (ownOf of))
  rw [List.length_map, List.length_range] at this
  exact this
set_option maxRecDepth 100000 in
set_option maxHeartbeats 3200000 in
theorem grouped_any (s : Loc) (n : Nat) (of : List Nat) (w : World) (hn : of.length = n) (hS : SlN w s of) (h10 : n ≤ 10) :
    Calls Tryz.prog 16 #[.slice s.a n s.c] w fun e w' => ∃ v, e = .returned v ∧ TabK w' w.heap.size v (groupsL of) ∧ Below w.heap.size w w' := by
  obtain ⟨sa, sb, so, sc⟩ := s
  dsimp only
  have HN := Lib.hid hn
  have cellI : Hid (∀ i, i < n → ∀ W, Below w.heap.size w W → W.cell? ⟨sb, so + i, none⟩ = some (.int .i64 (ofF of i : Nat)) ∧ sa = some ⟨sb, so, none⟩ ∧ sb < W.heap.size) := Lib.hid (fun i hi W hb => by
    have hne : of ≠ [] := by rintro rfl; simp at hn; omega
    refine ⟨(hS.below hb).cells i _ ?_, hS.at_ hne, (hS.below hb).lt hne⟩
    unfold ofF
    rw [List.getD_eq_getElem?_getD, List.getElem?_eq_getElem (by omega)]; rfl)
  obtain ⟨i0, hi0, hz0, hz1, hz2⟩ := info_parts Tryz.info3'
  have HI := Lib.hid (And.intro hi0 (And.intro hz0 (And.intro hz1 hz2)))
  obtain ⟨i1, hj0, hk0, hk1, hk2⟩ := info_parts tInfo41
  have HJ := Lib.hid (And.intro hj0 (And.intro hk0 (And.intro hk1 hk2)))
  clear hS hi0 hz0 hz1 hz2 hj0 hk0 hk1 hk2
  go_enter Tryz.func16, Tryz.ntmps16
  go_wp2_with fail
  go_loopw [4, 3] (fun x v wr => ∃ p : Nat, p ≤ 10 ∧ x = .int .i64 (p : Int) ∧ Hid (TabK wr w.heap.size v (groupsTo of p) ∧ Below w.heap.size w wr)) (fun x _ _ => 10 - (intOf x).toNat)
  case atStart => exact ⟨0, Nat.zero_le _, rfl, Lib.hid ⟨⟨[], World.ownsRow_nil _ _ _ _, fun i r e => by simp [groupsTo] at e⟩, Below.refl _ _⟩⟩
  case round =>
    obtain ⟨p, hp, rfl, H⟩ := hrel
    by_cases hlt : p < 10
    · have b1 : (p : Int) < 10 := by omega
      go_wp2_with fail
      obtain ⟨W1, hW1⟩ : ∃ W1, W1 = wr := ⟨_, rfl⟩
      rw [← hW1] at H ⊢
      clear hW1
      obtain ⟨U3, hU3⟩ : ∃ U3, U3 = u3 := ⟨_, rfl⟩
      rw [← hU3] at H
      have HU := Lib.hid hU3
      clear hU3
      go_loopw [6, 5] (fun y v wr2 => ∃ i : Nat, i ≤ n ∧ y = .int .i64 (i : Int) ∧ Hid (OwnN wr2 W1.heap.size v (ownTo of p i) ∧ Below W1.heap.size W1 wr2)) (fun y _ _ => n - (intOf y).toNat)
      case atStart => exact ⟨0, Nat.zero_le _, rfl, Lib.hid ⟨World.ownsRow_nil _ _ _ _, Below.refl _ _⟩⟩
      case round =>
        obtain ⟨i, hi, rfl, G⟩ := hrel
        by_cases hlt2 : i < n
        · obtain ⟨ci, hsa, hsb⟩ := cellI.out i hlt2 _ (H.out.2.trans (G.out.2.mono H.out.2.size))
          subst hsa
          have d0 : (0 : Int) ≤ (i : Int) := by omega
          have d1 : (i : Int) < (n : Int) := by omega
          have HO := Lib.hid (ownTo_succ of p i)
          have hol := ownTo_len of p i
          by_cases he : ofF of i = p
          · have t1 : (((ofF of i : Nat) : Int) == (p : Int)) = true := by rw [he]; simp
            rw [if_pos he] at HO
            generalize ofF of i = q at *
            clear he
            go_wp2_with (at_builtin; refine wpList_append_own _ rfl _ _ 41 rfl W1.heap.size 3 i0 (.int .i64 0) 1 8 Tryz.underlying41 HI.out.1 HI.out.2.1 HI.out.2.2.1 HI.out.2.2.2 rfl (by decide) _ _ _ rfl (G.out.1.alloc _) ⟨wr.heap.size, 0, none⟩ 1 1 [.int .i64 (i : Int)] rfl rfl (news_one' ((Blk.new wr #[.int .i64 (i : Int)] 3).cell 0)) (by simp [Value.oneCell']) (by unfold maxLen; omega) (by omega) (by have := G.out.2.size; simp; omega) ?_; intro v' w1 hown' hgrow _; have HO1 := Lib.hid hown'; have HG := Lib.hid (((G.out.2.alloc G.out.2.size _).grown hgrow (by have := G.out.2.size; simp; omega) (fun r e => (G.out.1.lt r e).1))); clear hown' hgrow)
            go_roundw
            case rel =>
              refine ⟨i + 1, by omega, by go_num, Lib.hid ⟨?_, HG.out⟩⟩
              rw [HO.out]
              have h2 := HO1.out
              unfold OwnN
              rw [List.length_append]
              simpa [natV] using h2
            case measure => simp [intOf]; omega
          · have t1 : (((ofF of i : Nat) : Int) == (p : Int)) = false := by simp; omega
            rw [if_neg he, List.append_nil] at HO
            generalize ofF of i = q at *
            clear he
            go_wp2_with fail
            go_roundw
            case rel => exact ⟨i + 1, by omega, by go_num, by rw [HO.out]; exact G⟩
            case measure => simp [intOf]; omega
        · obtain rfl : i = n := by omega
          obtain ⟨ad, c, hv⟩ := own_shape G.out.1
          subst hv
          have HS := Lib.hid (groupsTo_succ of p)
          have hoo : ownTo of p i = ownOf of p := by unfold ownTo ownOf; rw [HN.out]
          have hgl := groupsTo_len of p
          have G2 := Lib.hid (hoo ▸ G.out)
          have hU := HU.out
          subst hU
          have hlen : (ownOf of p).length ≤ i := by rw [← hoo]; exact ownTo_len of p i
          have HOO := Lib.hid hoo
          obtain ⟨ol, hol⟩ : ∃ ol, ol = (ownTo of p i).length := ⟨_, rfl⟩
          have hol2 : ol = (ownOf of p).length := by rw [hol, hoo]
          rw [← hol]
          clear hoo
          by_cases h0 : 0 < ol
          · have e0 : (0 : Int) < (ol : Int) := by omega
            have hne : ¬ ownOf of p = [] := by intro e; rw [e] at hol2; simp at hol2; omega
            rw [if_neg hne] at HS
            obtain ⟨vs, h1, h2⟩ := H.out.1
            have H1 := Lib.hid (row_below h1 G.out.2)
            have H1o := Lib.hid h1
            have H2 := Lib.hid h2
            have HX := Lib.hid hol2
            have hsz := H.out.2.size
            have hsz2 := G.out.2.size
            clear h1 h2 hne hol hol2
            go_wp2_with (at_builtin; refine wpList_append_own_at _ rfl _ _ 57 rfl w.heap.size 41 i1 (.slice none 0 0) 1 24 Tryz.underlying57 HJ.out.1 HJ.out.2.1 HJ.out.2.2.1 HJ.out.2.2.2 rfl (by decide) _ _ _ rfl (H1.out.alloc _) ⟨wr.heap.size, 0, none⟩ 1 1 [.slice ad ol c] rfl rfl (cell_one_new _ _ _) (by simp [Value.oneCell']) (by unfold maxLen; omega) (by omega) (by simp; omega) ?_; intro v' w9 hown' hgrow _ hat; have HO9 := Lib.hid hown'; have HG9 := Lib.hid hgrow; have HAT := Lib.hid hat; clear hown' hgrow hat)
            go_roundw
            case rel =>
              have hal := (Below.refl wr.heap.size wr).alloc (Nat.le_refl _) (.cells #[.slice ad ol c] 41)
              have hbl := G.out.2.trans (hal.mono G.out.2.size)
              refine ⟨p + 1, by omega, by go_num, Lib.hid ⟨?_, (H.out.2.trans (hbl.mono H.out.2.size)).grown HG9.out (by have := H.out.2.size; simp; omega) (fun j e => (H1o.out.lt j e).1)⟩⟩
              rw [HS.out]
              have hu : natsOwn wr W1.heap.size (.slice ad ol c) (ownOf of p) := by
                have := G2.out.1
                unfold natsOwn
                rw [HX.out]
                exact this
              refine tab_snoc (W := wr.alloc _) (H1.out.alloc _) (fun j r e => ?_) ((show natsOwn wr w.heap.size (.slice ad ol c) (ownOf of p) from World.ownsRow.mono hu hsz).alloc _) (fun j e e2 => ?_) HO9.out HG9.out HAT.out
              · obtain ⟨u', q1, q2, q3⟩ := H2.out j r e
                exact ⟨u', q1, row_below q2 hbl, q3⟩
              · have := (H1o.out.lt j e).2
                have := (World.ownsRow.lt hu j e2).1
                omega
            case measure => simp [intOf]; omega
          · have e0 : ¬ (0 : Int) < (ol : Int) := by omega
            have hne : ownOf of p = [] := List.eq_nil_of_length_eq_zero (by omega)
            rw [if_pos hne, List.append_nil] at HS
            clear hne hol hol2
            go_wp2_with fail
            go_roundw
            case rel => exact ⟨p + 1, by omega, by go_num, Lib.hid ⟨by rw [HS.out]; exact H.out.1.below G.out.2, H.out.2.trans (G.out.2.mono H.out.2.size)⟩⟩
            case measure => simp [intOf]; omega
    · obtain rfl : p = 10 := by omega
      go_wp2_with fail
      go_ret
      exact ⟨_, rfl, H.out.1, H.out.2⟩
end Go.Proofs.YtdfebccmjbocjaaGreatDoor
