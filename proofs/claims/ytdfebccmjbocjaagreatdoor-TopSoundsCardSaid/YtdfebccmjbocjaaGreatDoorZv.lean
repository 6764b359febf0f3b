/- sheet: read. -/
import Derived.Test.YtdfebccmjbocjaaGreatDoorZw
import Derived.Test.YtdfebccmjbocjaaGreatDoorZr
import Derived.Test.YtdfebccmjbocjaaGreatDoorZn
import Derived.Test.YtdfebccmjbocjaaGreatDoorZy
import Derived.AtR
import Derived.WalkMore
set_option linter.unusedVariables false
set_option linter.unusedSimpArgs false
namespace Go.Proofs.YtdfebccmjbocjaaGreatDoor
open Go.RowKit Go.Shelf
attribute [local go_sem] Oper.semAt_some

def powL (i : Nat) : List Nat := (List.range i).map fun k => 2 ^ k
theorem powL_succ (i : Nat) : powL (i + 1) = powL i ++ [2 ^ i] := by unfold powL; rw [List.range_succ, List.map_append]; rfl
theorem powL_len (i : Nat) : (powL i).length = i := by simp [powL]
def ReadPost (e s a : Loc) (es : List Ent) (sm ap : List (Nat × Nat)) (ol oh nl nh : Int) (w : World) (x : Ending) (w' : World) : Prop :=
  ∃ (g : Nat) (ad : Option Addr) (m c Lw : Nat), x = .returned (.pointer (some ⟨g, 0, none⟩)) ∧ PW w' g (.slice e.a es.length e.c) (.slice s.a sm.length s.c) (.slice a.a ap.length a.c) ol oh nl nh ad m c Lw ∧ ReadOf es sm ap m Lw ∧ m ≤ 10 ∧ Below w.heap.size w w'
set_option maxRecDepth 100000 in
set_option maxHeartbeats 8000000 in
theorem read_any (e s a : Loc) (es : List Ent) (sm ap : List (Nat × Nat)) (ol oh nl nh : Int) (w : World) (hE : SlE w e es) (hS : SlP w s sm) (hA : SlP w a ap) (hn : es.length ≤ 10) (hsm : sm.length ≤ 6) (hap : ap.length ≤ 6) (hsv : ∀ p ∈ sm, p.1 < es.length ∧ p.2 < es.length) (hav : ∀ p ∈ ap, p.1 < 64 ∧ p.2 < 64) (hT : GT w) (h1 : 1 < w.heap.size) :
    Calls Tryz.prog 66 #[cenV (.slice e.a es.length e.c) (.slice s.a sm.length s.c) (.slice a.a ap.length a.c) ol oh nl nh] w (ReadPost e s a es sm ap ol oh nl nh w) := by
  obtain ⟨ea, eb, eo, ec⟩ := e
  obtain ⟨sa, sb, so, sc⟩ := s
  obtain ⟨aa0, ab, ao, ac⟩ := a
  dsimp only
  refine (callsIn_wide (n := 8)).1 ?_
  have s0 := (KS.start w).new (cenA (.slice ea es.length ec) (.slice sa sm.length sc) (.slice aa0 ap.length ac) ol oh nl nh) 54
  obtain ⟨q0, q1, q2, q3, q4, q5, q6⟩ := (s0.blkAt 0 rfl).c7
  have hr0 : Rd w w.heap.size (.slice ea es.length ec) (.slice sa sm.length sc) (.slice aa0 ap.length ac) ol oh nl nh (.slice none 0 0) (powL 0) (fun _ => false) (fun _ => 0) (((w.alloc (.cells (cenA (.slice ea es.length ec) (.slice sa sm.length sc) (.slice aa0 ap.length ac) ol oh nl nh) 54)).alloc (.cells (((((((Tryz.zeroCells107.setIfInBounds 0 (.slice ea es.length ec)).setIfInBounds 1 (.slice sa sm.length sc)).setIfInBounds 2 (.slice aa0 ap.length ac)).setIfInBounds 3 (.int .i64 ol)).setIfInBounds 4 (.int .i64 oh)).setIfInBounds 5 (.int .i64 nl)).setIfInBounds 6 (.int .i64 nh)) 107)).alloc (.cells #[.pointer (some ⟨w.heap.size + 1, 0, none⟩)] 95)) := by
    have s2 := (s0.new (((((((Tryz.zeroCells107.setIfInBounds 0 (.slice ea es.length ec)).setIfInBounds 1 (.slice sa sm.length sc)).setIfInBounds 2 (.slice aa0 ap.length ac)).setIfInBounds 3 (.int .i64 ol)).setIfInBounds 4 (.int .i64 oh)).setIfInBounds 5 (.int .i64 nl)).setIfInBounds 6 (.int .i64 nh)) 107).new #[.pointer (some ⟨w.heap.size + 1, 0, none⟩)] 95
    simp only [World.size_alloc] at s2
    exact ⟨s2.blkAt 2 rfl, s2.blkAt 0 rfl, ⟨_, s2.blkAt 1 rfl, wk_new _ _ _ _ _ _ _⟩, ⟨rfl, .inl ⟨rfl, rfl⟩⟩, s2.2⟩
  have R0 := Lib.hid hr0
  have HN := Lib.hid hn
  have HS := Lib.hid hS
  have HA := Lib.hid hA
  have HE := Lib.hid hE
  have HSV := Lib.hid (And.intro hsv (And.intro hav (And.intro hsm hap)))
  have HT := Lib.hid (And.intro hT h1)
  clear s0 hr0 hS hA hE hsv hav hT hsm hap
  refine callsIn_of_wp_marks Tryz.func66 rfl trivial ?_ rfl
  simp only [Tryz.ntmps66, List.size_toArray, List.length_cons, List.length_nil, Nat.reduceAdd, Nat.reduceSub, Array.replicate_succ, Array.replicate_zero, List.push_toArray, List.append_toArray, List.nil_append, List.cons_append]
  gi_wp2_with fail
  clear q0 q1 q2 q3 q4 q5 q6
  gi_loopw [18] (fun x wr => ∃ i : Nat, i ≤ es.length ∧ x = .int .i64 (i : Int) ∧ Hid (∃ v, Rd w w.heap.size (.slice ea es.length ec) (.slice sa sm.length sc) (.slice aa0 ap.length ac) ol oh nl nh v (powL i) (fun _ => false) (fun _ => 0) wr)) (fun x _ => es.length - (intOf x).toNat)
  case atStart => exact ⟨0, Nat.zero_le _, rfl, _, R0.out⟩
  case round =>
    clear R0
    obtain ⟨i, hi, rfl, H⟩ := hrel
    obtain ⟨v, HR⟩ : ∃ v, Hid (Rd w w.heap.size (.slice ea es.length ec) (.slice sa sm.length sc) (.slice aa0 ap.length ac) ol oh nl nh v (powL i) (fun _ => false) (fun _ => 0) wr) := by obtain ⟨v, h⟩ := H.out; exact ⟨v, h⟩
    clear H
    by_cases hlt : i < es.length
    · gi_wp2_with fail
      refine wpIn_wide.2 ?_
      have hS : KS w [(w.heap.size + 2, #[.pointer (some ⟨w.heap.size + 1, 0, none⟩)], 95)] wr.drew := HR.out.ks.drew
      have HRD := Lib.hid HR.out.drew
      have K0 : ∀ W, KS w [(w.heap.size + 2, #[.pointer (some ⟨w.heap.size + 1, 0, none⟩)], 95)] W → W.cell? ⟨w.heap.size + 1 + 1, 0, none⟩ = some (.pointer (some ⟨w.heap.size + 1, 0, none⟩)) := fun W h => (h.blkAt 0 rfl).cell 0
      have KG : ∀ W, KS w [(w.heap.size + 2, #[.pointer (some ⟨w.heap.size + 1, 0, none⟩)], 95)] W → w.heap.size + 1 < W.heap.size := fun W h => by have := (h.blkAt 0 rfl).lt; omega
      obtain ⟨i0, hi0, hz0, hz1, hz2⟩ := info_parts Tryz.info109
      have HI := Lib.hid (And.intro hi0 (And.intro hz0 (And.intro hz1 hz2)))
      clear hi0 hz0 hz1 hz2
      have h2 : 2 ^ i ≤ 2 ^ 10 := Nat.pow_le_pow_right (by omega) (by omega)
      have e2i : ((2 : Int) ^ i) = ((2 ^ i : Nat) : Int) := by rw [Int.natCast_pow]; rfl
      obtain ⟨P, hP⟩ : ∃ P, P = 2 ^ i := ⟨_, rfl⟩
      rw [← hP] at e2i h2
      have ep : IntKind.u64.wrap (2 ^ i) = (P : Int) := by rw [e2i]; exact IntWalk.u64_in _ (by omega)
      have HP := Lib.hid hP
      clear e2i hP
      refine wp_joinZ (ι := Nat × Value) (f := fun aa bb => (((((((((((aa.put (some 21) (.pointer (some ⟨w.heap.size + 1, 0, none⟩))).put (some 22) (.pointer (some ⟨w.heap.size + 1, 0, none⟩))).put (some 23) (.pointer (some ⟨w.heap.size + 1, 0, none⟩))).put (some 24) (.pointer (some ⟨w.heap.size + 1, 7, none⟩))).put (some 25) (v)).put (some 26) (.int .i64 (i : Int))).put (some 27) (.int .u64 (P : Int))).put (some 28) (.slice (some ⟨bb.1, 0, none⟩) 1 1)).put (some 29) (bb.2)).put (some 30) (.pointer (some ⟨w.heap.size + 1, 0, none⟩))).put (some 31) (.pointer (some ⟨w.heap.size + 1, 7, none⟩)))) (mid := fun bb W' => Rd w w.heap.size (.slice ea es.length ec) (.slice sa sm.length sc) (.slice aa0 ap.length ac) ol oh nl nh bb.2 (powL (i + 1)) (fun _ => false) (fun _ => 0) W') ?_ ?_
      · refine wp_region_held_drew (S := KS w [(w.heap.size + 2, #[.pointer (some ⟨w.heap.size + 1, 0, none⟩)], 95)]) (by kernel_rfl) hS (fun hHeld => ?_)
        clear hS
        refine wpAnyH_take (i := 0) (v := ?_) rfl (by kernel_rfl) (by kernel_rfl) (by kernel_rfl) (fun _ _ _ h => (by cases h.1)) (Or.inl ⟨by rfl, ?h0⟩) hHeld ?_
        case h0 =>
          intro w' hSw
          (try dsimp only at hSw)
          go_simp
          (try with_reducible rfl)
        (try simp only [Act.put]); (try simp only [List.setIfInBounds_toArray]); (try simp only [List.set_cons_succ]); (try simp only [List.set_cons_zero])
        refine wpAnyH_take (i := 1) (v := ?_) rfl (by kernel_rfl) (by kernel_rfl) (by kernel_rfl) (fun _ _ _ h => (by cases h.1)) (Or.inl ⟨by rfl, ?h1⟩) hHeld ?_
        case h1 =>
          intro w' hSw
          (try dsimp only at hSw)
          go_simp
          (try with_reducible rfl)
        (try simp only [Act.put]); (try simp only [List.setIfInBounds_toArray]); (try simp only [List.set_cons_succ]); (try simp only [List.set_cons_zero])
        refine wpAnyH_take (i := 5) (v := ?_) rfl (by kernel_rfl) (by kernel_rfl) (by kernel_rfl) (fun _ _ _ h => (by cases h.1)) (Or.inl ⟨by rfl, ?h5⟩) hHeld ?_
        case h5 =>
          intro w' hSw
          (try dsimp only at hSw)
          go_simp
          (try with_reducible rfl)
        (try simp only [Act.put]); (try simp only [List.setIfInBounds_toArray]); (try simp only [List.set_cons_succ]); (try simp only [List.set_cons_zero])
        refine wpAnyH_take (i := 6) (v := ?_) rfl (by kernel_rfl) (by kernel_rfl) (by kernel_rfl) (fun _ _ _ h => (by cases h.1)) (Or.inl ⟨by rfl, ?h6⟩) hHeld ?_
        case h6 =>
          intro w' hSw
          (try dsimp only at hSw)
          go_simp
          (try with_reducible rfl)
        (try simp only [Act.put]); (try simp only [List.setIfInBounds_toArray]); (try simp only [List.set_cons_succ]); (try simp only [List.set_cons_zero])
        refine wpAnyH_ready (rs := [2, 7]) (by kernel_rfl) (by simp) ?_
        refine AllReadyH.cons rfl (fun K hK => ?_) (AllReadyH.cons rfl (fun K hK => ?_) (AllReadyH.nil))
        · go_simp
          refine hK.out _ _ hHeld (fun hHeld => ?_)
          clear hK K
          (try simp only [Act.put]); (try simp only [List.setIfInBounds_toArray]); (try simp only [List.set_cons_succ]); (try simp only [List.set_cons_zero])
          refine wpAnyH_take (i := 3) (v := ?_) rfl (by kernel_rfl) (by kernel_rfl) (by kernel_rfl) (fun _ _ _ h => (by cases h.1)) (Or.inl ⟨by rfl, ?h3⟩) hHeld ?_
          case h3 =>
            intro w' hSw
            (try dsimp only at hSw)
            go_simp
            (try with_reducible rfl)
          (try simp only [Act.put]); (try simp only [List.setIfInBounds_toArray]); (try simp only [List.set_cons_succ]); (try simp only [List.set_cons_zero])
          refine wpAnyH_ready (rs := [4, 7]) (by kernel_rfl) (by simp) ?_
          refine AllReadyH.cons rfl (fun K hK => ?_) (AllReadyH.cons rfl (fun K hK => ?_) (AllReadyH.nil))
          · have c7 := HRD.out.c7
            go_simp
            clear c7
            refine hK.out _ _ hHeld (fun hHeld => ?_)
            clear hK K
            (try simp only [Act.put]); (try simp only [List.setIfInBounds_toArray]); (try simp only [List.set_cons_succ]); (try simp only [List.set_cons_zero])
            refine wpAnyH_ready (rs := [7]) (by kernel_rfl) (by simp) ?_
            refine AllReadyH.cons rfl (fun K hK => ?_) (AllReadyH.nil)
            go_simp
            have nb := (Blk.new wr #[.int .u64 (P : Int)] 109).drew
            have NB := Lib.hid nb
            clear nb
            have HRD := Lib.hid ((HR.out.alloc (.cells #[.int .u64 (P : Int)] 109)).drew)
            refine hK.out _ _ (hHeld.alloc _) (fun hHeld => ?_)
            clear hK K
            (try simp only [Act.put]); (try simp only [List.setIfInBounds_toArray]); (try simp only [List.set_cons_succ]); (try simp only [List.set_cons_zero])
            refine wpAnyH_ready (rs := [8]) (by kernel_rfl) (by simp) ?_
            refine AllReadyH.cons rfl (fun K hK => ?_) (AllReadyH.nil)
            refine step_append_set rfl _ _ 103 rfl (w.heap.size + 3) 109 i0 (.int .u64 0) 1 8 Tryz.underlying103 HI.out.1 HI.out.2.1 HI.out.2.2.1 HI.out.2.2.2 rfl (by decide) v (powL i).length (setsV (powL i)) rfl HRD.out.row ⟨_, 0, none⟩ 1 1 [.int .u64 (P : Int)] rfl rfl (news_one' (NB.out.cell 0)) (by simp [Value.oneCell']) (by rw [powL_len]; unfold maxLen; omega) (by rw [powL_len]; omega) HRD.out.size ?_
            intro v9 w9 hown hgr _
            obtain ⟨gr, cr, rfl⟩ := Joins.ownsRow_form hown (by omega)
            have hmid := HRD.out.mid hgr
            obtain ⟨m1, m2, m3, m4, m5⟩ := hmid
            have HAP := Lib.hid (HRD.out.app hown hgr)
            clear hown hgr
            refine hK.out _ _ ⟨fun x hx => by simp only [List.mem_cons, List.not_mem_nil, or_false] at hx; subst hx; exact m4, m5⟩ (fun hHeld => ?_)
            clear hK K m4 m5
            (try simp only [Act.put]); (try simp only [List.setIfInBounds_toArray]); (try simp only [List.set_cons_succ]); (try simp only [List.set_cons_zero])
            refine wpAnyH_ready (rs := [9]) (by kernel_rfl) (by simp) ?_
            refine AllReadyH.cons rfl (fun K hK => ?_) (AllReadyH.nil)
            go_simp
            refine hK.out _ _ hHeld (fun hHeld => ?_)
            clear hK K
            (try simp only [Act.put]); (try simp only [List.setIfInBounds_toArray]); (try simp only [List.set_cons_succ]); (try simp only [List.set_cons_zero])
            refine wpAnyH_take (i := 10) (v := ?_) rfl (by kernel_rfl) (by kernel_rfl) (by kernel_rfl) (fun _ _ _ h => (by cases h.1)) (Or.inl ⟨by rfl, ?h10⟩) hHeld ?_
            case h10 =>
              intro w' hSw
              (try dsimp only at hSw)
              go_simp
              (try with_reducible rfl)
            (try simp only [Act.put]); (try simp only [List.setIfInBounds_toArray]); (try simp only [List.set_cons_succ]); (try simp only [List.set_cons_zero])
            refine wpAnyH_ready (rs := [11]) (by kernel_rfl) (by simp) ?_
            refine AllReadyH.cons rfl (fun K hK => ?_) (AllReadyH.nil)
            go_simp
            refine hK.out _ _ HAP.out.ks (fun hHeld => ?_)
            clear hK K
            (try simp only [Act.put]); (try simp only [List.setIfInBounds_toArray]); (try simp only [List.set_cons_succ]); (try simp only [List.set_cons_zero])
            refine wpAnyH_done (by kernel_rfl) ?_ _
            refine ⟨rfl, (_, _), rfl, ?_⟩
            rw [powL_succ, ← HP.out]
            exact HAP.out
          · go_simp
            have nb := (Blk.new wr #[.int .u64 (P : Int)] 109).drew
            have NB := Lib.hid nb
            clear nb
            have HRD := Lib.hid ((HR.out.alloc (.cells #[.int .u64 (P : Int)] 109)).drew)
            refine hK.out _ _ (hHeld.alloc _) (fun hHeld => ?_)
            clear hK K
            (try simp only [Act.put]); (try simp only [List.setIfInBounds_toArray]); (try simp only [List.set_cons_succ]); (try simp only [List.set_cons_zero])
            refine wpAnyH_ready (rs := [4]) (by kernel_rfl) (by simp) ?_
            refine AllReadyH.cons rfl (fun K hK => ?_) (AllReadyH.nil)
            have c7 := HRD.out.c7
            go_simp
            clear c7
            refine hK.out _ _ hHeld (fun hHeld => ?_)
            clear hK K
            (try simp only [Act.put]); (try simp only [List.setIfInBounds_toArray]); (try simp only [List.set_cons_succ]); (try simp only [List.set_cons_zero])
            refine wpAnyH_ready (rs := [8]) (by kernel_rfl) (by simp) ?_
            refine AllReadyH.cons rfl (fun K hK => ?_) (AllReadyH.nil)
            refine step_append_set rfl _ _ 103 rfl (w.heap.size + 3) 109 i0 (.int .u64 0) 1 8 Tryz.underlying103 HI.out.1 HI.out.2.1 HI.out.2.2.1 HI.out.2.2.2 rfl (by decide) v (powL i).length (setsV (powL i)) rfl HRD.out.row ⟨_, 0, none⟩ 1 1 [.int .u64 (P : Int)] rfl rfl (news_one' (NB.out.cell 0)) (by simp [Value.oneCell']) (by rw [powL_len]; unfold maxLen; omega) (by rw [powL_len]; omega) HRD.out.size ?_
            intro v9 w9 hown hgr _
            obtain ⟨gr, cr, rfl⟩ := Joins.ownsRow_form hown (by omega)
            have hmid := HRD.out.mid hgr
            obtain ⟨m1, m2, m3, m4, m5⟩ := hmid
            have HAP := Lib.hid (HRD.out.app hown hgr)
            clear hown hgr
            refine hK.out _ _ ⟨fun x hx => by simp only [List.mem_cons, List.not_mem_nil, or_false] at hx; subst hx; exact m4, m5⟩ (fun hHeld => ?_)
            clear hK K m4 m5
            (try simp only [Act.put]); (try simp only [List.setIfInBounds_toArray]); (try simp only [List.set_cons_succ]); (try simp only [List.set_cons_zero])
            refine wpAnyH_ready (rs := [9]) (by kernel_rfl) (by simp) ?_
            refine AllReadyH.cons rfl (fun K hK => ?_) (AllReadyH.nil)
            go_simp
            refine hK.out _ _ hHeld (fun hHeld => ?_)
            clear hK K
            (try simp only [Act.put]); (try simp only [List.setIfInBounds_toArray]); (try simp only [List.set_cons_succ]); (try simp only [List.set_cons_zero])
            refine wpAnyH_take (i := 10) (v := ?_) rfl (by kernel_rfl) (by kernel_rfl) (by kernel_rfl) (fun _ _ _ h => (by cases h.1)) (Or.inl ⟨by rfl, ?h10⟩) hHeld ?_
            case h10 =>
              intro w' hSw
              (try dsimp only at hSw)
              go_simp
              (try with_reducible rfl)
            (try simp only [Act.put]); (try simp only [List.setIfInBounds_toArray]); (try simp only [List.set_cons_succ]); (try simp only [List.set_cons_zero])
            refine wpAnyH_ready (rs := [11]) (by kernel_rfl) (by simp) ?_
            refine AllReadyH.cons rfl (fun K hK => ?_) (AllReadyH.nil)
            go_simp
            refine hK.out _ _ HAP.out.ks (fun hHeld => ?_)
            clear hK K
            (try simp only [Act.put]); (try simp only [List.setIfInBounds_toArray]); (try simp only [List.set_cons_succ]); (try simp only [List.set_cons_zero])
            refine wpAnyH_done (by kernel_rfl) ?_ _
            refine ⟨rfl, (_, _), rfl, ?_⟩
            rw [powL_succ, ← HP.out]
            exact HAP.out
        · go_simp
          have nb := (Blk.new wr #[.int .u64 (P : Int)] 109).drew
          have NB := Lib.hid nb
          clear nb
          have HRD := Lib.hid ((HR.out.alloc (.cells #[.int .u64 (P : Int)] 109)).drew)
          refine hK.out _ _ (hHeld.alloc _) (fun hHeld => ?_)
          clear hK K
          (try simp only [Act.put]); (try simp only [List.setIfInBounds_toArray]); (try simp only [List.set_cons_succ]); (try simp only [List.set_cons_zero])
          refine wpAnyH_ready (rs := [2]) (by kernel_rfl) (by simp) ?_
          refine AllReadyH.cons rfl (fun K hK => ?_) (AllReadyH.nil)
          go_simp
          refine hK.out _ _ hHeld (fun hHeld => ?_)
          clear hK K
          (try simp only [Act.put]); (try simp only [List.setIfInBounds_toArray]); (try simp only [List.set_cons_succ]); (try simp only [List.set_cons_zero])
          refine wpAnyH_take (i := 3) (v := ?_) rfl (by kernel_rfl) (by kernel_rfl) (by kernel_rfl) (fun _ _ _ h => (by cases h.1)) (Or.inl ⟨by rfl, ?h3⟩) hHeld ?_
          case h3 =>
            intro w' hSw
            (try dsimp only at hSw)
            go_simp
            (try with_reducible rfl)
          (try simp only [Act.put]); (try simp only [List.setIfInBounds_toArray]); (try simp only [List.set_cons_succ]); (try simp only [List.set_cons_zero])
          refine wpAnyH_ready (rs := [4]) (by kernel_rfl) (by simp) ?_
          refine AllReadyH.cons rfl (fun K hK => ?_) (AllReadyH.nil)
          have c7 := HRD.out.c7
          go_simp
          clear c7
          refine hK.out _ _ hHeld (fun hHeld => ?_)
          clear hK K
          (try simp only [Act.put]); (try simp only [List.setIfInBounds_toArray]); (try simp only [List.set_cons_succ]); (try simp only [List.set_cons_zero])
          refine wpAnyH_ready (rs := [8]) (by kernel_rfl) (by simp) ?_
          refine AllReadyH.cons rfl (fun K hK => ?_) (AllReadyH.nil)
          refine step_append_set rfl _ _ 103 rfl (w.heap.size + 3) 109 i0 (.int .u64 0) 1 8 Tryz.underlying103 HI.out.1 HI.out.2.1 HI.out.2.2.1 HI.out.2.2.2 rfl (by decide) v (powL i).length (setsV (powL i)) rfl HRD.out.row ⟨_, 0, none⟩ 1 1 [.int .u64 (P : Int)] rfl rfl (news_one' (NB.out.cell 0)) (by simp [Value.oneCell']) (by rw [powL_len]; unfold maxLen; omega) (by rw [powL_len]; omega) HRD.out.size ?_
          intro v9 w9 hown hgr _
          obtain ⟨gr, cr, rfl⟩ := Joins.ownsRow_form hown (by omega)
          have hmid := HRD.out.mid hgr
          obtain ⟨m1, m2, m3, m4, m5⟩ := hmid
          have HAP := Lib.hid (HRD.out.app hown hgr)
          clear hown hgr
          refine hK.out _ _ ⟨fun x hx => by simp only [List.mem_cons, List.not_mem_nil, or_false] at hx; subst hx; exact m4, m5⟩ (fun hHeld => ?_)
          clear hK K m4 m5
          (try simp only [Act.put]); (try simp only [List.setIfInBounds_toArray]); (try simp only [List.set_cons_succ]); (try simp only [List.set_cons_zero])
          refine wpAnyH_ready (rs := [9]) (by kernel_rfl) (by simp) ?_
          refine AllReadyH.cons rfl (fun K hK => ?_) (AllReadyH.nil)
          go_simp
          refine hK.out _ _ hHeld (fun hHeld => ?_)
          clear hK K
          (try simp only [Act.put]); (try simp only [List.setIfInBounds_toArray]); (try simp only [List.set_cons_succ]); (try simp only [List.set_cons_zero])
          refine wpAnyH_take (i := 10) (v := ?_) rfl (by kernel_rfl) (by kernel_rfl) (by kernel_rfl) (fun _ _ _ h => (by cases h.1)) (Or.inl ⟨by rfl, ?h10⟩) hHeld ?_
          case h10 =>
            intro w' hSw
            (try dsimp only at hSw)
            go_simp
            (try with_reducible rfl)
          (try simp only [Act.put]); (try simp only [List.setIfInBounds_toArray]); (try simp only [List.set_cons_succ]); (try simp only [List.set_cons_zero])
          refine wpAnyH_ready (rs := [11]) (by kernel_rfl) (by simp) ?_
          refine AllReadyH.cons rfl (fun K hK => ?_) (AllReadyH.nil)
          go_simp
          refine hK.out _ _ HAP.out.ks (fun hHeld => ?_)
          clear hK K
          (try simp only [Act.put]); (try simp only [List.setIfInBounds_toArray]); (try simp only [List.set_cons_succ]); (try simp only [List.set_cons_zero])
          refine wpAnyH_done (by kernel_rfl) ?_ _
          refine ⟨rfl, (_, _), rfl, ?_⟩
          rw [powL_succ, ← HP.out]
          exact HAP.out
      rintro ⟨b5, v5⟩ w5 hR5
      have HR5 := Lib.hid hR5
      clear hS K0 KG hR5
      simp only [Act.put, List.setIfInBounds_toArray, List.set_cons_zero, List.set_cons_succ]
      gi_wp2_with fail
      go_roundw
      case rel => exact ⟨i + 1, by omega, by go_num, v5, HR5.out⟩
      case measure => simp [intOf]; omega
    · obtain rfl : i = es.length := by omega
      have hc1 := HR.out.cen.c7
      obtain ⟨q0, q1, q2, q3, q4, q5, q6⟩ := hc1
      have hg0 := HR.out.cen.lt
      gi_wp2_with fail
      have hz0 : Rd w w.heap.size (.slice ea es.length ec) (.slice sa sm.length sc) (.slice aa0 ap.length ac) ol oh nl nh v (blksTo es.length sm 0) (fun _ => false) (fun _ => 0) wr := HR.out
      have HZ0 := Lib.hid hz0
      have hg00 := hg0
      clear hz0 q0 q1 q2 q3 q4 q5 q6 hg0 HR hlt hi
      obtain ⟨W1, hW1⟩ : ∃ W1, W1 = wr := ⟨_, rfl⟩
      rw [← hW1] at HZ0 ⊢
      clear hg00 hW1
      gi_loopw [36] (fun x wr2 => ∃ k : Nat, k ≤ sm.length ∧ x = .int .i64 (k : Int) ∧ Hid (∃ v, Rd w w.heap.size (.slice ea es.length ec) (.slice sa sm.length sc) (.slice aa0 ap.length ac) ol oh nl nh v (blksTo es.length sm k) (fun _ => false) (fun _ => 0) wr2)) (fun x _ => sm.length - (intOf x).toNat)
      case atStart => exact ⟨0, Nat.zero_le _, rfl, _, HZ0.out⟩
      case round =>
        clear HZ0
        obtain ⟨k, hk, rfl, H⟩ := hrel
        obtain ⟨v2, HR⟩ : ∃ v, Hid (Rd w w.heap.size (.slice ea es.length ec) (.slice sa sm.length sc) (.slice aa0 ap.length ac) ol oh nl nh v (blksTo es.length sm k) (fun _ => false) (fun _ => 0) wr) := by obtain ⟨v, h⟩ := H.out; exact ⟨v, h⟩
        clear H
        by_cases hlt : k < sm.length
        · obtain ⟨p, hp⟩ : ∃ p, sm[k]? = some p := ⟨_, List.getElem?_eq_getElem hlt⟩
          have hne : sm ≠ [] := by rintro rfl; simp at hlt
          have hsa : sa = some ⟨sb, so, none⟩ := HS.out.at_ hne
          subst hsa
          have hv := HSV.out.1 p (List.mem_of_getElem? hp)
          obtain ⟨c0, c1⟩ := HS.out.cells.below HR.out.bel (HS.out.lt hne) k p hp
          have hsl := Nat.lt_of_lt_of_le (HS.out.lt hne) HR.out.bel.size
          have hcov := blksTo_cov HSV.out.1 k
          have hlen : 0 < (blksTo es.length sm k).length := by
            have := Sh.blockAt_lt hcov hv.1; omega
          obtain ⟨gr, cr, hvf⟩ := HR.out.row.form hlen
          subst hvf
          obtain ⟨cs, hcs, hwc⟩ := HR.out.wk
          have hrow := HR.out.rowge gr rfl
          have hb0 : Below wr.heap.size wr (wr.alloc (.cells (prA p) 113)) := (Below.refl _ _).alloc (Nat.le_refl _) _
          have CJ := Lib.hid (join_any (w.heap.size + 1) gr (w.heap.size + 3) (blksTo es.length sm k).length cr es.length (blksTo es.length sm k) p cs (wr.alloc (.cells (prA p) 113)) (hcs.b hb0) hwc.c7 (HR.out.below hb0).row rfl hcov hn hv.1 hv.2 hrow.1)
          have HWC := Lib.hid hwc
          have HRA := Lib.hid (HR.out.below hb0)
          have HBS := Lib.hid (blksTo_succ (n := es.length) hp)
          have HRW := Lib.hid hrow
          have kb := HR.out.bp.c1.1
          have kl := HR.out.bp.lt
          have p0 : (0 : Int) ≤ (k : Int) := by omega
          have p1 : (k : Int) < (sm.length : Int) := by omega
          have p2 : (k : Int) ≤ 6 := by have := HSV.out.2.2.1; omega
          clear hp hne hv hcov hlen hcs hwc hrow hb0
          gi_wp2_with (refine ⟨trivial, ?_⟩; gi_at_call 103; (with_reducible refine (callsIn_wide.2 CJ.out).mono ?_); rintro x w3 ⟨rfl, n3, c3, o3, b3, x3⟩; have HR3 := Lib.hid (HRA.out.join HRW.out.1 HWC.out x3 b3 o3); clear o3 b3 x3)
          go_roundw
          case rel => exact ⟨k + 1, by omega, by go_num, _, by rw [HBS.out]; exact HR3.out⟩
          case measure => simp [intOf]; omega
        · obtain rfl : k = sm.length := by omega
          obtain ⟨BL, hBL⟩ : ∃ BL, BL = Sh.blocks es.length sm := ⟨_, rfl⟩
          have hr2 := HR.out
          rw [blksTo_all es.length sm sm.length (Nat.le_refl _), ← hBL] at hr2
          have hcov : Sh.Cov es.length BL := by rw [hBL]; exact Sh.Cov.fold sm (Sh.Cov.start es.length) HSV.out.1
          obtain ⟨ad, c, hv, had⟩ := hr2.row.val
          subst hv
          have hm10 := hcov.len
          obtain ⟨m, hm⟩ : ∃ m, m = BL.length := ⟨_, rfl⟩
          rw [← hm] at hr2 had hm10
          have hm11 : m ≤ 10 := by omega
          have CW := Lib.hid (whole_any (w.heap.size + 1) m c ad hm11 wr hr2.c7 hr2.g)
          have h2p : 2 ^ m ≤ 2 ^ 10 := Nat.pow_le_pow_right (by omega) hm11
          have h2q := Nat.two_pow_pos m
          obtain ⟨M1, hM1⟩ : ∃ M1, M1 = 2 ^ m - 1 := ⟨_, rfl⟩
          rw [← hM1] at CW
          have hM2 : M1 < 1024 := by omega
          have HR2 := Lib.hid hr2
          have HAD := Lib.hid had
          have HCOV := Lib.hid hcov
          have HMM := Lib.hid (And.intro hM1 (And.intro hm hBL))
          have kb := hr2.bp.c1.1
          have kl := hr2.bp.lt
          clear hr2 HR hcov had hM1 hm h2p h2q hlt hk hBL
          gi_wp2_with (refine ⟨trivial, ?_⟩; gi_at_call 67; (with_reducible refine (callsIn_wide.2 CW.out).mono ?_); rintro x w3 ⟨rfl, rfl⟩)
          obtain ⟨oneF, hoF⟩ : ∃ oneF : Nat → Bool, oneF = (fun g => Sh.fitsB (fitA es) ap (Sh.entriesOf BL g)) := ⟨_, rfl⟩
          have HOF := Lib.hid hoF
          clear hoF
          obtain ⟨W3, hW3⟩ : ∃ W3, W3 = wr := ⟨_, rfl⟩
          rw [← hW3] at HR2 ⊢
          clear hW3 kb kl CW
          refine wpIn_loop (RdI w w.heap.size (.slice ea es.length ec) (.slice sa sm.length sc) (.slice aa0 ap.length ac) ol oh nl nh (.slice ad m c) BL oneF M1) (muR M1) ?start ?round
          case start => exact ⟨0, _, _, W3.heap.size, [], rfl, rfl, rfl, rfl, rfl, Lib.hid ⟨Nat.zero_le _, HR2.out, ⟨rfl, fun q h1 h2 => by omega, fun q h1 h2 => by omega, fun q => Nat.zero_le _⟩, fun j h => by omega, trivial, Nat.le_refl _⟩⟩
          case round =>
            clear HR2
            rintro ⟨tm, ds⟩ wr ⟨q, one, L, top, ds2, hsz, h3, h46, h47, hds, HP⟩
            have HMU := Lib.hid (muR_eq (M1 := M1) (W := wr) h47)
            dsimp only at hsz h3 h46 h47 hds
            subst hds
            revert h3 h46 h47 HMU
            revert hsz
            revert tm
            refine act115 ?_
            intro v0 v1 v2 v3 v4 v5 v6 v7 v8 v9 v10 v11 v12 v13 v14 v15 v16 v17 v18 v19 v20 v21 v22 v23 v24 v25 v26 v27 v28 v29 v30 v31 v32 v33 v34 v35 v36 v37 v38 v39 v40 v41 v42 v43 v44 v45 v46 v47 v48 v49 v50 v51 v52 v53 v54 v55 v56 v57 v58 v59 v60 v61 v62 v63 v64 v65 v66 v67 v68 v69 v70 v71 v72 v73 v74 v75 v76 v77 v78 v79 v80 v81 v82 v83 v84 v85 v86 v87 v88 v89 v90 v91 v92 v93 v94 v95 v96 v97 v98 v99 v100 v101 v102 v103 v104 v105 v106 v107 v108 v109 v110 v111 v112 v113 v114 h3 h46 h47 HMU
            obtain rfl : v3 = .pointer (some ⟨w.heap.size + 1 + 1, 0, none⟩) := Option.some.inj h3
            obtain rfl : v46 = .int .u64 ((M1 : Int) + 1) := Option.some.inj h46
            obtain rfl : v47 = .int .u64 (q : Int) := Option.some.inj h47
            clear h3 h46 h47
            by_cases hlt : q < M1 + 1
            · have p1 : (q : Int) < (M1 : Int) + 1 := by omega
              have hq : q < 1024 := by omega
              have kb0 := HP.out.2.1.bp.c1.1
              have kl0 := HP.out.2.1.bp.lt
              have hb0 : Below wr.heap.size wr (wr.alloc (.cells #[.int .u64 (q : Int)] 109)) := (Below.refl _ _).alloc (Nat.le_refl _) _
              have HR0 := Lib.hid (HP.out.2.1.below hb0)
              have HBS := Lib.hid (Blk.new wr #[.int .u64 (q : Int)] 109)
              have HMK := Lib.hid (HP.out.2.2.2.2.1.below hb0 HP.out.2.2.2.2.2)
              have CL := Lib.hid (list_any q hq (wr.alloc (.cells #[.int .u64 (q : Int)] 109)) (HT.out.1.below HR0.out.bel HT.out.2) (Nat.lt_of_lt_of_le HT.out.2 HR0.out.bel.size))
              clear hb0
              gi_wp2_with fail
              refine ⟨trivial, ?_⟩
              (with_reducible refine (callsIn_wide.2 CL.out).mono ?_)
              rintro x w5 ⟨vl, rfl, hvl, hb5⟩
              have HR5 := Lib.hid (HR0.out.below hb5)
              have HB5 := Lib.hid (HBS.out.b hb5)
              have HM5 := Lib.hid (HMK.out.below hb5 (Nat.le_refl _))
              obtain ⟨adl, cl, hvf, hadl⟩ := hvl.val
              subst hvf
              have HADL := Lib.hid hadl
              clear hvl hb5 hadl
              obtain ⟨nb, hnb⟩ : ∃ nb, nb = (Sh.bits q).length := ⟨_, rfl⟩
              have HNB := Lib.hid hnb
              have hnb10 : nb ≤ 10 := by rw [hnb]; exact Sh.bits_len q
              rw [← hnb] at HADL ⊢
              clear hnb HBS HR0 HMK CL kb0 kl0
              have kb1 := HR5.out.bp.c1.1
              have kl1 := HR5.out.bp.lt
              have k7 := HR5.out.c7
              obtain ⟨Bs, hBs⟩ : ∃ Bs, Bs = wr.heap.size := ⟨_, rfl⟩
              have hBs1 : w.heap.size + 3 ≤ Bs := by rw [hBs]; exact HP.out.2.1.size
              rw [← hBs] at HB5 HM5 ⊢
              clear hBs
              gi_wp2_with fail
              gi_loopw [8, 53] (fun x8 x53 wr2 => ∃ i : Nat, i ≤ nb ∧ x53 = .int .i64 (i : Int) ∧ x8 = .int .u64 ((entTo BL q i : Nat) : Int) ∧ wr2 = w5) (fun _ x _ => nb - (intOf x).toNat)
              case atStart => exact ⟨0, Nat.zero_le _, rfl, rfl, rfl⟩
              case round =>
                obtain ⟨i, hi, rfl, rfl, rfl⟩ := hrel
                by_cases hin : i < nb
                · obtain ⟨k, hk⟩ : ∃ k, (Sh.bits q)[i]? = some k := ⟨_, List.getElem?_eq_getElem (by rw [← HNB.out]; exact hin)⟩
                  obtain ⟨gl, hgl, hgl2, hcell⟩ := HADL.out (by omega)
                  subst hgl
                  have hkm : k < m := bits_small (s := q) (by have := HMM.out.1; have := Nat.two_pow_pos m; omega) (List.mem_of_getElem? hk)
                  obtain ⟨gr, hgr⟩ := HAD.out (by omega)
                  subst hgr
                  obtain ⟨y, hy⟩ : ∃ y, BL[k]? = some y := ⟨_, List.getElem?_eq_getElem (by rw [← HMM.out.2.1]; exact hkm)⟩
                  have c1 := hcell i k hk
                  have c2 := OwnS.at_ HR5.out.row k y hy
                  rw [Nat.zero_add] at c2
                  have hgrl := (HR5.out.rowge gr rfl).2
                  have hx1 := entTo_lt HCOV.out HN.out q i
                  have hy1 : y < 1024 := by
                    have h1 := HCOV.out.lt y (List.mem_of_getElem? hy)
                    have h2 : 2 ^ es.length ≤ 2 ^ 10 := Nat.pow_le_pow_right (by omega) HN.out
                    omega
                  have eo := or_bits (entTo BL q i) y hx1 hy1
                  have HST := Lib.hid (show entTo BL q (i + 1) = entTo BL q i ||| y by rw [entTo_succ hk, List.getD_eq_getElem?_getD, hy]; rfl)
                  have i0 : (0 : Int) ≤ (i : Int) := by omega
                  have i1 : (i : Int) < (nb : Int) := by omega
                  have i2 : (i : Int) ≤ 10 := by omega
                  have i3 : (0 : Int) ≤ (k : Int) := by omega
                  have i4 : (k : Int) < (m : Int) := by omega
                  clear hk hcell hy
                  gi_wp2_with fail
                  go_roundw
                  case rel => exact ⟨i + 1, by omega, by go_num, by rw [HST.out], by first | trivial | rfl⟩
                  case measure => simp [intOf]; omega
                · obtain rfl : i = nb := by omega
                  obtain ⟨SQ, hSQ⟩ : ∃ SQ, SQ = entTo BL q i := ⟨_, rfl⟩
                  have hsq : SQ < 1024 := by rw [hSQ]; exact entTo_lt HCOV.out HN.out q i
                  have hsq2 : SQ = Sh.entriesOf BL q := by rw [hSQ, HNB.out]; exact entTo_all BL q
                  rw [← hSQ]
                  have hq2 : q < 2 ^ m := by have := HMM.out.1; have := Nat.two_pow_pos m; omega
                  have hin2 : ∀ k ∈ Sh.bits SQ, k < es.length := fun k hk => entOf_mem HCOV.out HMM.out.2.1 hq2 (by rw [← hsq2]; exact hk)
                  have CF := Lib.hid (fun W (hW : FW W (w.heap.size + 1) ⟨ea, eb, eo, ec⟩ ⟨aa0, ab, ao, ac⟩ es ap) => fits_w (w.heap.size + 1) ⟨ea, eb, eo, ec⟩ ⟨aa0, ab, ao, ac⟩ es ap SQ W hsq HN.out hin2 HSV.out.2.2.2 HSV.out.2.1 hW)
                  obtain ⟨b1, hb1⟩ : ∃ b1, b1 = Sh.fitsB (fitA es) ap SQ := ⟨_, rfl⟩
                  rw [← hb1] at CF
                  have HB1 := Lib.hid (show b1 = oneF q by rw [HOF.out, hb1, hsq2])
                  clear hSQ hsq2 hin2 hb1 kb1 kl1 k7 hq2
                  gi_wp2_with fail
                  refine wpIn_wide.2 ?_
                  have HRQ := Lib.hid HR5.out
                  have HBQ := Lib.hid HB5.out
                  have HMQ := Lib.hid HM5.out
                  have hS : KS w [(Bs, #[.int .u64 (q : Int)], 109), (w.heap.size + 2, #[.pointer (some ⟨w.heap.size + 1, 0, none⟩)], 95)] wr.drew := ⟨fun x hx => by simp only [List.mem_cons, List.not_mem_nil, or_false] at hx; rcases hx with rfl | rfl; exact HBQ.out; exact HRQ.out.bp, HRQ.out.drew.bel⟩
                  have K0 : ∀ W, KS w [(Bs, #[.int .u64 (q : Int)], 109), (w.heap.size + 2, #[.pointer (some ⟨w.heap.size + 1, 0, none⟩)], 95)] W → W.cell? ⟨w.heap.size + 1 + 1, 0, none⟩ = some (.pointer (some ⟨w.heap.size + 1, 0, none⟩)) := fun W h => (h.blkAt 1 rfl).cell 0
                  have K1 : ∀ W, KS w [(Bs, #[.int .u64 (q : Int)], 109), (w.heap.size + 2, #[.pointer (some ⟨w.heap.size + 1, 0, none⟩)], 95)] W → W.cell? ⟨Bs, 0, none⟩ = some (.int .u64 (q : Int)) := fun W h => (h.blkAt 0 rfl).cell 0
                  have KG : ∀ W, KS w [(Bs, #[.int .u64 (q : Int)], 109), (w.heap.size + 2, #[.pointer (some ⟨w.heap.size + 1, 0, none⟩)], 95)] W → w.heap.size + 1 < W.heap.size := fun W h => by have := (h.blkAt 1 rfl).lt; omega
                  have i0 : (0 : Int) ≤ (q : Int) := by omega
                  have i1 : (q : Int) < 1024 := by omega
                  refine wp_joinZ (ι := Unit) (f := fun aa _ => ((((((((aa.put (some 67) (.pointer (some ⟨w.heap.size + 1, 0, none⟩))).put (some 68) (.int .u64 (q : Int))).put (some 69) (.pointer (some ⟨w.heap.size + 1, 0, none⟩))).put (some 70) (.int .u64 (SQ : Int))).put (some 71) (.bool b1)).put (some 72) (.pointer (some ⟨w.heap.size + 1, 0, none⟩))).put (some 73) (.pointer (some ⟨w.heap.size + 1, 8, none⟩))).put (some 74) (.pointer (some ⟨w.heap.size + 1, 8 + q, none⟩)))) (mid := fun _ W' => Rd w w.heap.size (.slice ea es.length ec) (.slice sa sm.length sc) (.slice aa0 ap.length ac) ol oh nl nh (.slice ad m c) BL  (fun j => if j = q then b1 else one j) L W' ∧ Blk W' Bs #[.int .u64 (q : Int)] 109 ∧ MarksB (w.heap.size + 3) W' Bs ds) ?_ ?_
                  · have HRD := Lib.hid HRQ.out.drew
                    have HBD := Lib.hid HBQ.out.drew
                    have HMD : Hid (MarksB (w.heap.size + 3) wr.drew Bs ds) := Lib.hid (HMQ.out.below (Below.refl _ _).drew (Nat.le_refl _))
                    refine wp_region_held_drew (S := KS w [(Bs, #[.int .u64 (q : Int)], 109), (w.heap.size + 2, #[.pointer (some ⟨w.heap.size + 1, 0, none⟩)], 95)]) (by kernel_rfl) hS (fun hHeld => ?_)
                    clear hS
                    refine wpAnyH_take (i := 0) (v := ?_) rfl (by kernel_rfl) (by kernel_rfl) (by kernel_rfl) (fun _ _ _ h => (by cases h.1)) (Or.inl ⟨by rfl, ?h0⟩) hHeld ?_
                    case h0 =>
                      intro w' hSw
                      (try dsimp only at hSw)
                      go_simp
                      (try with_reducible rfl)
                    (try simp only [Act.put]); (try simp only [List.setIfInBounds_toArray]); (try simp only [List.set_cons_succ]); (try simp only [List.set_cons_zero])
                    refine wpAnyH_take (i := 1) (v := ?_) rfl (by kernel_rfl) (by kernel_rfl) (by kernel_rfl) (fun _ _ _ h => (by cases h.1)) (Or.inl ⟨by rfl, ?h1⟩) hHeld ?_
                    case h1 =>
                      intro w' hSw
                      (try dsimp only at hSw)
                      go_simp
                      (try with_reducible rfl)
                    (try simp only [Act.put]); (try simp only [List.setIfInBounds_toArray]); (try simp only [List.set_cons_succ]); (try simp only [List.set_cons_zero])
                    refine wpAnyH_take (i := 2) (v := ?_) rfl (by kernel_rfl) (by kernel_rfl) (by kernel_rfl) (fun _ _ _ h => (by cases h.1)) (Or.inl ⟨by rfl, ?h2⟩) hHeld ?_
                    case h2 =>
                      intro w' hSw
                      (try dsimp only at hSw)
                      go_simp
                      (try with_reducible rfl)
                    (try simp only [Act.put]); (try simp only [List.setIfInBounds_toArray]); (try simp only [List.set_cons_succ]); (try simp only [List.set_cons_zero])
                    refine wpAnyH_take (i := 3) (v := ?_) rfl (by kernel_rfl) (by kernel_rfl) (by kernel_rfl) (fun _ _ _ h => (by cases h.1)) (Or.inl ⟨by rfl, ?h3⟩) hHeld ?_
                    case h3 =>
                      intro w' hSw
                      (try dsimp only at hSw)
                      go_simp
                      (try with_reducible rfl)
                    (try simp only [Act.put]); (try simp only [List.setIfInBounds_toArray]); (try simp only [List.set_cons_succ]); (try simp only [List.set_cons_zero])
                    refine wpAnyH_ready (rs := [4, 5]) (by kernel_rfl) (by simp) ?_
                    refine AllReadyH.cons rfl (fun K hK => ?_) (AllReadyH.cons rfl (fun K hK => ?_) (AllReadyH.nil))
                    · go_simp
                      refine (CF.out _ (HRD.out.fw HE.out HA.out HT.out.1 HT.out.2)).mono ?_
                      rintro x w9 ⟨rfl, hb⟩
                      have HRD := Lib.hid (HRD.out.below hb)
                      have HBD := Lib.hid (HBD.out.b hb)
                      have HMD := Lib.hid (HMD.out.below hb (Nat.le_refl _))
                      refine hK.out _ _ (hHeld.below hb) (fun hHeld => ?_)
                      clear hK K hb
                      (try simp only [Act.put]); (try simp only [List.setIfInBounds_toArray]); (try simp only [List.set_cons_succ]); (try simp only [List.set_cons_zero])
                      refine wpAnyH_ready (rs := [5]) (by kernel_rfl) (by simp) ?_
                      refine AllReadyH.cons rfl (fun K hK => ?_) (AllReadyH.nil)
                      go_simp
                      refine hK.out _ _ hHeld (fun hHeld => ?_)
                      clear hK K
                      (try simp only [Act.put]); (try simp only [List.setIfInBounds_toArray]); (try simp only [List.set_cons_succ]); (try simp only [List.set_cons_zero])
                      refine wpAnyH_take (i := 6) (v := ?_) rfl (by kernel_rfl) (by kernel_rfl) (by kernel_rfl) (fun _ _ _ h => (by cases h.1)) (Or.inl ⟨by rfl, ?h6⟩) hHeld ?_
                      case h6 =>
                        intro w' hSw
                        (try dsimp only at hSw)
                        go_simp
                        (try with_reducible rfl)
                      (try simp only [Act.put]); (try simp only [List.setIfInBounds_toArray]); (try simp only [List.set_cons_succ]); (try simp only [List.set_cons_zero])
                      refine wpAnyH_take (i := 7) (v := ?_) rfl (by kernel_rfl) (by kernel_rfl) (by kernel_rfl) (fun _ _ _ h => (by cases h.1)) (Or.inl ⟨by rfl, ?h7⟩) hHeld ?_
                      case h7 =>
                        intro w' hSw
                        (try dsimp only at hSw)
                        go_simp
                        (try with_reducible rfl)
                      (try simp only [Act.put]); (try simp only [List.setIfInBounds_toArray]); (try simp only [List.set_cons_succ]); (try simp only [List.set_cons_zero])
                      refine wpAnyH_ready (rs := [8]) (by kernel_rfl) (by simp) ?_
                      refine AllReadyH.cons rfl (fun K hK => ?_) (AllReadyH.nil)
                      obtain ⟨c8, f8⟩ := HRD.out.cO hq
                      have g8 := HRD.out.g
                      go_simp
                      have HRE := Lib.hid (HRD.out.setO hq b1)
                      have HBE := Lib.hid (HBD.out.other (a := ⟨w.heap.size + 1, 8 + q, none⟩) (by show Bs ≠ w.heap.size + 1; omega) (.bool b1))
                      have HME : Hid (MarksB (w.heap.size + 3) (w9.setCell ⟨w.heap.size + 1, 8 + q, none⟩ (.bool b1)) Bs ds) := by
                        obtain ⟨cs, h1, _⟩ := HRD.out.wk
                        exact Lib.hid (HMD.out.setCell h1 _)
                      refine hK.out _ _ ⟨fun x hx => by simp only [List.mem_cons, List.not_mem_nil, or_false] at hx; rcases hx with rfl | rfl; exact HBE.out; exact HRE.out.bp, HRE.out.bel⟩ (fun hHeld => ?_)
                      clear hK K
                      (try simp only [Act.put]); (try simp only [List.setIfInBounds_toArray]); (try simp only [List.set_cons_succ]); (try simp only [List.set_cons_zero])
                      refine wpAnyH_done (by kernel_rfl) ?_ _
                      exact ⟨rfl, (), rfl, HRE.out, HBE.out, HME.out⟩
                    · go_simp
                      refine hK.out _ _ hHeld (fun hHeld => ?_)
                      clear hK K
                      (try simp only [Act.put]); (try simp only [List.setIfInBounds_toArray]); (try simp only [List.set_cons_succ]); (try simp only [List.set_cons_zero])
                      refine wpAnyH_take (i := 6) (v := ?_) rfl (by kernel_rfl) (by kernel_rfl) (by kernel_rfl) (fun _ _ _ h => (by cases h.1)) (Or.inl ⟨by rfl, ?h6⟩) hHeld ?_
                      case h6 =>
                        intro w' hSw
                        (try dsimp only at hSw)
                        go_simp
                        (try with_reducible rfl)
                      (try simp only [Act.put]); (try simp only [List.setIfInBounds_toArray]); (try simp only [List.set_cons_succ]); (try simp only [List.set_cons_zero])
                      refine wpAnyH_ready (rs := [4]) (by kernel_rfl) (by simp) ?_
                      refine AllReadyH.cons rfl (fun K hK => ?_) (AllReadyH.nil)
                      go_simp
                      refine (CF.out _ (HRD.out.fw HE.out HA.out HT.out.1 HT.out.2)).mono ?_
                      rintro x w9 ⟨rfl, hb⟩
                      have HRD := Lib.hid (HRD.out.below hb)
                      have HBD := Lib.hid (HBD.out.b hb)
                      have HMD := Lib.hid (HMD.out.below hb (Nat.le_refl _))
                      refine hK.out _ _ (hHeld.below hb) (fun hHeld => ?_)
                      clear hK K hb
                      (try simp only [Act.put]); (try simp only [List.setIfInBounds_toArray]); (try simp only [List.set_cons_succ]); (try simp only [List.set_cons_zero])
                      refine wpAnyH_take (i := 7) (v := ?_) rfl (by kernel_rfl) (by kernel_rfl) (by kernel_rfl) (fun _ _ _ h => (by cases h.1)) (Or.inl ⟨by rfl, ?h7⟩) hHeld ?_
                      case h7 =>
                        intro w' hSw
                        (try dsimp only at hSw)
                        go_simp
                        (try with_reducible rfl)
                      (try simp only [Act.put]); (try simp only [List.setIfInBounds_toArray]); (try simp only [List.set_cons_succ]); (try simp only [List.set_cons_zero])
                      refine wpAnyH_ready (rs := [8]) (by kernel_rfl) (by simp) ?_
                      refine AllReadyH.cons rfl (fun K hK => ?_) (AllReadyH.nil)
                      obtain ⟨c8, f8⟩ := HRD.out.cO hq
                      have g8 := HRD.out.g
                      go_simp
                      have HRE := Lib.hid (HRD.out.setO hq b1)
                      have HBE := Lib.hid (HBD.out.other (a := ⟨w.heap.size + 1, 8 + q, none⟩) (by show Bs ≠ w.heap.size + 1; omega) (.bool b1))
                      have HME : Hid (MarksB (w.heap.size + 3) (w9.setCell ⟨w.heap.size + 1, 8 + q, none⟩ (.bool b1)) Bs ds) := by
                        obtain ⟨cs, h1, _⟩ := HRD.out.wk
                        exact Lib.hid (HMD.out.setCell h1 _)
                      refine hK.out _ _ ⟨fun x hx => by simp only [List.mem_cons, List.not_mem_nil, or_false] at hx; rcases hx with rfl | rfl; exact HBE.out; exact HRE.out.bp, HRE.out.bel⟩ (fun hHeld => ?_)
                      clear hK K
                      (try simp only [Act.put]); (try simp only [List.setIfInBounds_toArray]); (try simp only [List.set_cons_succ]); (try simp only [List.set_cons_zero])
                      refine wpAnyH_done (by kernel_rfl) ?_ _
                      exact ⟨rfl, (), rfl, HRE.out, HBE.out, HME.out⟩
                  rintro _ w21 ⟨hR21, hB21, hM21⟩
                  have HR21 := Lib.hid hR21
                  have HB21 := Lib.hid hB21
                  have HM21 := Lib.hid hM21
                  clear hS K0 K1 KG hR21 hB21 hM21 HRQ HBQ HMQ CF HR5 HB5 HM5
                  simp only [Act.put, List.setIfInBounds_toArray, List.set_cons_zero, List.set_cons_succ]
                  have kb2 := HR21.out.bp.c1.1
                  have kl2 := HR21.out.bp.lt
                  have ks2 := HB21.out.c1.1
                  have kg2 := HR21.out.g
                  obtain ⟨kc2, kf2⟩ := HR21.out.cL hq
                  gi_wp2_with fail
                  refine wpIn_wide.2 ?_
                  go_region
                  have hr22 : Rd w w.heap.size (.slice ea es.length ec) (.slice sa sm.length sc) (.slice aa0 ap.length ac) ol oh nl nh (.slice ad m c) BL (fun j => if j = q then b1 else one j) (fun j => if j = q then 1024 else L j) (w21.setCell ⟨w.heap.size + 1, 1032 + q, none⟩ (.int .i64 1024)).drew := (HR21.out.setL hq 1024).drew
                  have hb22 : Blk (w21.setCell ⟨w.heap.size + 1, 1032 + q, none⟩ (.int .i64 1024)).drew Bs #[.int .u64 (q : Int)] 109 := (HB21.out.other (a := ⟨w.heap.size + 1, 1032 + q, none⟩) (by show Bs ≠ w.heap.size + 1; omega) (.int .i64 1024)).drew
                  have hm22 : MarksB (w.heap.size + 3) (w21.setCell ⟨w.heap.size + 1, 1032 + q, none⟩ (.int .i64 1024)).drew Bs ds := by
                    obtain ⟨cs, h1, _⟩ := HR21.out.wk
                    exact (HM21.out.setCell h1 _).below (Below.refl _ _).drew (Nat.le_refl _)
                  generalize (w21.setCell ⟨w.heap.size + 1, 1032 + q, none⟩ (.int .i64 1024)).drew = W22 at hr22 hb22 hm22 ⊢
                  have HR22 := Lib.hid hr22
                  have HB22 := Lib.hid hb22
                  have HM22 := Lib.hid hm22
                  clear hr22 hb22 hm22 kb2 kl2 ks2 kg2 kc2 kf2 HR21 HB21 HM21
                  have kb2 := HR22.out.bp.c1.1
                  have kl2 := HR22.out.bp.lt
                  have ks2 := HB22.out.c1.1
                  have kg2 := HR22.out.g
                  obtain ⟨kc2, kf2⟩ := HR22.out.cL hq
                  by_cases hq0 : q = 0
                  · have HQ0 := Lib.hid hq0
                    have bz : ((q : Int) == 0) = true := by simp; omega
                    clear hq0
                    gi_wp2_with fail
                    refine wpIn_wide.2 ?_
                    go_region
                    have hr24 : Rd w w.heap.size (.slice ea es.length ec) (.slice sa sm.length sc) (.slice aa0 ap.length ac) ol oh nl nh (.slice ad m c) BL (fun j => if j = q then b1 else one j) (fun j => if j = q then (if q = 0 then 0 else 1024) else L j) (W22.setCell ⟨w.heap.size + 1, 1032 + q, none⟩ (.int .i64 0)).drew := ((HR22.out.setL hq 0).drew).funs rfl (by
                      funext j; rw [if_pos HQ0.out]; by_cases hj : j = q <;> simp [hj])
                    have hb24 : Blk (W22.setCell ⟨w.heap.size + 1, 1032 + q, none⟩ (.int .i64 0)).drew Bs #[.int .u64 (q : Int)] 109 := (HB22.out.other (a := ⟨w.heap.size + 1, 1032 + q, none⟩) (by show Bs ≠ w.heap.size + 1; omega) (.int .i64 0)).drew
                    have hm24 : MarksB (w.heap.size + 3) (W22.setCell ⟨w.heap.size + 1, 1032 + q, none⟩ (.int .i64 0)).drew Bs ds := by
                      obtain ⟨cs, h1, _⟩ := HR22.out.wk
                      exact (HM22.out.setCell h1 _).below (Below.refl _ _).drew (Nat.le_refl _)
                    generalize (W22.setCell ⟨w.heap.size + 1, 1032 + q, none⟩ (.int .i64 0)).drew = WX at hr24 hb24 hm24 ⊢
                    have HRX := Lib.hid hr24
                    have HBX := Lib.hid hb24
                    have HMX := Lib.hid hm24
                    clear hr24 hb24 hm24 kb2 kl2 ks2 kg2 kc2 kf2 HR22 HB22 HM22 bz HQ0
                    have kb2 := HRX.out.bp.c1.1
                    have kl2 := HRX.out.bp.lt
                    have ks2 := HBX.out.c1.1
                    have kg2 := HRX.out.g
                    obtain ⟨init, hinit⟩ : ∃ init, init = (if q = 0 then 0 else 1024) := ⟨_, rfl⟩
                    have hi24 : init ≤ 1024 := by rw [hinit]; split <;> omega
                    rw [← hinit] at HRX
                    have HIN := Lib.hid hinit
                    clear hinit
                    gi_wp2_with fail
                    refine ⟨trivial, ?_⟩
                    (with_reducible refine (callsIn_wide.2 (groups_any _ _ _)).mono ?_)
                    rintro x w6 ⟨rfl, rfl⟩
                    obtain ⟨g1, g2, gb, g4⟩ := two_new WX #[.pointer (some ⟨w.heap.size + 1, 0, none⟩)] #[.int .u64 (q : Int)] 95 109
                    have hrw := HRX.out.below gb
                    have hbw := HBX.out.b gb
                    have hmw := HMX.out.below gb (Nat.le_refl _)
                    have hbl := HBX.out.lt
                    clear kb2 kl2 ks2 kg2
                    generalize hW0 : ((WX.alloc (.cells #[.pointer (some ⟨w.heap.size + 1, 0, none⟩)] 95)).alloc (.cells #[.int .u64 (q : Int)] 109)) = W0 at *
                    clear hW0
                    generalize WX.heap.size = BX at *
                    have g4a := Nat.le_of_eq g4
                    have g4b := Nat.le_of_eq g4.symm
                    clear g4 HRX HBX HMX
                    have hgr := hrw.gr g2 g1
                    have hLT := HP.out.2.2.1.top
                    gi_wp2_with fail
                    refine wpIn_rangeFunc_ownH rfl (by omega) (gf := 143) (lb := #[.pointer (some ⟨BX + 1, 0, none⟩), .pointer (some ⟨BX, 0, none⟩)]) rfl trivial (enters_of Tryz.func143 (by kernel_rfl) rfl)
                      (groups_stops (w.heap.size + 1) (BX + 1) BX q (fun j => if j = q then b1 else one j) W0 hq (by omega) (by omega) hgr 7)
                      (fun h k => h.trans k) (fun W l ob ob' _ h hc _ => KpG.putObj l ob ob' h hc) (Below.refl _ _) (fun _ => rfl)
                      (fun pre W => Rd w w.heap.size (.slice ea es.length ec) (.slice sa sm.length sc) (.slice aa0 ap.length ac) ol oh nl nh (.slice ad m c) BL (fun j => if j = q then b1 else one j) (LF L q init (pre.map (·.1))) W ∧ Blk W Bs #[.int .u64 (q : Int)] 109 ∧ MarksB (w.heap.size + 3) W Bs ds) (fun _ _ _ => False)
                      (fun st X Y row ⟨h1, h2, h3⟩ hg hr => ⟨h1.own hg (fun r e => ⟨by have := (hr r e).1; omega, (hr r e).2⟩), h2.kept hg (fun e => by have := (hr _ e.symm).1; omega), h3.grown hg (fun r e => .inl (by have := (hr r e).1; omega)) (Nat.le_refl _)⟩)
                      (fun _ _ _ _ _ hs _ _ => hs)
                      ⟨hrw, hbw, hmw⟩
                      (fun t a' W => a'.tmps.size = 115 ∧ a'.tmps[3]? = some (.pointer (some ⟨w.heap.size + 1 + 1, 0, none⟩)) ∧ a'.tmps[7]? = some (.pointer (some ⟨Bs, 0, none⟩)) ∧ a'.tmps[11]? = some (.int .u64 (t.1 : Int)) ∧ a'.defers = [])
                      (fun t a' st X Y row hs hg hr => hs)
                      ?assign ?body ?done ?stop
                    case assign =>
                      rintro lp pre t W K hI hK
                      have HK := Lib.hid hK
                      have HI := Lib.hid hI
                      clear hK hI
                      gi_wp2
                      exact HK.out _ _ (KeepsFrom.refl _ _) (KpG.below (Below.refl _ _)) HI.out ⟨rfl, rfl, rfl, rfl, rfl⟩
                    case body =>
                      rintro lp pre t ⟨tm, df⟩ W hl ⟨r, hr⟩ ⟨b1r, b2r, b3r⟩ ⟨hsz, h3, h7, h11, hdf⟩ hlt3
                      dsimp only at hsz h3 h7 h11 hdf
                      subst hdf
                      revert h3 h7 h11
                      revert hsz
                      revert tm
                      refine act115 ?_
                      intro u0 u1 u2 u3 u4 u5 u6 u7 u8 u9 u10 u11 u12 u13 u14 u15 u16 u17 u18 u19 u20 u21 u22 u23 u24 u25 u26 u27 u28 u29 u30 u31 u32 u33 u34 u35 u36 u37 u38 u39 u40 u41 u42 u43 u44 u45 u46 u47 u48 u49 u50 u51 u52 u53 u54 u55 u56 u57 u58 u59 u60 u61 u62 u63 u64 u65 u66 u67 u68 u69 u70 u71 u72 u73 u74 u75 u76 u77 u78 u79 u80 u81 u82 u83 u84 u85 u86 u87 u88 u89 u90 u91 u92 u93 u94 u95 u96 u97 u98 u99 u100 u101 u102 u103 u104 u105 u106 u107 u108 u109 u110 u111 u112 u113 u114 h3 h7 h11
                      obtain rfl : u3 = .pointer (some ⟨w.heap.size + 1 + 1, 0, none⟩) := Option.some.inj h3
                      obtain rfl : u7 = .pointer (some ⟨Bs, 0, none⟩) := Option.some.inj h7
                      obtain rfl : u11 = .int .u64 (t.1 : Int) := Option.some.inj h11
                      clear h3 h7 h11
                      have htm := t.2
                      have hts := gSeq_sub hq htm
                      have htl := gSeq_lt hq htm
                      have hx1 : q ^^^ t.1 < 1024 := by
                        have := Nat.xor_lt_two_pow (n := 10) (show q < 2 ^ 10 by omega) (show t.1 < 2 ^ 10 by omega)
                        omega
                      have exa := andNot_nat q t.1 hq (by omega) hts
                      obtain ⟨x, hx⟩ : ∃ x, x = q ^^^ t.1 := ⟨_, rfl⟩
                      obtain ⟨tv, htv⟩ : ∃ tv, tv = t.1 := ⟨_, rfl⟩
                      rw [← hx] at exa hx1
                      rw [← htv] at exa ⊢
                      have acl := LF_le L q init hi24 hLT (pre.map (·.1)) q
                      have xc := LF_le L q init hi24 hLT (pre.map (·.1)) x
                      have HLS := Lib.hid (LF_snoc L q init (pre.map (·.1)) t.1)
                      have HX := Lib.hid (And.intro hx htv)
                      clear hx htv htm hts htl
                      obtain ⟨LFp, hLF⟩ : ∃ LFp, LFp = LF L q init (pre.map (·.1)) := ⟨_, rfl⟩
                      rw [← hLF] at b1r acl xc HLS
                      have HLF := Lib.hid hLF
                      clear hLF
                      obtain ⟨acc, hacc⟩ : ∃ acc, acc = LFp q := ⟨_, rfl⟩
                      obtain ⟨xv, hxv⟩ : ∃ xv, xv = LFp x := ⟨_, rfl⟩
                      rw [← hacc] at acl
                      rw [← hxv] at xc
                      have HAX := Lib.hid (And.intro hacc hxv)
                      clear hacc hxv
                      have e1 : IntKind.i64.wrap ((1 : Int) + (xv : Int)) = (1 : Int) + (xv : Int) := by rw [IntWalk.i64_in _ (by omega)]
                      have i0 : (0 : Int) ≤ (q : Int) := by omega
                      have i1 : (q : Int) < 1024 := by omega
                      have i2 : (0 : Int) ≤ (x : Int) := by omega
                      have i3 : (x : Int) < 1024 := by omega
                      try clear HP
                      try clear HMU
                      try clear HN
                      try clear HS
                      try clear HA
                      try clear HE
                      try clear HSV
                      try clear HT
                      try clear HMM
                      try clear HCOV
                      try clear HAD
                      try clear HADL
                      try clear HOF
                      try clear HNB
                      try clear HB1
                      try clear hLT
                      try clear hgr
                      try clear hrw
                      try clear hbw
                      try clear hmw
                      try clear g1
                      try clear g2
                      try clear gb
                      try clear p1
                      try clear hlt
                      try clear hnb10
                      try clear hM2
                      try clear hm11
                      try clear hm10
                      try clear r
                      try clear hr
                      try clear hl
                      gi_wp2_with fail
                      have hS1 : KS w [(Bs, #[.int .u64 (q : Int)], 109), (w.heap.size + 2, #[.pointer (some ⟨w.heap.size + 1, 0, none⟩)], 95)] W.drew := ⟨fun x hx => by simp only [List.mem_cons, List.not_mem_nil, or_false] at hx; rcases hx with rfl | rfl; exact b2r; exact b1r.bp, b1r.drew.bel⟩
                      have K0 : ∀ W, KS w [(Bs, #[.int .u64 (q : Int)], 109), (w.heap.size + 2, #[.pointer (some ⟨w.heap.size + 1, 0, none⟩)], 95)] W → W.cell? ⟨w.heap.size + 1 + 1, 0, none⟩ = some (.pointer (some ⟨w.heap.size + 1, 0, none⟩)) := fun W h => (h.blkAt 1 rfl).cell 0
                      have K1 : ∀ W, KS w [(Bs, #[.int .u64 (q : Int)], 109), (w.heap.size + 2, #[.pointer (some ⟨w.heap.size + 1, 0, none⟩)], 95)] W → W.cell? ⟨Bs, 0, none⟩ = some (.int .u64 (q : Int)) := fun W h => (h.blkAt 0 rfl).cell 0
                      have KG : ∀ W, KS w [(Bs, #[.int .u64 (q : Int)], 109), (w.heap.size + 2, #[.pointer (some ⟨w.heap.size + 1, 0, none⟩)], 95)] W → w.heap.size + 1 < W.heap.size := fun W h => by have := (h.blkAt 1 rfl).lt; omega
                      have HRD := Lib.hid b1r.drew
                      have HBD := Lib.hid b2r.drew
                      have HMD : Hid (MarksB (w.heap.size + 3) W.drew Bs ds) := Lib.hid (b3r.below (Below.refl _ _).drew (Nat.le_refl _))
                      have HBB := Lib.hid (Below.refl W.heap.size W).drew
                      clear b1r b2r b3r
                      refine wpIn_region_round (S := KS w [(Bs, #[.int .u64 (q : Int)], 109), (w.heap.size + 2, #[.pointer (some ⟨w.heap.size + 1, 0, none⟩)], 95)]) (by kernel_rfl) (by kernel_rfl) (fun ⟨_, _, h⟩ => h) hS1 (fun hHeld => ?_)
                      clear hS1
                      refine wpAnyH_take (i := 0) (v := ?_) rfl (by kernel_rfl) (by kernel_rfl) (by kernel_rfl) (fun _ _ _ h => h) (Or.inl ⟨by rfl, ?h0⟩) hHeld ?_
                      case h0 =>
                        intro w' hSw
                        (try dsimp only at hSw)
                        go_simp
                        (try with_reducible rfl)
                      (try simp only [Act.put]); (try simp only [List.setIfInBounds_toArray]); (try simp only [List.set_cons_succ]); (try simp only [List.set_cons_zero])
                      refine wpAnyH_take (i := 1) (v := ?_) rfl (by kernel_rfl) (by kernel_rfl) (by kernel_rfl) (fun _ _ _ h => h) (Or.inl ⟨by rfl, ?h1⟩) hHeld ?_
                      case h1 =>
                        intro w' hSw
                        (try dsimp only at hSw)
                        go_simp
                        (try with_reducible rfl)
                      (try simp only [Act.put]); (try simp only [List.setIfInBounds_toArray]); (try simp only [List.set_cons_succ]); (try simp only [List.set_cons_zero])
                      refine wpAnyH_take (i := 2) (v := ?_) rfl (by kernel_rfl) (by kernel_rfl) (by kernel_rfl) (fun _ _ _ h => h) (Or.inl ⟨by rfl, ?h2⟩) hHeld ?_
                      case h2 =>
                        intro w' hSw
                        (try dsimp only at hSw)
                        go_simp
                        (try with_reducible rfl)
                      (try simp only [Act.put]); (try simp only [List.setIfInBounds_toArray]); (try simp only [List.set_cons_succ]); (try simp only [List.set_cons_zero])
                      refine wpAnyH_take (i := 3) (v := ?_) rfl (by kernel_rfl) (by kernel_rfl) (by kernel_rfl) (fun _ _ _ h => h) (Or.inl ⟨by rfl, ?h3⟩) hHeld ?_
                      case h3 =>
                        intro w' hSw
                        (try dsimp only at hSw)
                        go_simp
                        (try with_reducible rfl)
                      (try simp only [Act.put]); (try simp only [List.setIfInBounds_toArray]); (try simp only [List.set_cons_succ]); (try simp only [List.set_cons_zero])
                      refine wpAnyH_take (i := 4) (v := ?_) rfl (by kernel_rfl) (by kernel_rfl) (by kernel_rfl) (fun _ _ _ h => h) (Or.inl ⟨by rfl, ?h4⟩) hHeld ?_
                      case h4 =>
                        intro w' hSw
                        (try dsimp only at hSw)
                        go_simp
                        (try with_reducible rfl)
                      (try simp only [Act.put]); (try simp only [List.setIfInBounds_toArray]); (try simp only [List.set_cons_succ]); (try simp only [List.set_cons_zero])
                      refine wpAnyH_take (i := 5) (v := ?_) rfl (by kernel_rfl) (by kernel_rfl) (by kernel_rfl) (fun _ _ _ h => h) (Or.inl ⟨by rfl, ?h5⟩) hHeld ?_
                      case h5 =>
                        intro w' hSw
                        (try dsimp only at hSw)
                        go_simp
                        (try with_reducible rfl)
                      (try simp only [Act.put]); (try simp only [List.setIfInBounds_toArray]); (try simp only [List.set_cons_succ]); (try simp only [List.set_cons_zero])
                      refine wpAnyH_take (i := 6) (v := ?_) rfl (by kernel_rfl) (by kernel_rfl) (by kernel_rfl) (fun _ _ _ h => h) (Or.inl ⟨by rfl, ?h6⟩) hHeld ?_
                      case h6 =>
                        intro w' hSw
                        (try dsimp only at hSw)
                        go_simp
                        (try with_reducible rfl)
                      (try simp only [Act.put]); (try simp only [List.setIfInBounds_toArray]); (try simp only [List.set_cons_succ]); (try simp only [List.set_cons_zero])
                      refine wpAnyH_take (i := 8) (v := ?_) rfl (by kernel_rfl) (by kernel_rfl) (by kernel_rfl) (fun _ _ _ h => h) (Or.inl ⟨by rfl, ?h8⟩) hHeld ?_
                      case h8 =>
                        intro w' hSw
                        (try dsimp only at hSw)
                        go_simp
                        (try with_reducible rfl)
                      (try simp only [Act.put]); (try simp only [List.setIfInBounds_toArray]); (try simp only [List.set_cons_succ]); (try simp only [List.set_cons_zero])
                      refine wpAnyH_take (i := 9) (v := ?_) rfl (by kernel_rfl) (by kernel_rfl) (by kernel_rfl) (fun _ _ _ h => h) (Or.inl ⟨by rfl, ?h9⟩) hHeld ?_
                      case h9 =>
                        intro w' hSw
                        (try dsimp only at hSw)
                        go_simp
                        (try with_reducible rfl)
                      (try simp only [Act.put]); (try simp only [List.setIfInBounds_toArray]); (try simp only [List.set_cons_succ]); (try simp only [List.set_cons_zero])
                      refine wpAnyH_take (i := 10) (v := ?_) rfl (by kernel_rfl) (by kernel_rfl) (by kernel_rfl) (fun _ _ _ h => h) (Or.inl ⟨by rfl, ?h10⟩) hHeld ?_
                      case h10 =>
                        intro w' hSw
                        (try dsimp only at hSw)
                        go_simp
                        (try with_reducible rfl)
                      (try simp only [Act.put]); (try simp only [List.setIfInBounds_toArray]); (try simp only [List.set_cons_succ]); (try simp only [List.set_cons_zero])
                      refine wpAnyH_take (i := 11) (v := ?_) rfl (by kernel_rfl) (by kernel_rfl) (by kernel_rfl) (fun _ _ _ h => h) (Or.inl ⟨by rfl, ?h11⟩) hHeld ?_
                      case h11 =>
                        intro w' hSw
                        (try dsimp only at hSw)
                        go_simp
                        (try with_reducible rfl)
                      (try simp only [Act.put]); (try simp only [List.setIfInBounds_toArray]); (try simp only [List.set_cons_succ]); (try simp only [List.set_cons_zero])
                      refine wpAnyH_take (i := 12) (v := ?_) rfl (by kernel_rfl) (by kernel_rfl) (by kernel_rfl) (fun _ _ _ h => h) (Or.inl ⟨by rfl, ?h12⟩) hHeld ?_
                      case h12 =>
                        intro w' hSw
                        (try dsimp only at hSw)
                        go_simp
                        (try with_reducible rfl)
                      (try simp only [Act.put]); (try simp only [List.setIfInBounds_toArray]); (try simp only [List.set_cons_succ]); (try simp only [List.set_cons_zero])
                      refine wpAnyH_take (i := 13) (v := ?_) rfl (by kernel_rfl) (by kernel_rfl) (by kernel_rfl) (fun _ _ _ h => h) (Or.inl ⟨by rfl, ?h13⟩) hHeld ?_
                      case h13 =>
                        intro w' hSw
                        (try dsimp only at hSw)
                        go_simp
                        (try with_reducible rfl)
                      (try simp only [Act.put]); (try simp only [List.setIfInBounds_toArray]); (try simp only [List.set_cons_succ]); (try simp only [List.set_cons_zero])
                      refine wpAnyH_take (i := 14) (v := ?_) rfl (by kernel_rfl) (by kernel_rfl) (by kernel_rfl) (fun _ _ _ h => h) (Or.inl ⟨by rfl, ?h14⟩) hHeld ?_
                      case h14 =>
                        intro w' hSw
                        (try dsimp only at hSw)
                        go_simp
                        (try with_reducible rfl)
                      (try simp only [Act.put]); (try simp only [List.setIfInBounds_toArray]); (try simp only [List.set_cons_succ]); (try simp only [List.set_cons_zero])
                      refine wpAnyH_take (i := 19) (v := ?_) rfl (by kernel_rfl) (by kernel_rfl) (by kernel_rfl) (fun _ _ _ h => h) (Or.inl ⟨by rfl, ?h19⟩) hHeld ?_
                      case h19 =>
                        intro w' hSw
                        (try dsimp only at hSw)
                        go_simp
                        (try with_reducible rfl)
                      (try simp only [Act.put]); (try simp only [List.setIfInBounds_toArray]); (try simp only [List.set_cons_succ]); (try simp only [List.set_cons_zero])
                      refine wpAnyH_take (i := 20) (v := ?_) rfl (by kernel_rfl) (by kernel_rfl) (by kernel_rfl) (fun _ _ _ h => h) (Or.inl ⟨by rfl, ?h20⟩) hHeld ?_
                      case h20 =>
                        intro w' hSw
                        (try dsimp only at hSw)
                        go_simp
                        (try with_reducible rfl)
                      (try simp only [Act.put]); (try simp only [List.setIfInBounds_toArray]); (try simp only [List.set_cons_succ]); (try simp only [List.set_cons_zero])
                      refine wpAnyH_ready (rs := [7, 15]) (by kernel_rfl) (by simp) ?_
                      refine AllReadyH.cons rfl (fun K hK => ?_) (AllReadyH.cons rfl (fun K hK => ?_) (AllReadyH.nil))
                      · have c8 := (HRD.out.cL hq).1
                        rw [← HAX.out.1] at c8
                        go_simp
                        clear c8
                        refine hK.out _ _ hHeld (fun hHeld => ?_)
                        clear hK K
                        (try simp only [Act.put]); (try simp only [List.setIfInBounds_toArray]); (try simp only [List.set_cons_succ]); (try simp only [List.set_cons_zero])
                        refine wpAnyH_ready (rs := [15]) (by kernel_rfl) (by simp) ?_
                        refine AllReadyH.cons rfl (fun K hK => ?_) (AllReadyH.nil)
                        have c8 := (HRD.out.cL hx1).1
                        rw [← HAX.out.2] at c8
                        go_simp
                        clear c8
                        refine hK.out _ _ hHeld (fun hHeld => ?_)
                        clear hK K
                        (try simp only [Act.put]); (try simp only [List.setIfInBounds_toArray]); (try simp only [List.set_cons_succ]); (try simp only [List.set_cons_zero])
                        refine wpAnyH_take (i := 16) (v := ?_) rfl (by kernel_rfl) (by kernel_rfl) (by kernel_rfl) (fun _ _ _ h => h) (Or.inl ⟨by rfl, ?h16⟩) hHeld ?_
                        case h16 =>
                          intro w' hSw
                          (try dsimp only at hSw)
                          go_simp
                          (try with_reducible rfl)
                        (try simp only [Act.put]); (try simp only [List.setIfInBounds_toArray]); (try simp only [List.set_cons_succ]); (try simp only [List.set_cons_zero])
                        refine wpAnyH_ready (rs := [17]) (by kernel_rfl) (by simp) ?_
                        refine AllReadyH.cons rfl (fun K hK => ?_) (AllReadyH.nil)
                        go_simp
                        have nb := (Blk.new W #[.int .i64 (acc : Int), .int .i64 ((1 : Int) + (xv : Int))] 3).drew
                        have NB := Lib.hid nb
                        clear nb
                        have hba : Below W.heap.size W (W.alloc (.cells #[.int .i64 (acc : Int), .int .i64 ((1 : Int) + (xv : Int))] 3)).drew := ((Below.refl _ _).alloc (Nat.le_refl _) _).drew
                        have HBB := Lib.hid hba
                        clear hba
                        have HRD := Lib.hid ((HRD.out.alloc (.cells #[.int .i64 (acc : Int), .int .i64 ((1 : Int) + (xv : Int))] 3)) : Rd w w.heap.size (.slice ea es.length ec) (.slice sa sm.length sc) (.slice aa0 ap.length ac) ol oh nl nh (.slice ad m c) BL  _ _ (W.alloc (.cells #[.int .i64 (acc : Int), .int .i64 ((1 : Int) + (xv : Int))] 3)).drew)
                        have HBD := Lib.hid ((HBD.out.alloc (.cells #[.int .i64 (acc : Int), .int .i64 ((1 : Int) + (xv : Int))] 3)) : Blk (W.alloc (.cells #[.int .i64 (acc : Int), .int .i64 ((1 : Int) + (xv : Int))] 3)).drew _ _ _)
                        have HMD : Hid (MarksB (w.heap.size + 3) (W.alloc (.cells #[.int .i64 (acc : Int), .int .i64 ((1 : Int) + (xv : Int))] 3)).drew Bs ds) := Lib.hid (HMD.out.below ((Below.refl _ _).alloc (Nat.le_refl _) (.cells #[.int .i64 (acc : Int), .int .i64 ((1 : Int) + (xv : Int))] 3)) (Nat.le_refl _))
                        refine hK.out _ _ (hHeld.alloc _) (fun hHeld => ?_)
                        clear hK K
                        (try simp only [Act.put]); (try simp only [List.setIfInBounds_toArray]); (try simp only [List.set_cons_succ]); (try simp only [List.set_cons_zero])
                        refine wpAnyH_ready (rs := [18]) (by kernel_rfl) (by simp) ?_
                        refine AllReadyH.cons rfl (fun K hK => ?_) (AllReadyH.nil)
                        go_simp
                        refine (minimum_b _ _ acc xv _ (NB.out.cell 0) (NB.out.cell 1)).mono ?_
                        rintro e w9 ⟨rfl, hb⟩
                        have HRD := Lib.hid (HRD.out.below hb)
                        have HBD := Lib.hid (HBD.out.b hb)
                        have HMD := Lib.hid (HMD.out.below hb (Nat.le_refl _))
                        have HBB := Lib.hid (HBB.out.trans (hb.mono HBB.out.size))
                        refine hK.out _ _ (hHeld.below hb) (fun hHeld => ?_)
                        clear hK K hb
                        (try simp only [Act.put]); (try simp only [List.setIfInBounds_toArray]); (try simp only [List.set_cons_succ]); (try simp only [List.set_cons_zero])
                        refine wpAnyH_take (i := 21) (v := ?_) rfl (by kernel_rfl) (by kernel_rfl) (by kernel_rfl) (fun _ _ _ h => h) (Or.inl ⟨by rfl, ?h21⟩) hHeld ?_
                        case h21 =>
                          intro w' hSw
                          (try dsimp only at hSw)
                          go_simp
                          (try with_reducible rfl)
                        (try simp only [Act.put]); (try simp only [List.setIfInBounds_toArray]); (try simp only [List.set_cons_succ]); (try simp only [List.set_cons_zero])
                        refine wpAnyH_ready (rs := [22]) (by kernel_rfl) (by simp) ?_
                        refine AllReadyH.cons rfl (fun K hK => ?_) (AllReadyH.nil)
                        obtain ⟨c8, f8⟩ := HRD.out.cL hq
                        have g8 := HRD.out.g
                        go_simp
                        have HRE := Lib.hid (HRD.out.setL hq (min acc (1 + xv)))
                        have HBE := Lib.hid (HBD.out.other (a := ⟨w.heap.size + 1, 1032 + q, none⟩) (by show Bs ≠ w.heap.size + 1; omega) (.int .i64 ((min acc (1 + xv) : Nat) : Int)))
                        have HME : Hid (MarksB (w.heap.size + 3) (w9.setCell ⟨w.heap.size + 1, 1032 + q, none⟩ (.int .i64 ((min acc (1 + xv) : Nat) : Int))) Bs ds) := by
                          obtain ⟨cs, h1, _⟩ := HRD.out.wk
                          exact Lib.hid (HMD.out.setCell h1 _)
                        refine hK.out _ _ ⟨fun x hx => by simp only [List.mem_cons, List.not_mem_nil, or_false] at hx; rcases hx with rfl | rfl; exact HBE.out; exact HRE.out.bp, HRE.out.bel⟩ (fun hHeld => ?_)
                        clear hK K
                        (try simp only [Act.put]); (try simp only [List.setIfInBounds_toArray]); (try simp only [List.set_cons_succ]); (try simp only [List.set_cons_zero])
                        refine wpAnyH_done (by kernel_rfl) ?_ _
                        refine ⟨(KeepsFrom.of_grownBy (grownBy_below HBB.out none) (fun j e => by cases e)).trans ((KeepsOthers.setCell _ _ _).from _), (KpG.below HBB.out).trans (KpG.setL _), HRE.out.funs rfl ?_, HBE.out, HME.out⟩
                        rw [List.map_append]
                        show _ = LF L q init (pre.map (fun x => x.1) ++ [t.1])
                        rw [← HLS.out, HAX.out.1, HAX.out.2, HX.out.1]
                      · have c8 := (HRD.out.cL hx1).1
                        rw [← HAX.out.2] at c8
                        go_simp
                        clear c8
                        refine hK.out _ _ hHeld (fun hHeld => ?_)
                        clear hK K
                        (try simp only [Act.put]); (try simp only [List.setIfInBounds_toArray]); (try simp only [List.set_cons_succ]); (try simp only [List.set_cons_zero])
                        refine wpAnyH_take (i := 16) (v := ?_) rfl (by kernel_rfl) (by kernel_rfl) (by kernel_rfl) (fun _ _ _ h => h) (Or.inl ⟨by rfl, ?h16⟩) hHeld ?_
                        case h16 =>
                          intro w' hSw
                          (try dsimp only at hSw)
                          go_simp
                          (try with_reducible rfl)
                        (try simp only [Act.put]); (try simp only [List.setIfInBounds_toArray]); (try simp only [List.set_cons_succ]); (try simp only [List.set_cons_zero])
                        refine wpAnyH_ready (rs := [7]) (by kernel_rfl) (by simp) ?_
                        refine AllReadyH.cons rfl (fun K hK => ?_) (AllReadyH.nil)
                        have c8 := (HRD.out.cL hq).1
                        rw [← HAX.out.1] at c8
                        go_simp
                        clear c8
                        refine hK.out _ _ hHeld (fun hHeld => ?_)
                        clear hK K
                        (try simp only [Act.put]); (try simp only [List.setIfInBounds_toArray]); (try simp only [List.set_cons_succ]); (try simp only [List.set_cons_zero])
                        refine wpAnyH_ready (rs := [17]) (by kernel_rfl) (by simp) ?_
                        refine AllReadyH.cons rfl (fun K hK => ?_) (AllReadyH.nil)
                        go_simp
                        have nb := (Blk.new W #[.int .i64 (acc : Int), .int .i64 ((1 : Int) + (xv : Int))] 3).drew
                        have NB := Lib.hid nb
                        clear nb
                        have hba : Below W.heap.size W (W.alloc (.cells #[.int .i64 (acc : Int), .int .i64 ((1 : Int) + (xv : Int))] 3)).drew := ((Below.refl _ _).alloc (Nat.le_refl _) _).drew
                        have HBB := Lib.hid hba
                        clear hba
                        have HRD := Lib.hid ((HRD.out.alloc (.cells #[.int .i64 (acc : Int), .int .i64 ((1 : Int) + (xv : Int))] 3)) : Rd w w.heap.size (.slice ea es.length ec) (.slice sa sm.length sc) (.slice aa0 ap.length ac) ol oh nl nh (.slice ad m c) BL  _ _ (W.alloc (.cells #[.int .i64 (acc : Int), .int .i64 ((1 : Int) + (xv : Int))] 3)).drew)
                        have HBD := Lib.hid ((HBD.out.alloc (.cells #[.int .i64 (acc : Int), .int .i64 ((1 : Int) + (xv : Int))] 3)) : Blk (W.alloc (.cells #[.int .i64 (acc : Int), .int .i64 ((1 : Int) + (xv : Int))] 3)).drew _ _ _)
                        have HMD : Hid (MarksB (w.heap.size + 3) (W.alloc (.cells #[.int .i64 (acc : Int), .int .i64 ((1 : Int) + (xv : Int))] 3)).drew Bs ds) := Lib.hid (HMD.out.below ((Below.refl _ _).alloc (Nat.le_refl _) (.cells #[.int .i64 (acc : Int), .int .i64 ((1 : Int) + (xv : Int))] 3)) (Nat.le_refl _))
                        refine hK.out _ _ (hHeld.alloc _) (fun hHeld => ?_)
                        clear hK K
                        (try simp only [Act.put]); (try simp only [List.setIfInBounds_toArray]); (try simp only [List.set_cons_succ]); (try simp only [List.set_cons_zero])
                        refine wpAnyH_ready (rs := [18]) (by kernel_rfl) (by simp) ?_
                        refine AllReadyH.cons rfl (fun K hK => ?_) (AllReadyH.nil)
                        go_simp
                        refine (minimum_b _ _ acc xv _ (NB.out.cell 0) (NB.out.cell 1)).mono ?_
                        rintro e w9 ⟨rfl, hb⟩
                        have HRD := Lib.hid (HRD.out.below hb)
                        have HBD := Lib.hid (HBD.out.b hb)
                        have HMD := Lib.hid (HMD.out.below hb (Nat.le_refl _))
                        have HBB := Lib.hid (HBB.out.trans (hb.mono HBB.out.size))
                        refine hK.out _ _ (hHeld.below hb) (fun hHeld => ?_)
                        clear hK K hb
                        (try simp only [Act.put]); (try simp only [List.setIfInBounds_toArray]); (try simp only [List.set_cons_succ]); (try simp only [List.set_cons_zero])
                        refine wpAnyH_take (i := 21) (v := ?_) rfl (by kernel_rfl) (by kernel_rfl) (by kernel_rfl) (fun _ _ _ h => h) (Or.inl ⟨by rfl, ?h21⟩) hHeld ?_
                        case h21 =>
                          intro w' hSw
                          (try dsimp only at hSw)
                          go_simp
                          (try with_reducible rfl)
                        (try simp only [Act.put]); (try simp only [List.setIfInBounds_toArray]); (try simp only [List.set_cons_succ]); (try simp only [List.set_cons_zero])
                        refine wpAnyH_ready (rs := [22]) (by kernel_rfl) (by simp) ?_
                        refine AllReadyH.cons rfl (fun K hK => ?_) (AllReadyH.nil)
                        obtain ⟨c8, f8⟩ := HRD.out.cL hq
                        have g8 := HRD.out.g
                        go_simp
                        have HRE := Lib.hid (HRD.out.setL hq (min acc (1 + xv)))
                        have HBE := Lib.hid (HBD.out.other (a := ⟨w.heap.size + 1, 1032 + q, none⟩) (by show Bs ≠ w.heap.size + 1; omega) (.int .i64 ((min acc (1 + xv) : Nat) : Int)))
                        have HME : Hid (MarksB (w.heap.size + 3) (w9.setCell ⟨w.heap.size + 1, 1032 + q, none⟩ (.int .i64 ((min acc (1 + xv) : Nat) : Int))) Bs ds) := by
                          obtain ⟨cs, h1, _⟩ := HRD.out.wk
                          exact Lib.hid (HMD.out.setCell h1 _)
                        refine hK.out _ _ ⟨fun x hx => by simp only [List.mem_cons, List.not_mem_nil, or_false] at hx; rcases hx with rfl | rfl; exact HBE.out; exact HRE.out.bp, HRE.out.bel⟩ (fun hHeld => ?_)
                        clear hK K
                        (try simp only [Act.put]); (try simp only [List.setIfInBounds_toArray]); (try simp only [List.set_cons_succ]); (try simp only [List.set_cons_zero])
                        refine wpAnyH_done (by kernel_rfl) ?_ _
                        refine ⟨(KeepsFrom.of_grownBy (grownBy_below HBB.out none) (fun j e => by cases e)).trans ((KeepsOthers.setCell _ _ _).from _), (KpG.below HBB.out).trans (KpG.setL _), HRE.out.funs rfl ?_, HBE.out, HME.out⟩
                        rw [List.map_append]
                        show _ = LF L q init (pre.map (fun x => x.1) ++ [t.1])
                        rw [← HLS.out, HAX.out.1, HAX.out.2, HX.out.1]
                    case stop => rintro D c' pre W hD hSp hx; exact hx.elim
                    case done =>
                      rintro D ys W hD hys ⟨h1d, h2d, h3d⟩ hDW
                      have hle := least_step hq HP.out.2.2.1 (fun j => if j = q then b1 else one j) (fun g hg => by
                        by_cases hgq : g = q
                        · rw [if_pos hgq, hgq]; exact HB1.out
                        · rw [if_neg hgq]; exact HP.out.2.2.2.1 g (by omega))
                      have hmk := (h3d.kept (fun _ _ h => h) (show Bs ≤ D by omega)).cons (by omega) (Array.getElem?_eq_some_iff.1 hDW).1 hDW
                      have HLE := Lib.hid hle
                      have HMK2 := Lib.hid hmk
                      have HRZ := Lib.hid h1d
                      have HYS := Lib.hid hys
                      clear hle hmk h1d h2d h3d hDW hys
                      gi_wp2_with fail
                      have hq1 : (q : Int) + 1 = ((q + 1 : Nat) : Int) := by omega
                      refine ⟨⟨q + 1, (fun j => if j = q then b1 else one j), _, W.heap.size, _, rfl, rfl, rfl, by rw [← hq1]; rfl, rfl, Lib.hid ⟨by omega, HRZ.out, ?_, fun j hj => ?_, HMK2.out, Nat.le_refl _⟩⟩, ?_⟩
                      · have h := HLE.out
                        rw [← HIN.out] at h
                        unfold LF
                        rw [HYS.out]
                        exact h
                      · show (if j = q then b1 else one j) = oneF j
                        by_cases hjq : j = q
                        · rw [if_pos hjq, hjq]; exact HB1.out
                        · rw [if_neg hjq]; exact HP.out.2.2.2.1 j (by omega)
                      · rw [HMU.out, muR_eq (q := q + 1) (by rw [← hq1]; rfl)]
                        omega
                  · have HQ0 := Lib.hid hq0
                    have bz : ((q : Int) == 0) = false := by simp; omega
                    clear hq0
                    have hr24 : Rd w w.heap.size (.slice ea es.length ec) (.slice sa sm.length sc) (.slice aa0 ap.length ac) ol oh nl nh (.slice ad m c) BL (fun j => if j = q then b1 else one j) (fun j => if j = q then (if q = 0 then 0 else 1024) else L j) W22 := HR22.out.funs rfl (by rw [if_neg HQ0.out])
                    have HRX := Lib.hid hr24
                    have HBX := Lib.hid HB22.out
                    have HMX := Lib.hid HM22.out
                    obtain ⟨WX, hWX⟩ : ∃ WX, WX = W22 := ⟨_, rfl⟩
                    rw [← hWX] at HRX HBX HMX ⊢
                    clear hr24 kb2 kl2 ks2 kg2 kc2 kf2 HR22 HB22 HM22 HQ0 hWX
                    have kb2 := HRX.out.bp.c1.1
                    have kl2 := HRX.out.bp.lt
                    have ks2 := HBX.out.c1.1
                    have kg2 := HRX.out.g
                    obtain ⟨init, hinit⟩ : ∃ init, init = (if q = 0 then 0 else 1024) := ⟨_, rfl⟩
                    have hi24 : init ≤ 1024 := by rw [hinit]; split <;> omega
                    rw [← hinit] at HRX
                    have HIN := Lib.hid hinit
                    clear hinit
                    gi_wp2_with fail
                    refine ⟨trivial, ?_⟩
                    (with_reducible refine (callsIn_wide.2 (groups_any _ _ _)).mono ?_)
                    rintro x w6 ⟨rfl, rfl⟩
                    obtain ⟨g1, g2, gb, g4⟩ := two_new WX #[.pointer (some ⟨w.heap.size + 1, 0, none⟩)] #[.int .u64 (q : Int)] 95 109
                    have hrw := HRX.out.below gb
                    have hbw := HBX.out.b gb
                    have hmw := HMX.out.below gb (Nat.le_refl _)
                    have hbl := HBX.out.lt
                    clear kb2 kl2 ks2 kg2
                    generalize hW0 : ((WX.alloc (.cells #[.pointer (some ⟨w.heap.size + 1, 0, none⟩)] 95)).alloc (.cells #[.int .u64 (q : Int)] 109)) = W0 at *
                    clear hW0
                    generalize WX.heap.size = BX at *
                    have g4a := Nat.le_of_eq g4
                    have g4b := Nat.le_of_eq g4.symm
                    clear g4 HRX HBX HMX
                    have hgr := hrw.gr g2 g1
                    have hLT := HP.out.2.2.1.top
                    gi_wp2_with fail
                    refine wpIn_rangeFunc_ownH rfl (by omega) (gf := 143) (lb := #[.pointer (some ⟨BX + 1, 0, none⟩), .pointer (some ⟨BX, 0, none⟩)]) rfl trivial (enters_of Tryz.func143 (by kernel_rfl) rfl)
                      (groups_stops (w.heap.size + 1) (BX + 1) BX q (fun j => if j = q then b1 else one j) W0 hq (by omega) (by omega) hgr 7)
                      (fun h k => h.trans k) (fun W l ob ob' _ h hc _ => KpG.putObj l ob ob' h hc) (Below.refl _ _) (fun _ => rfl)
                      (fun pre W => Rd w w.heap.size (.slice ea es.length ec) (.slice sa sm.length sc) (.slice aa0 ap.length ac) ol oh nl nh (.slice ad m c) BL (fun j => if j = q then b1 else one j) (LF L q init (pre.map (·.1))) W ∧ Blk W Bs #[.int .u64 (q : Int)] 109 ∧ MarksB (w.heap.size + 3) W Bs ds) (fun _ _ _ => False)
                      (fun st X Y row ⟨h1, h2, h3⟩ hg hr => ⟨h1.own hg (fun r e => ⟨by have := (hr r e).1; omega, (hr r e).2⟩), h2.kept hg (fun e => by have := (hr _ e.symm).1; omega), h3.grown hg (fun r e => .inl (by have := (hr r e).1; omega)) (Nat.le_refl _)⟩)
                      (fun _ _ _ _ _ hs _ _ => hs)
                      ⟨hrw, hbw, hmw⟩
                      (fun t a' W => a'.tmps.size = 115 ∧ a'.tmps[3]? = some (.pointer (some ⟨w.heap.size + 1 + 1, 0, none⟩)) ∧ a'.tmps[7]? = some (.pointer (some ⟨Bs, 0, none⟩)) ∧ a'.tmps[11]? = some (.int .u64 (t.1 : Int)) ∧ a'.defers = [])
                      (fun t a' st X Y row hs hg hr => hs)
                      ?assign ?body ?done ?stop
                    case assign =>
                      rintro lp pre t W K hI hK
                      have HK := Lib.hid hK
                      have HI := Lib.hid hI
                      clear hK hI
                      gi_wp2
                      exact HK.out _ _ (KeepsFrom.refl _ _) (KpG.below (Below.refl _ _)) HI.out ⟨rfl, rfl, rfl, rfl, rfl⟩
                    case body =>
                      rintro lp pre t ⟨tm, df⟩ W hl ⟨r, hr⟩ ⟨b1r, b2r, b3r⟩ ⟨hsz, h3, h7, h11, hdf⟩ hlt3
                      dsimp only at hsz h3 h7 h11 hdf
                      subst hdf
                      revert h3 h7 h11
                      revert hsz
                      revert tm
                      refine act115 ?_
                      intro u0 u1 u2 u3 u4 u5 u6 u7 u8 u9 u10 u11 u12 u13 u14 u15 u16 u17 u18 u19 u20 u21 u22 u23 u24 u25 u26 u27 u28 u29 u30 u31 u32 u33 u34 u35 u36 u37 u38 u39 u40 u41 u42 u43 u44 u45 u46 u47 u48 u49 u50 u51 u52 u53 u54 u55 u56 u57 u58 u59 u60 u61 u62 u63 u64 u65 u66 u67 u68 u69 u70 u71 u72 u73 u74 u75 u76 u77 u78 u79 u80 u81 u82 u83 u84 u85 u86 u87 u88 u89 u90 u91 u92 u93 u94 u95 u96 u97 u98 u99 u100 u101 u102 u103 u104 u105 u106 u107 u108 u109 u110 u111 u112 u113 u114 h3 h7 h11
                      obtain rfl : u3 = .pointer (some ⟨w.heap.size + 1 + 1, 0, none⟩) := Option.some.inj h3
                      obtain rfl : u7 = .pointer (some ⟨Bs, 0, none⟩) := Option.some.inj h7
                      obtain rfl : u11 = .int .u64 (t.1 : Int) := Option.some.inj h11
                      clear h3 h7 h11
                      have htm := t.2
                      have hts := gSeq_sub hq htm
                      have htl := gSeq_lt hq htm
                      have hx1 : q ^^^ t.1 < 1024 := by
                        have := Nat.xor_lt_two_pow (n := 10) (show q < 2 ^ 10 by omega) (show t.1 < 2 ^ 10 by omega)
                        omega
                      have exa := andNot_nat q t.1 hq (by omega) hts
                      obtain ⟨x, hx⟩ : ∃ x, x = q ^^^ t.1 := ⟨_, rfl⟩
                      obtain ⟨tv, htv⟩ : ∃ tv, tv = t.1 := ⟨_, rfl⟩
                      rw [← hx] at exa hx1
                      rw [← htv] at exa ⊢
                      have acl := LF_le L q init hi24 hLT (pre.map (·.1)) q
                      have xc := LF_le L q init hi24 hLT (pre.map (·.1)) x
                      have HLS := Lib.hid (LF_snoc L q init (pre.map (·.1)) t.1)
                      have HX := Lib.hid (And.intro hx htv)
                      clear hx htv htm hts htl
                      obtain ⟨LFp, hLF⟩ : ∃ LFp, LFp = LF L q init (pre.map (·.1)) := ⟨_, rfl⟩
                      rw [← hLF] at b1r acl xc HLS
                      have HLF := Lib.hid hLF
                      clear hLF
                      obtain ⟨acc, hacc⟩ : ∃ acc, acc = LFp q := ⟨_, rfl⟩
                      obtain ⟨xv, hxv⟩ : ∃ xv, xv = LFp x := ⟨_, rfl⟩
                      rw [← hacc] at acl
                      rw [← hxv] at xc
                      have HAX := Lib.hid (And.intro hacc hxv)
                      clear hacc hxv
                      have e1 : IntKind.i64.wrap ((1 : Int) + (xv : Int)) = (1 : Int) + (xv : Int) := by rw [IntWalk.i64_in _ (by omega)]
                      have i0 : (0 : Int) ≤ (q : Int) := by omega
                      have i1 : (q : Int) < 1024 := by omega
                      have i2 : (0 : Int) ≤ (x : Int) := by omega
                      have i3 : (x : Int) < 1024 := by omega
                      try clear HP
                      try clear HMU
                      try clear HN
                      try clear HS
                      try clear HA
                      try clear HE
                      try clear HSV
                      try clear HT
                      try clear HMM
                      try clear HCOV
                      try clear HAD
                      try clear HADL
                      try clear HOF
                      try clear HNB
                      try clear HB1
                      try clear hLT
                      try clear hgr
                      try clear hrw
                      try clear hbw
                      try clear hmw
                      try clear g1
                      try clear g2
                      try clear gb
                      try clear p1
                      try clear hlt
                      try clear hnb10
                      try clear hM2
                      try clear hm11
                      try clear hm10
                      try clear r
                      try clear hr
                      try clear hl
                      gi_wp2_with fail
                      have hS1 : KS w [(Bs, #[.int .u64 (q : Int)], 109), (w.heap.size + 2, #[.pointer (some ⟨w.heap.size + 1, 0, none⟩)], 95)] W.drew := ⟨fun x hx => by simp only [List.mem_cons, List.not_mem_nil, or_false] at hx; rcases hx with rfl | rfl; exact b2r; exact b1r.bp, b1r.drew.bel⟩
                      have K0 : ∀ W, KS w [(Bs, #[.int .u64 (q : Int)], 109), (w.heap.size + 2, #[.pointer (some ⟨w.heap.size + 1, 0, none⟩)], 95)] W → W.cell? ⟨w.heap.size + 1 + 1, 0, none⟩ = some (.pointer (some ⟨w.heap.size + 1, 0, none⟩)) := fun W h => (h.blkAt 1 rfl).cell 0
                      have K1 : ∀ W, KS w [(Bs, #[.int .u64 (q : Int)], 109), (w.heap.size + 2, #[.pointer (some ⟨w.heap.size + 1, 0, none⟩)], 95)] W → W.cell? ⟨Bs, 0, none⟩ = some (.int .u64 (q : Int)) := fun W h => (h.blkAt 0 rfl).cell 0
                      have KG : ∀ W, KS w [(Bs, #[.int .u64 (q : Int)], 109), (w.heap.size + 2, #[.pointer (some ⟨w.heap.size + 1, 0, none⟩)], 95)] W → w.heap.size + 1 < W.heap.size := fun W h => by have := (h.blkAt 1 rfl).lt; omega
                      have HRD := Lib.hid b1r.drew
                      have HBD := Lib.hid b2r.drew
                      have HMD : Hid (MarksB (w.heap.size + 3) W.drew Bs ds) := Lib.hid (b3r.below (Below.refl _ _).drew (Nat.le_refl _))
                      have HBB := Lib.hid (Below.refl W.heap.size W).drew
                      clear b1r b2r b3r
                      refine wpIn_region_round (S := KS w [(Bs, #[.int .u64 (q : Int)], 109), (w.heap.size + 2, #[.pointer (some ⟨w.heap.size + 1, 0, none⟩)], 95)]) (by kernel_rfl) (by kernel_rfl) (fun ⟨_, _, h⟩ => h) hS1 (fun hHeld => ?_)
                      clear hS1
                      refine wpAnyH_take (i := 0) (v := ?_) rfl (by kernel_rfl) (by kernel_rfl) (by kernel_rfl) (fun _ _ _ h => h) (Or.inl ⟨by rfl, ?h0⟩) hHeld ?_
                      case h0 =>
                        intro w' hSw
                        (try dsimp only at hSw)
                        go_simp
                        (try with_reducible rfl)
                      (try simp only [Act.put]); (try simp only [List.setIfInBounds_toArray]); (try simp only [List.set_cons_succ]); (try simp only [List.set_cons_zero])
                      refine wpAnyH_take (i := 1) (v := ?_) rfl (by kernel_rfl) (by kernel_rfl) (by kernel_rfl) (fun _ _ _ h => h) (Or.inl ⟨by rfl, ?h1⟩) hHeld ?_
                      case h1 =>
                        intro w' hSw
                        (try dsimp only at hSw)
                        go_simp
                        (try with_reducible rfl)
                      (try simp only [Act.put]); (try simp only [List.setIfInBounds_toArray]); (try simp only [List.set_cons_succ]); (try simp only [List.set_cons_zero])
                      refine wpAnyH_take (i := 2) (v := ?_) rfl (by kernel_rfl) (by kernel_rfl) (by kernel_rfl) (fun _ _ _ h => h) (Or.inl ⟨by rfl, ?h2⟩) hHeld ?_
                      case h2 =>
                        intro w' hSw
                        (try dsimp only at hSw)
                        go_simp
                        (try with_reducible rfl)
                      (try simp only [Act.put]); (try simp only [List.setIfInBounds_toArray]); (try simp only [List.set_cons_succ]); (try simp only [List.set_cons_zero])
                      refine wpAnyH_take (i := 3) (v := ?_) rfl (by kernel_rfl) (by kernel_rfl) (by kernel_rfl) (fun _ _ _ h => h) (Or.inl ⟨by rfl, ?h3⟩) hHeld ?_
                      case h3 =>
                        intro w' hSw
                        (try dsimp only at hSw)
                        go_simp
                        (try with_reducible rfl)
                      (try simp only [Act.put]); (try simp only [List.setIfInBounds_toArray]); (try simp only [List.set_cons_succ]); (try simp only [List.set_cons_zero])
                      refine wpAnyH_take (i := 4) (v := ?_) rfl (by kernel_rfl) (by kernel_rfl) (by kernel_rfl) (fun _ _ _ h => h) (Or.inl ⟨by rfl, ?h4⟩) hHeld ?_
                      case h4 =>
                        intro w' hSw
                        (try dsimp only at hSw)
                        go_simp
                        (try with_reducible rfl)
                      (try simp only [Act.put]); (try simp only [List.setIfInBounds_toArray]); (try simp only [List.set_cons_succ]); (try simp only [List.set_cons_zero])
                      refine wpAnyH_take (i := 5) (v := ?_) rfl (by kernel_rfl) (by kernel_rfl) (by kernel_rfl) (fun _ _ _ h => h) (Or.inl ⟨by rfl, ?h5⟩) hHeld ?_
                      case h5 =>
                        intro w' hSw
                        (try dsimp only at hSw)
                        go_simp
                        (try with_reducible rfl)
                      (try simp only [Act.put]); (try simp only [List.setIfInBounds_toArray]); (try simp only [List.set_cons_succ]); (try simp only [List.set_cons_zero])
                      refine wpAnyH_take (i := 6) (v := ?_) rfl (by kernel_rfl) (by kernel_rfl) (by kernel_rfl) (fun _ _ _ h => h) (Or.inl ⟨by rfl, ?h6⟩) hHeld ?_
                      case h6 =>
                        intro w' hSw
                        (try dsimp only at hSw)
                        go_simp
                        (try with_reducible rfl)
                      (try simp only [Act.put]); (try simp only [List.setIfInBounds_toArray]); (try simp only [List.set_cons_succ]); (try simp only [List.set_cons_zero])
                      refine wpAnyH_take (i := 8) (v := ?_) rfl (by kernel_rfl) (by kernel_rfl) (by kernel_rfl) (fun _ _ _ h => h) (Or.inl ⟨by rfl, ?h8⟩) hHeld ?_
                      case h8 =>
                        intro w' hSw
                        (try dsimp only at hSw)
                        go_simp
                        (try with_reducible rfl)
                      (try simp only [Act.put]); (try simp only [List.setIfInBounds_toArray]); (try simp only [List.set_cons_succ]); (try simp only [List.set_cons_zero])
                      refine wpAnyH_take (i := 9) (v := ?_) rfl (by kernel_rfl) (by kernel_rfl) (by kernel_rfl) (fun _ _ _ h => h) (Or.inl ⟨by rfl, ?h9⟩) hHeld ?_
                      case h9 =>
                        intro w' hSw
                        (try dsimp only at hSw)
                        go_simp
                        (try with_reducible rfl)
                      (try simp only [Act.put]); (try simp only [List.setIfInBounds_toArray]); (try simp only [List.set_cons_succ]); (try simp only [List.set_cons_zero])
                      refine wpAnyH_take (i := 10) (v := ?_) rfl (by kernel_rfl) (by kernel_rfl) (by kernel_rfl) (fun _ _ _ h => h) (Or.inl ⟨by rfl, ?h10⟩) hHeld ?_
                      case h10 =>
                        intro w' hSw
                        (try dsimp only at hSw)
                        go_simp
                        (try with_reducible rfl)
                      (try simp only [Act.put]); (try simp only [List.setIfInBounds_toArray]); (try simp only [List.set_cons_succ]); (try simp only [List.set_cons_zero])
                      refine wpAnyH_take (i := 11) (v := ?_) rfl (by kernel_rfl) (by kernel_rfl) (by kernel_rfl) (fun _ _ _ h => h) (Or.inl ⟨by rfl, ?h11⟩) hHeld ?_
                      case h11 =>
                        intro w' hSw
                        (try dsimp only at hSw)
                        go_simp
                        (try with_reducible rfl)
                      (try simp only [Act.put]); (try simp only [List.setIfInBounds_toArray]); (try simp only [List.set_cons_succ]); (try simp only [List.set_cons_zero])
                      refine wpAnyH_take (i := 12) (v := ?_) rfl (by kernel_rfl) (by kernel_rfl) (by kernel_rfl) (fun _ _ _ h => h) (Or.inl ⟨by rfl, ?h12⟩) hHeld ?_
                      case h12 =>
                        intro w' hSw
                        (try dsimp only at hSw)
                        go_simp
                        (try with_reducible rfl)
                      (try simp only [Act.put]); (try simp only [List.setIfInBounds_toArray]); (try simp only [List.set_cons_succ]); (try simp only [List.set_cons_zero])
                      refine wpAnyH_take (i := 13) (v := ?_) rfl (by kernel_rfl) (by kernel_rfl) (by kernel_rfl) (fun _ _ _ h => h) (Or.inl ⟨by rfl, ?h13⟩) hHeld ?_
                      case h13 =>
                        intro w' hSw
                        (try dsimp only at hSw)
                        go_simp
                        (try with_reducible rfl)
                      (try simp only [Act.put]); (try simp only [List.setIfInBounds_toArray]); (try simp only [List.set_cons_succ]); (try simp only [List.set_cons_zero])
                      refine wpAnyH_take (i := 14) (v := ?_) rfl (by kernel_rfl) (by kernel_rfl) (by kernel_rfl) (fun _ _ _ h => h) (Or.inl ⟨by rfl, ?h14⟩) hHeld ?_
                      case h14 =>
                        intro w' hSw
                        (try dsimp only at hSw)
                        go_simp
                        (try with_reducible rfl)
                      (try simp only [Act.put]); (try simp only [List.setIfInBounds_toArray]); (try simp only [List.set_cons_succ]); (try simp only [List.set_cons_zero])
                      refine wpAnyH_take (i := 19) (v := ?_) rfl (by kernel_rfl) (by kernel_rfl) (by kernel_rfl) (fun _ _ _ h => h) (Or.inl ⟨by rfl, ?h19⟩) hHeld ?_
                      case h19 =>
                        intro w' hSw
                        (try dsimp only at hSw)
                        go_simp
                        (try with_reducible rfl)
                      (try simp only [Act.put]); (try simp only [List.setIfInBounds_toArray]); (try simp only [List.set_cons_succ]); (try simp only [List.set_cons_zero])
                      refine wpAnyH_take (i := 20) (v := ?_) rfl (by kernel_rfl) (by kernel_rfl) (by kernel_rfl) (fun _ _ _ h => h) (Or.inl ⟨by rfl, ?h20⟩) hHeld ?_
                      case h20 =>
                        intro w' hSw
                        (try dsimp only at hSw)
                        go_simp
                        (try with_reducible rfl)
                      (try simp only [Act.put]); (try simp only [List.setIfInBounds_toArray]); (try simp only [List.set_cons_succ]); (try simp only [List.set_cons_zero])
                      refine wpAnyH_ready (rs := [7, 15]) (by kernel_rfl) (by simp) ?_
                      refine AllReadyH.cons rfl (fun K hK => ?_) (AllReadyH.cons rfl (fun K hK => ?_) (AllReadyH.nil))
                      · have c8 := (HRD.out.cL hq).1
                        rw [← HAX.out.1] at c8
                        go_simp
                        clear c8
                        refine hK.out _ _ hHeld (fun hHeld => ?_)
                        clear hK K
                        (try simp only [Act.put]); (try simp only [List.setIfInBounds_toArray]); (try simp only [List.set_cons_succ]); (try simp only [List.set_cons_zero])
                        refine wpAnyH_ready (rs := [15]) (by kernel_rfl) (by simp) ?_
                        refine AllReadyH.cons rfl (fun K hK => ?_) (AllReadyH.nil)
                        have c8 := (HRD.out.cL hx1).1
                        rw [← HAX.out.2] at c8
                        go_simp
                        clear c8
                        refine hK.out _ _ hHeld (fun hHeld => ?_)
                        clear hK K
                        (try simp only [Act.put]); (try simp only [List.setIfInBounds_toArray]); (try simp only [List.set_cons_succ]); (try simp only [List.set_cons_zero])
                        refine wpAnyH_take (i := 16) (v := ?_) rfl (by kernel_rfl) (by kernel_rfl) (by kernel_rfl) (fun _ _ _ h => h) (Or.inl ⟨by rfl, ?h16⟩) hHeld ?_
                        case h16 =>
                          intro w' hSw
                          (try dsimp only at hSw)
                          go_simp
                          (try with_reducible rfl)
                        (try simp only [Act.put]); (try simp only [List.setIfInBounds_toArray]); (try simp only [List.set_cons_succ]); (try simp only [List.set_cons_zero])
                        refine wpAnyH_ready (rs := [17]) (by kernel_rfl) (by simp) ?_
                        refine AllReadyH.cons rfl (fun K hK => ?_) (AllReadyH.nil)
                        go_simp
                        have nb := (Blk.new W #[.int .i64 (acc : Int), .int .i64 ((1 : Int) + (xv : Int))] 3).drew
                        have NB := Lib.hid nb
                        clear nb
                        have hba : Below W.heap.size W (W.alloc (.cells #[.int .i64 (acc : Int), .int .i64 ((1 : Int) + (xv : Int))] 3)).drew := ((Below.refl _ _).alloc (Nat.le_refl _) _).drew
                        have HBB := Lib.hid hba
                        clear hba
                        have HRD := Lib.hid ((HRD.out.alloc (.cells #[.int .i64 (acc : Int), .int .i64 ((1 : Int) + (xv : Int))] 3)) : Rd w w.heap.size (.slice ea es.length ec) (.slice sa sm.length sc) (.slice aa0 ap.length ac) ol oh nl nh (.slice ad m c) BL  _ _ (W.alloc (.cells #[.int .i64 (acc : Int), .int .i64 ((1 : Int) + (xv : Int))] 3)).drew)
                        have HBD := Lib.hid ((HBD.out.alloc (.cells #[.int .i64 (acc : Int), .int .i64 ((1 : Int) + (xv : Int))] 3)) : Blk (W.alloc (.cells #[.int .i64 (acc : Int), .int .i64 ((1 : Int) + (xv : Int))] 3)).drew _ _ _)
                        have HMD : Hid (MarksB (w.heap.size + 3) (W.alloc (.cells #[.int .i64 (acc : Int), .int .i64 ((1 : Int) + (xv : Int))] 3)).drew Bs ds) := Lib.hid (HMD.out.below ((Below.refl _ _).alloc (Nat.le_refl _) (.cells #[.int .i64 (acc : Int), .int .i64 ((1 : Int) + (xv : Int))] 3)) (Nat.le_refl _))
                        refine hK.out _ _ (hHeld.alloc _) (fun hHeld => ?_)
                        clear hK K
                        (try simp only [Act.put]); (try simp only [List.setIfInBounds_toArray]); (try simp only [List.set_cons_succ]); (try simp only [List.set_cons_zero])
                        refine wpAnyH_ready (rs := [18]) (by kernel_rfl) (by simp) ?_
                        refine AllReadyH.cons rfl (fun K hK => ?_) (AllReadyH.nil)
                        go_simp
                        refine (minimum_b _ _ acc xv _ (NB.out.cell 0) (NB.out.cell 1)).mono ?_
                        rintro e w9 ⟨rfl, hb⟩
                        have HRD := Lib.hid (HRD.out.below hb)
                        have HBD := Lib.hid (HBD.out.b hb)
                        have HMD := Lib.hid (HMD.out.below hb (Nat.le_refl _))
                        have HBB := Lib.hid (HBB.out.trans (hb.mono HBB.out.size))
                        refine hK.out _ _ (hHeld.below hb) (fun hHeld => ?_)
                        clear hK K hb
                        (try simp only [Act.put]); (try simp only [List.setIfInBounds_toArray]); (try simp only [List.set_cons_succ]); (try simp only [List.set_cons_zero])
                        refine wpAnyH_take (i := 21) (v := ?_) rfl (by kernel_rfl) (by kernel_rfl) (by kernel_rfl) (fun _ _ _ h => h) (Or.inl ⟨by rfl, ?h21⟩) hHeld ?_
                        case h21 =>
                          intro w' hSw
                          (try dsimp only at hSw)
                          go_simp
                          (try with_reducible rfl)
                        (try simp only [Act.put]); (try simp only [List.setIfInBounds_toArray]); (try simp only [List.set_cons_succ]); (try simp only [List.set_cons_zero])
                        refine wpAnyH_ready (rs := [22]) (by kernel_rfl) (by simp) ?_
                        refine AllReadyH.cons rfl (fun K hK => ?_) (AllReadyH.nil)
                        obtain ⟨c8, f8⟩ := HRD.out.cL hq
                        have g8 := HRD.out.g
                        go_simp
                        have HRE := Lib.hid (HRD.out.setL hq (min acc (1 + xv)))
                        have HBE := Lib.hid (HBD.out.other (a := ⟨w.heap.size + 1, 1032 + q, none⟩) (by show Bs ≠ w.heap.size + 1; omega) (.int .i64 ((min acc (1 + xv) : Nat) : Int)))
                        have HME : Hid (MarksB (w.heap.size + 3) (w9.setCell ⟨w.heap.size + 1, 1032 + q, none⟩ (.int .i64 ((min acc (1 + xv) : Nat) : Int))) Bs ds) := by
                          obtain ⟨cs, h1, _⟩ := HRD.out.wk
                          exact Lib.hid (HMD.out.setCell h1 _)
                        refine hK.out _ _ ⟨fun x hx => by simp only [List.mem_cons, List.not_mem_nil, or_false] at hx; rcases hx with rfl | rfl; exact HBE.out; exact HRE.out.bp, HRE.out.bel⟩ (fun hHeld => ?_)
                        clear hK K
                        (try simp only [Act.put]); (try simp only [List.setIfInBounds_toArray]); (try simp only [List.set_cons_succ]); (try simp only [List.set_cons_zero])
                        refine wpAnyH_done (by kernel_rfl) ?_ _
                        refine ⟨(KeepsFrom.of_grownBy (grownBy_below HBB.out none) (fun j e => by cases e)).trans ((KeepsOthers.setCell _ _ _).from _), (KpG.below HBB.out).trans (KpG.setL _), HRE.out.funs rfl ?_, HBE.out, HME.out⟩
                        rw [List.map_append]
                        show _ = LF L q init (pre.map (fun x => x.1) ++ [t.1])
                        rw [← HLS.out, HAX.out.1, HAX.out.2, HX.out.1]
                      · have c8 := (HRD.out.cL hx1).1
                        rw [← HAX.out.2] at c8
                        go_simp
                        clear c8
                        refine hK.out _ _ hHeld (fun hHeld => ?_)
                        clear hK K
                        (try simp only [Act.put]); (try simp only [List.setIfInBounds_toArray]); (try simp only [List.set_cons_succ]); (try simp only [List.set_cons_zero])
                        refine wpAnyH_take (i := 16) (v := ?_) rfl (by kernel_rfl) (by kernel_rfl) (by kernel_rfl) (fun _ _ _ h => h) (Or.inl ⟨by rfl, ?h16⟩) hHeld ?_
                        case h16 =>
                          intro w' hSw
                          (try dsimp only at hSw)
                          go_simp
                          (try with_reducible rfl)
                        (try simp only [Act.put]); (try simp only [List.setIfInBounds_toArray]); (try simp only [List.set_cons_succ]); (try simp only [List.set_cons_zero])
                        refine wpAnyH_ready (rs := [7]) (by kernel_rfl) (by simp) ?_
                        refine AllReadyH.cons rfl (fun K hK => ?_) (AllReadyH.nil)
                        have c8 := (HRD.out.cL hq).1
                        rw [← HAX.out.1] at c8
                        go_simp
                        clear c8
                        refine hK.out _ _ hHeld (fun hHeld => ?_)
                        clear hK K
                        (try simp only [Act.put]); (try simp only [List.setIfInBounds_toArray]); (try simp only [List.set_cons_succ]); (try simp only [List.set_cons_zero])
                        refine wpAnyH_ready (rs := [17]) (by kernel_rfl) (by simp) ?_
                        refine AllReadyH.cons rfl (fun K hK => ?_) (AllReadyH.nil)
                        go_simp
                        have nb := (Blk.new W #[.int .i64 (acc : Int), .int .i64 ((1 : Int) + (xv : Int))] 3).drew
                        have NB := Lib.hid nb
                        clear nb
                        have hba : Below W.heap.size W (W.alloc (.cells #[.int .i64 (acc : Int), .int .i64 ((1 : Int) + (xv : Int))] 3)).drew := ((Below.refl _ _).alloc (Nat.le_refl _) _).drew
                        have HBB := Lib.hid hba
                        clear hba
                        have HRD := Lib.hid ((HRD.out.alloc (.cells #[.int .i64 (acc : Int), .int .i64 ((1 : Int) + (xv : Int))] 3)) : Rd w w.heap.size (.slice ea es.length ec) (.slice sa sm.length sc) (.slice aa0 ap.length ac) ol oh nl nh (.slice ad m c) BL  _ _ (W.alloc (.cells #[.int .i64 (acc : Int), .int .i64 ((1 : Int) + (xv : Int))] 3)).drew)
                        have HBD := Lib.hid ((HBD.out.alloc (.cells #[.int .i64 (acc : Int), .int .i64 ((1 : Int) + (xv : Int))] 3)) : Blk (W.alloc (.cells #[.int .i64 (acc : Int), .int .i64 ((1 : Int) + (xv : Int))] 3)).drew _ _ _)
                        have HMD : Hid (MarksB (w.heap.size + 3) (W.alloc (.cells #[.int .i64 (acc : Int), .int .i64 ((1 : Int) + (xv : Int))] 3)).drew Bs ds) := Lib.hid (HMD.out.below ((Below.refl _ _).alloc (Nat.le_refl _) (.cells #[.int .i64 (acc : Int), .int .i64 ((1 : Int) + (xv : Int))] 3)) (Nat.le_refl _))
                        refine hK.out _ _ (hHeld.alloc _) (fun hHeld => ?_)
                        clear hK K
                        (try simp only [Act.put]); (try simp only [List.setIfInBounds_toArray]); (try simp only [List.set_cons_succ]); (try simp only [List.set_cons_zero])
                        refine wpAnyH_ready (rs := [18]) (by kernel_rfl) (by simp) ?_
                        refine AllReadyH.cons rfl (fun K hK => ?_) (AllReadyH.nil)
                        go_simp
                        refine (minimum_b _ _ acc xv _ (NB.out.cell 0) (NB.out.cell 1)).mono ?_
                        rintro e w9 ⟨rfl, hb⟩
                        have HRD := Lib.hid (HRD.out.below hb)
                        have HBD := Lib.hid (HBD.out.b hb)
                        have HMD := Lib.hid (HMD.out.below hb (Nat.le_refl _))
                        have HBB := Lib.hid (HBB.out.trans (hb.mono HBB.out.size))
                        refine hK.out _ _ (hHeld.below hb) (fun hHeld => ?_)
                        clear hK K hb
                        (try simp only [Act.put]); (try simp only [List.setIfInBounds_toArray]); (try simp only [List.set_cons_succ]); (try simp only [List.set_cons_zero])
                        refine wpAnyH_take (i := 21) (v := ?_) rfl (by kernel_rfl) (by kernel_rfl) (by kernel_rfl) (fun _ _ _ h => h) (Or.inl ⟨by rfl, ?h21⟩) hHeld ?_
                        case h21 =>
                          intro w' hSw
                          (try dsimp only at hSw)
                          go_simp
                          (try with_reducible rfl)
                        (try simp only [Act.put]); (try simp only [List.setIfInBounds_toArray]); (try simp only [List.set_cons_succ]); (try simp only [List.set_cons_zero])
                        refine wpAnyH_ready (rs := [22]) (by kernel_rfl) (by simp) ?_
                        refine AllReadyH.cons rfl (fun K hK => ?_) (AllReadyH.nil)
                        obtain ⟨c8, f8⟩ := HRD.out.cL hq
                        have g8 := HRD.out.g
                        go_simp
                        have HRE := Lib.hid (HRD.out.setL hq (min acc (1 + xv)))
                        have HBE := Lib.hid (HBD.out.other (a := ⟨w.heap.size + 1, 1032 + q, none⟩) (by show Bs ≠ w.heap.size + 1; omega) (.int .i64 ((min acc (1 + xv) : Nat) : Int)))
                        have HME : Hid (MarksB (w.heap.size + 3) (w9.setCell ⟨w.heap.size + 1, 1032 + q, none⟩ (.int .i64 ((min acc (1 + xv) : Nat) : Int))) Bs ds) := by
                          obtain ⟨cs, h1, _⟩ := HRD.out.wk
                          exact Lib.hid (HMD.out.setCell h1 _)
                        refine hK.out _ _ ⟨fun x hx => by simp only [List.mem_cons, List.not_mem_nil, or_false] at hx; rcases hx with rfl | rfl; exact HBE.out; exact HRE.out.bp, HRE.out.bel⟩ (fun hHeld => ?_)
                        clear hK K
                        (try simp only [Act.put]); (try simp only [List.setIfInBounds_toArray]); (try simp only [List.set_cons_succ]); (try simp only [List.set_cons_zero])
                        refine wpAnyH_done (by kernel_rfl) ?_ _
                        refine ⟨(KeepsFrom.of_grownBy (grownBy_below HBB.out none) (fun j e => by cases e)).trans ((KeepsOthers.setCell _ _ _).from _), (KpG.below HBB.out).trans (KpG.setL _), HRE.out.funs rfl ?_, HBE.out, HME.out⟩
                        rw [List.map_append]
                        show _ = LF L q init (pre.map (fun x => x.1) ++ [t.1])
                        rw [← HLS.out, HAX.out.1, HAX.out.2, HX.out.1]
                    case stop => rintro D c' pre W hD hSp hx; exact hx.elim
                    case done =>
                      rintro D ys W hD hys ⟨h1d, h2d, h3d⟩ hDW
                      have hle := least_step hq HP.out.2.2.1 (fun j => if j = q then b1 else one j) (fun g hg => by
                        by_cases hgq : g = q
                        · rw [if_pos hgq, hgq]; exact HB1.out
                        · rw [if_neg hgq]; exact HP.out.2.2.2.1 g (by omega))
                      have hmk := (h3d.kept (fun _ _ h => h) (show Bs ≤ D by omega)).cons (by omega) (Array.getElem?_eq_some_iff.1 hDW).1 hDW
                      have HLE := Lib.hid hle
                      have HMK2 := Lib.hid hmk
                      have HRZ := Lib.hid h1d
                      have HYS := Lib.hid hys
                      clear hle hmk h1d h2d h3d hDW hys
                      gi_wp2_with fail
                      have hq1 : (q : Int) + 1 = ((q + 1 : Nat) : Int) := by omega
                      refine ⟨⟨q + 1, (fun j => if j = q then b1 else one j), _, W.heap.size, _, rfl, rfl, rfl, by rw [← hq1]; rfl, rfl, Lib.hid ⟨by omega, HRZ.out, ?_, fun j hj => ?_, HMK2.out, Nat.le_refl _⟩⟩, ?_⟩
                      · have h := HLE.out
                        rw [← HIN.out] at h
                        unfold LF
                        rw [HYS.out]
                        exact h
                      · show (if j = q then b1 else one j) = oneF j
                        by_cases hjq : j = q
                        · rw [if_pos hjq, hjq]; exact HB1.out
                        · rw [if_neg hjq]; exact HP.out.2.2.2.1 j (by omega)
                      · rw [HMU.out, muR_eq (q := q + 1) (by rw [← hq1]; rfl)]
                        omega
            · have p1 : ¬ (q : Int) < (M1 : Int) + 1 := by omega
              have kb0 := HP.out.2.1.bp.c1.1
              have kl0 := HP.out.2.1.bp.lt
              have hqe : q = M1 + 1 := by have := HP.out.1; omega
              have HQE := Lib.hid hqe
              clear hqe
              gi_wp2_with fail
              refine leaves_marks (by simp) _ _ _ HP.out.2.2.2.2.1 (fun W' hb' hk' => ?_)
              obtain ⟨cs, w1, w2⟩ := HP.out.2.1.wk
              have cw : ∀ i u, cs[i]? = some u → W'.cell? ⟨w.heap.size + 1, i, none⟩ = some u := fun i u h => (hb'.cell (p := ⟨w.heap.size + 1, i, none⟩) (by show w.heap.size + 1 < w.heap.size + 3; omega)).trans ((w1.cell i).trans h)
              have hle := HP.out.2.2.1
              rw [HQE.out] at hle
              have h2q := Nat.two_pow_pos m
              have hmm := HMM.out
              refine ⟨_, results_tmp rfl _ _ _, w.heap.size + 1, ad, m, c, L (2 ^ m - 1), rfl, ⟨⟨cw _ _ w2.c0, cw _ _ w2.c1, cw _ _ w2.c2, cw _ _ w2.c3, cw _ _ w2.c4, cw _ _ w2.c5, cw _ _ w2.c6⟩, cw _ _ w2.c7, cw _ _ (w2.least _ (by omega)), ?_⟩, ⟨L, by rw [← hmm.2.2]; exact hmm.2.1, ?_, rfl⟩, hm11, HP.out.2.1.bel.trans (hb'.mono (by omega))⟩
              · have h1 := w1.lt
                exact Nat.lt_of_lt_of_le h1 hb'.size
              · rw [← hmm.2.2, ← HOF.out, show 2 ^ m = M1 + 1 by omega]
                exact hle
end Go.Proofs.YtdfebccmjbocjaaGreatDoor
