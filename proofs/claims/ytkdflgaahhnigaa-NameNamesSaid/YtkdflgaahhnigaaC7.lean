/- Texts of package name, for this seat. -/
import Derived.Test.YtkdflgaahhnigaaC6
import Derived.Test.YtkdflgaahhnigaaCmt
import Derived.Lib.SlBytesRow
import Derived.Maps.AppendAt
import Derived.RangeFuncBox
import Derived.Deep.Onto
import Derived.Lib.SmallJoins
import Derived.Lib.AppendZerosOnto
import Derived.Lib.SliceRun
import Derived.Laws.AppendOwnNone
set_option linter.unusedVariables false
set_option linter.unusedSimpArgs false
namespace Go.Proofs.Ytkdflgaahhnigaa
open Go.RowKit Go.Shelf

/-- the key of a name -/
def keyR (R : RB) (l : List UInt8) : List UInt8 := match l with | [] => [] | b :: t => Nm.keyOf (sndR R) (inS R.soft) b t
theorem keyR_snoc (R : RB) (l : List UInt8) (b : UInt8) : keyR R (l ++ [b]) = if l = [] then [sndR R b] else Nm.kst (sndR R) (inS R.soft) (keyR R l) b := by
  cases l with
  | nil => simp [keyR, Nm.keyOf]
  | cons a t => simp [keyR, Nm.keyOf]
theorem keyR_stop (R : RB) : ∀ (t l : List UInt8), (keyR R l).length = 6 → keyR R (l ++ t) = keyR R l
  | [], l, _ => by simp
  | b :: t, l, h => by
    have hl : l ≠ [] := by rintro rfl; simp [keyR] at h
    have e : keyR R (l ++ [b]) = keyR R l := by
      rw [keyR_snoc, if_neg hl]; unfold Nm.kst; rw [if_pos h]
    rw [show l ++ b :: t = (l ++ [b]) ++ t by simp, keyR_stop R t (l ++ [b]) (by rw [e]; exact h), e]
theorem keyR_pos (R : RB) (l : List UInt8) (h : l ≠ []) : keyR R l ≠ [] := by
  cases l with
  | nil => exact absurd rfl h
  | cons a t =>
    have : ∀ (t k : List UInt8), k ≠ [] → t.foldl (Nm.kst (sndR R) (inS R.soft)) k ≠ [] := by
      intro t
      induction t with
      | nil => intro k hk; exact hk
      | cons b t ih =>
        intro k hk
        refine ih _ ?_
        unfold Nm.kst
        split
        · exact hk
        · split
          · exact hk
          · simp
    exact this t _ (by simp)
def bytesV (l : List UInt8) : List Value := l.map fun b => .int .u8 (b.toNat : Int)
theorem tInfo5 : (Try.prog.info? 5).map (fun i => (i.zero, i.size, i.bytes)) = some (some (.int .u8 0), 1, 1) := by kernel_rfl
theorem conv_key {W : World} {base g cap : Nat} {l : List UInt8} (h : W.ownsRow base 5 1 (.slice (some ⟨g, 0, none⟩) l.length cap) l.length (bytesV l)) :
    (convert 57 9 (.slice (some ⟨g, 0, none⟩) l.length cap)).run Try.prog W = .ok (.string ⟨l.toArray⟩) W := by
  have hb : Lib.Bytes W g 0 ⟨l.toArray⟩ := fun i hi => by
    have hi' : i < l.length := hi
    have := h.cellAt i (by omega)
    rw [Nat.zero_add, this, bytesV, List.getElem?_map, List.getElem?_eq_getElem hi']
    rfl
  exact Lib.run_convert_whole (P := Try.prog) W 57 5 9 Try.underlying57 Try.underlying5 Try.underlying9 g 0 ⟨l.toArray⟩ hb cap
theorem row_below {W W' : World} {base : Nat} {e : TypeId} {size : Nat} {v : Value} {k : Nat} {xs : List Value} (h : W.ownsRow base e size v k xs) (hb : Below W.heap.size W W') : W'.ownsRow base e size v k xs := by
  refine h.kept (grownBy_below hb none) ?_
  rcases h.2 with ⟨rfl, _⟩ | ⟨g, cap, cur, rfl, _, hgb, _⟩
  · exact .inl rfl
  · exact .inr (by simp [Value.ownBlock])
/-- what the loop of Key keeps -/
def KeyS (w : World) (B7 Bn base : Nat) (rc : Array Value) (R : RB) (s : List UInt8) (W : World) : Prop :=
  Blk W w.heap.size rc 27 ∧ Blk W B7 (arrL (sF (R.cls.map (·.data.toList)))).toArray 55 ∧ BytesAt W Bn 0 s ∧ Below w.heap.size w W ∧ B7 < base ∧ Bn < base ∧ w.heap.size < base ∧ base ≤ W.heap.size
section
variable {w W W' : World} {B7 Bn base : Nat} {rc : Array Value} {R : RB} {s : List UInt8}
theorem KeyS.below (h : KeyS w B7 Bn base rc R s W) (hb : Below W.heap.size W W') : KeyS w B7 Bn base rc R s W' :=
  ⟨h.1.b hb, h.2.1.b hb, h.2.2.1.below hb (by have := h.2.2.2; omega), h.2.2.2.1.trans (hb.mono h.2.2.2.1.size), h.2.2.2.2.1, h.2.2.2.2.2.1, h.2.2.2.2.2.2.1, Nat.le_trans h.2.2.2.2.2.2.2 hb.size⟩
theorem KeyS.alloc (h : KeyS w B7 Bn base rc R s W) (o : Obj) : KeyS w B7 Bn base rc R s (W.alloc o) := h.below ((Below.refl _ _).alloc (Nat.le_refl _) o)
theorem KeyS.row (h : KeyS w B7 Bn base rc R s W) {row : Option Nat} (hg : W.grownBy W' row) (hr : ∀ r, row = some r → base ≤ r) : KeyS w B7 Bn base rc R s W' := by
  obtain ⟨h1, h2, h3, h4, h5, h6, h7, h8⟩ := h
  refine ⟨h1.kept hg (fun e => by have := hr _ e.symm; omega), h2.kept hg (fun e => by have := hr _ e.symm; omega), fun i x e => ?_, h4.grown hg h4.size (fun r e => by have := hr r e; omega), h5, h6, h7, Nat.le_trans h8 hg.size⟩
  exact hg.cell (h3 i x e) (fun e => by have := hr _ e.symm; show False; simp at this; omega)
end
set_option maxRecDepth 100000 in
set_option maxHeartbeats 4000000 in
theorem Key_good (a : Option Addr) (g o c n : Nat) (R : RB) (w : World) (hN : R.cls.length = n) (hk : SK w a g o R.cls) (hc : n ≤ c) (ht : Thn R) (x : ByteArray) (hx : x.size ≤ 1000) (hv : chkN R [x] = 0) : Calls Try.prog 6 #[rulesV a n c R.soft R.al R.ot R.sk R.ss R.db, .string x] w fun e w' => e = .returned (.tuple #[.string ⟨(keyR R x.data.toList).toArray⟩, .int .i64 0]) ∧ Below w.heap.size w w' := by
  have CK := Lib.hid (fun W b (hW : Below w.heap.size w W) (hb : Blk W b #[.string x] 9) => check_any a g o c n R W hN (hk.below hW) hc ht (some ⟨b, 0, none⟩) b 0 1 1 [x] rfl (sk1 hb) (by omega) (fun s hs => by simp at hs; subst hs; exact hx))
  rw [hv] at CK
  obtain ⟨hg, hxx⟩ := chkN_ok hv
  obtain ⟨gx1, gx2⟩ := hxx x (by simp)
  have hpos : 0 < x.size := by
    rcases Nat.eq_zero_or_pos x.size with h0 | h0
    · have : x.data.toList = [] := List.eq_nil_of_length_eq_zero (by simpa using h0)
      simp [spB, this] at gx2
    · exact h0
  have hnm := name_of gx2 gx1
  have CS := Lib.hid (fun W (hW : Below w.heap.size w W) => sounds_any a g o c n R W hN (hk.below hW) hc ht hg.letc)
  have CF := Lib.hid (fun b W => soft_any a n c R.soft R.al R.ot R.sk R.ss R.db b W)
  obtain ⟨i0, hi, hz0, hz1, hz2⟩ := info_parts tInfo5
  have HLET := Lib.hid hnm.2
  have HP := Lib.hid (And.intro hpos gx1)
  clear hk ht hN hv hg hxx gx1 gx2 hnm
  have s0 := (KS.start w).new (rulesC a n c R.soft R.al R.ot R.sk R.ss R.db) 27
  obtain ⟨kb0_0, kb0_1, kb0_2, kb0_3, kb0_4, kb0_5, kb0_6⟩ := (s0.blkAt 0 rfl).c7
  have S0 := Lib.hid s0
  clear s0
  go_enter Try.func6, Try.ntmps6
  go_wp2_with fail
  refine (CK.out _ (w.heap.size + 1) ((S0.out.bel).alloc S0.out.size _) (two_new w _ _ _ _).2.1).mono ?_
  rintro e w1 ⟨rfl, h1⟩
  clear kb0_0 kb0_1 kb0_2 kb0_3 kb0_4 kb0_5 kb0_6
  have s1 := (S0.out.alloc (.cells #[.string x] 9)).below h1
  obtain ⟨kb0_0, kb0_1, kb0_2, kb0_3, kb0_4, kb0_5, kb0_6⟩ := (s1.blkAt 0 rfl).c7
  have S1 := Lib.hid s1
  clear h1 s1
  go_wp2_with fail
  refine (CS.out _ S1.out.bel).mono ?_
  rintro e w2 ⟨rfl, h2⟩
  clear kb0_0 kb0_1 kb0_2 kb0_3 kb0_4 kb0_5 kb0_6
  have s2 := S1.out.below h2
  obtain ⟨kb0_0, kb0_1, kb0_2, kb0_3, kb0_4, kb0_5, kb0_6⟩ := (s2.blkAt 0 rfl).c7
  have S2 := Lib.hid s2
  clear h2 s2
  generalize hvs : arrL (sF (R.cls.map (·.data.toList))) = vs at *
  have hlen : vs.length = 26 := by rw [← hvs]; exact arrL_len _
  have hone : ∀ v, v ∈ vs → v.oneCell' = true := fun v hv => arrL_one _ v (by rw [hvs]; exact hv)
  have HLN := Lib.hid hlen
  have HON := Lib.hid hone
  have HVS := Lib.hid hvs
  have hkc := conv_rule
  clear hlen hone hvs kb0_0 kb0_1 kb0_2 kb0_3 kb0_4 kb0_5 kb0_6
  go_wp2_with (refine wpList_store_row rfl 55 _ _ rfl _ rfl 55 _ vs.toArray rfl (Blk.new w2 _ 55) (by rw [tInfo103]; rfl) (by simp [HLN.out]) (by simpa using HON.out) ?_; intro w3 hb3 hg3; have HB3 := Lib.hid hb3; have HG3 := Lib.hid hg3; clear hb3 hg3)
  have q2 := S2.out.lt 0 rfl
  have q3 := HG3.out.size
  rw [World.size_alloc] at q3
  have HS3 := Lib.hid (show KeyS w w2.heap.size w3.heap.size (Lib.bytesWorld w3 5 x).heap.size (rulesC a n c R.soft R.al R.ot R.sk R.ss R.db) R x.data.toList (Lib.bytesWorld w3 5 x) from by
    have hbb := bytes_below w3 5 x
    have hss := Lib.bytesWorld_size w3 5 x
    have hbs : Below w.heap.size w w3 := below_grownBy (S2.out.bel.alloc S2.out.size _) HG3.out (by omega)
    have hc0 : Blk w3 w.heap.size (rulesC a n c R.soft R.al R.ot R.sk R.ss R.db) 27 := ((S2.out.blkAt 0 rfl).alloc _).kept HG3.out (by simp; omega)
    refine ⟨hc0.b hbb, by rw [HVS.out]; exact HB3.out.b hbb, bytes_at w3 5 x, hbs.trans (hbb.mono hbs.size), by omega, by omega, by omega, Nat.le_refl _⟩)
  clear q2 q3
  go_wp2_with fail
  clear S1 S2 S0 HB3 HG3 CK CS
  generalize (Lib.bytesWorld w3 5 x).heap.size = base at *
  generalize w2.heap.size = B7 at *
  generalize w3.heap.size = Bn at *
  go_loopw [24, 8] (fun y v wr => ∃ i k : Nat, i ≤ x.size ∧ y = .int .i64 (i : Int) ∧ k < 6 ∧ k = (keyR R (x.data.toList.take i)).length ∧ wr.ownsRow base 5 1 v k (bytesV (keyR R (x.data.toList.take i))) ∧ KeyS w B7 Bn base (rulesC a n c R.soft R.al R.ot R.sk R.ss R.db) R x.data.toList wr) (fun y _ _ => x.size - (intOf y).toNat)
  case atStart => exact ⟨0, 0, Nat.zero_le _, rfl, by omega, by simp [keyR], World.ownsRow_nil _ _ _ _, HS3.out⟩
  case round =>
    clear HS3
    obtain ⟨i, k, hi', rfl, hk6, hkl, hown, HS⟩ := hrel
    have HKL := Lib.hid hkl
    have HO := Lib.hid hown
    have H := Lib.hid HS
    have hbs := HS.2.2.2.2.2.2.2
    have hb1 := HS.2.2.2.2.1
    clear hkl hown HS
    by_cases hil : i < x.size
    · have hget : x.data.toList[i]? = some x[i] := by rw [List.getElem?_eq_getElem (by simpa using hil)]; rfl
      have b0 := H.out.2.2.1 i x[i] hget
      rw [Nat.zero_add] at b0
      obtain ⟨u1, u2, u3⟩ := u8_sub x[i] (HLET.out i hil)
      have hcell := (H.out.2.1).cell (x[i].toNat - 65)
      rw [HVS.out, List.getElem?_toArray, snd_arr R vs HVS.out x[i] (HLET.out i hil)] at hcell
      have htk : x.data.toList.take (i + 1) = x.data.toList.take i ++ [x[i]] := by rw [List.take_add_one, hget]; rfl
      have HTK := Lib.hid (keyR_snoc R (x.data.toList.take i) x[i])
      rw [← htk] at HTK
      have H6 := Lib.hid (show (keyR R (x.data.toList.take (i + 1))).length = 6 → keyR R x.data.toList = keyR R (x.data.toList.take (i + 1)) from fun h => by
        have h2 := keyR_stop R (x.data.toList.drop (i + 1)) _ h
        rwa [List.take_append_drop] at h2)
      have hbi : Bn < base := H.out.2.2.2.2.2.1
      clear hget htk
      rcases Nat.eq_zero_or_pos i with hz | hz
      · have hz' : ¬ (0 : Int) < (i : Int) := by omega
        have HNEW := Lib.hid (show keyR R (x.data.toList.take (i + 1)) = keyR R (x.data.toList.take i) ++ [sndR R x[i]] by rw [HTK.out, if_pos (by simp [hz])]; simp [hz, keyR])
        have HZ := Lib.hid hz
        clear hz HTK
        have CV := Lib.hid (fun (W : World) (gg cc : Nat) (h : W.ownsRow base 5 1 (.slice (some ⟨gg, 0, none⟩) (k + 1) cc) (k + 1) (bytesV (keyR R (x.data.toList.take i)) ++ [.int .u8 ((sndR R x[i]).toNat : Int)])) (h6 : k = 5) => show (convert 57 9 (.slice (some ⟨gg, 0, none⟩) (k + 1) cc)).run Try.prog W = .ok (.string ⟨(keyR R x.data.toList).toArray⟩) W from by
          have hl : (keyR R (x.data.toList.take (i + 1))).length = k + 1 := by rw [HNEW.out, List.length_append, ← HKL.out]; rfl
          rw [H6.out (by omega)]
          rw [← hl] at h ⊢
          refine conv_key (base := base) ?_
          rw [HNEW.out] at h ⊢
          simpa [bytesV] using h)
        by_cases hk5 : k = 5
        · go_wp2_with (first
            | (go_at_call 20; (with_reducible refine (CF.out x[i] _).mono ?_); rintro e w4 ⟨rfl, h4⟩; have HO4 := Lib.hid (row_below HO.out h4); have H4 := Lib.hid (H.out.below h4); have s4 := h4.size; have k9 := HCEL.out w4 HO4.out; clear h4)
            | (at_builtin; refine wpList_append_own _ rfl _ _ 57 rfl base 5 i0 (.int .u8 0) 1 1 Try.underlying57 hi hz0 hz1 hz2 rfl (by decide) _ _ _ rfl (HO.out.alloc _) ⟨wr.heap.size, 0, none⟩ 1 1 [.int .u8 ((sndR R x[i]).toNat : Int)] rfl rfl (cell_one_new _ _ _) (by simp [Value.oneCell']) (by unfold maxLen; omega) (by omega) (by simp; omega) ?_; intro v' w5 hown' hgrow _; obtain ⟨g5, c5, rfl⟩ := ownsRow_succ hown'; have hcv := CV.out w5 g5 c5 hown' hk5; rw [show k + 1 = 6 by omega] at hcv; have HO5 := Lib.hid hown'; have HG := Lib.hid hgrow; clear hown' hgrow))
          go_wp2_with fail
          go_ret2
          exact ⟨rfl, (H.out.2.2.2.1.alloc H.out.2.2.2.1.size _).grown HG.out (by have := H.out.2.2.2.2.2.2.1; simp; omega) (fun r e => by have := (HO.out.lt r e).1; have := H.out.2.2.2.2.2.2.1; omega)⟩
        · go_wp2_with (first
            | (go_at_call 20; (with_reducible refine (CF.out x[i] _).mono ?_); rintro e w4 ⟨rfl, h4⟩; have HO4 := Lib.hid (row_below HO.out h4); have H4 := Lib.hid (H.out.below h4); have s4 := h4.size; have k9 := HCEL.out w4 HO4.out; clear h4)
            | (at_builtin; refine wpList_append_own _ rfl _ _ 57 rfl base 5 i0 (.int .u8 0) 1 1 Try.underlying57 hi hz0 hz1 hz2 rfl (by decide) _ _ _ rfl (HO.out.alloc _) ⟨wr.heap.size, 0, none⟩ 1 1 [.int .u8 ((sndR R x[i]).toNat : Int)] rfl rfl (cell_one_new _ _ _) (by simp [Value.oneCell']) (by unfold maxLen; omega) (by omega) (by simp; omega) ?_; intro v' w5 hown' hgrow _; obtain ⟨g5, c5, rfl⟩ := ownsRow_succ hown'; have HO5 := Lib.hid hown'; have HG := Lib.hid hgrow; clear hown' hgrow))
          go_roundw
          case rel =>
            refine ⟨i + 1, k + 1, by omega, by go_num, by omega, by rw [HNEW.out, List.length_append, ← HKL.out]; rfl, ?_, ?_⟩
            · rw [HNEW.out]; simpa [bytesV] using HO5.out
            · exact (H.out.alloc _).row HG.out (fun r e => (HO.out.lt r e).1)
          case measure => simp [intOf]; omega
      · have hz' : (0 : Int) < (i : Int) := by omega
        have hne : x.data.toList.take i ≠ [] := by
          have e1 : (x.data.toList.take i).length = i := by
            rw [List.length_take, show x.data.toList.length = x.size by simp]; omega
          intro e
          rw [e] at e1
          simp at e1
          omega
        have hkne := keyR_pos R _ hne
        rw [if_neg hne] at HTK
        obtain ⟨q, hq⟩ : ∃ q, k = q + 1 := ⟨k - 1, by
          have := HKL.out
          have h2 := List.length_pos_iff.2 hkne
          omega⟩
        subst hq
        obtain ⟨z, hz9⟩ : ∃ z, (keyR R (x.data.toList.take i)).getLast? = some z := ⟨_, List.getLast?_eq_some_getLast hkne⟩
        obtain ⟨g8, c8, rfl⟩ := ownsRow_succ HO.out
        obtain ⟨kb0_0, kb0_1, kb0_2, kb0_3, kb0_4, kb0_5, kb0_6⟩ := H.out.1.c7
        have hz10 : (keyR R (x.data.toList.take i))[q]? = some z := by
          rw [List.getLast?_eq_getElem?, ← HKL.out] at hz9
          simpa using hz9
        have HCEL := Lib.hid (fun (W : World) (h : W.ownsRow base 5 1 (.slice (some ⟨g8, 0, none⟩) (q + 1) c8) (q + 1) (bytesV (keyR R (x.data.toList.take i)))) => show W.cell? ⟨g8, q, none⟩ = some (.int .u8 (z.toNat : Int)) from by
          rw [h.cellAt q (by omega), bytesV, List.getElem?_map, hz10]; rfl)
        have hq5 : q + 1 ≤ 5 := by omega
        unfold Nm.kst at HTK
        rw [if_neg (by rw [← HKL.out]; omega), hz9] at HTK
        clear hz hne hkne hz9 hz10
        cases hsf : inS R.soft x[i] with
        | true =>
          rw [if_pos (by simp [hsf])] at HTK
          go_wp2_with (go_at_call 20; (with_reducible refine (CF.out x[i] _).mono ?_); rintro e w4 ⟨rfl, h4⟩; have HO4 := Lib.hid (row_below HO.out h4); have H4 := Lib.hid (H.out.below h4); have s4 := h4.size; clear h4)
          go_roundw
          case rel => exact ⟨i + 1, q + 1, by omega, by go_num, by omega, by rw [HTK.out]; exact HKL.out, by rw [HTK.out]; exact HO4.out, H4.out⟩
          case measure => simp [intOf]; omega
        | false =>
          by_cases hsz : sndR R x[i] = z
          · rw [if_pos (by simp [hsz])] at HTK
            subst hsz
            go_wp2_with (go_at_call 20; (with_reducible refine (CF.out x[i] _).mono ?_); rintro e w4 ⟨rfl, h4⟩; have HO4 := Lib.hid (row_below HO.out h4); have H4 := Lib.hid (H.out.below h4); have s4 := h4.size; have k9 := HCEL.out w4 HO4.out; clear h4)
            go_roundw
            case rel => exact ⟨i + 1, q + 1, by omega, by go_num, by omega, by rw [HTK.out]; exact HKL.out, by rw [HTK.out]; exact HO4.out, H4.out⟩
            case measure => simp [intOf]; omega
          · rw [if_neg (by simp [hsf]; exact fun e => hsz e.symm)] at HTK
            have HNEW := HTK
            have hzn : ¬ ((sndR R x[i]).toNat = z.toNat) := fun e => hsz (UInt8.toNat_inj.1 e)
            have hzi : ¬ ((sndR R x[i]).toNat : Int) = (z.toNat : Int) := by omega
            clear HTK hsz
            have CV := Lib.hid (fun (W : World) (gg cc : Nat) (h : W.ownsRow base 5 1 (.slice (some ⟨gg, 0, none⟩) ((q + 1) + 1) cc) ((q + 1) + 1) (bytesV (keyR R (x.data.toList.take i)) ++ [.int .u8 ((sndR R x[i]).toNat : Int)])) (h6 : (q + 1) = 5) => show (convert 57 9 (.slice (some ⟨gg, 0, none⟩) ((q + 1) + 1) cc)).run Try.prog W = .ok (.string ⟨(keyR R x.data.toList).toArray⟩) W from by
              have hl : (keyR R (x.data.toList.take (i + 1))).length = (q + 1) + 1 := by rw [HNEW.out, List.length_append, ← HKL.out]; rfl
              rw [H6.out (by omega)]
              rw [← hl] at h ⊢
              refine conv_key (base := base) ?_
              rw [HNEW.out] at h ⊢
              simpa [bytesV] using h)
            by_cases hk5 : (q + 1) = 5
            · obtain rfl : q = 4 := by omega
              clear hk5
              go_wp2_with (first
                | (go_at_call 20; (with_reducible refine (CF.out x[i] _).mono ?_); rintro e w4 ⟨rfl, h4⟩; have HO4 := Lib.hid (row_below HO.out h4); have H4 := Lib.hid (H.out.below h4); have s4 := h4.size; have k9 := HCEL.out w4 HO4.out; clear h4)
                | (at_builtin; refine wpList_append_own _ rfl _ _ 57 rfl base 5 i0 (.int .u8 0) 1 1 Try.underlying57 hi hz0 hz1 hz2 rfl (by decide) _ _ _ rfl (HO4.out.alloc _) ⟨w4.heap.size, 0, none⟩ 1 1 [.int .u8 ((sndR R x[i]).toNat : Int)] rfl rfl (cell_one_new _ _ _) (by simp [Value.oneCell']) (by unfold maxLen; omega) (by omega) (by simp; omega) ?_; intro v' w5 hown' hgrow _; obtain ⟨g5, c5, rfl⟩ := ownsRow_succ hown'; have hcv : (convert 57 9 (.slice (some ⟨g5, 0, none⟩) 6 c5)).run Try.prog w5 = .ok (.string ⟨(keyR R x.data.toList).toArray⟩) w5 := CV.out w5 g5 c5 hown' (by trivial); have HO5 := Lib.hid hown'; have HG := Lib.hid hgrow; clear hown' hgrow))
              go_wp2_with fail
              go_ret2
              exact ⟨rfl, (H4.out.2.2.2.1.alloc H4.out.2.2.2.1.size _).grown HG.out (by have := H4.out.2.2.2.2.2.2.1; simp; omega) (fun r e => by have := (HO4.out.lt r e).1; have := H4.out.2.2.2.2.2.2.1; omega)⟩
            · go_wp2_with (first
                | (go_at_call 20; (with_reducible refine (CF.out x[i] _).mono ?_); rintro e w4 ⟨rfl, h4⟩; have HO4 := Lib.hid (row_below HO.out h4); have H4 := Lib.hid (H.out.below h4); have s4 := h4.size; have k9 := HCEL.out w4 HO4.out; clear h4)
                | (at_builtin; refine wpList_append_own _ rfl _ _ 57 rfl base 5 i0 (.int .u8 0) 1 1 Try.underlying57 hi hz0 hz1 hz2 rfl (by decide) _ _ _ rfl (HO4.out.alloc _) ⟨w4.heap.size, 0, none⟩ 1 1 [.int .u8 ((sndR R x[i]).toNat : Int)] rfl rfl (cell_one_new _ _ _) (by simp [Value.oneCell']) (by unfold maxLen; omega) (by omega) (by simp; omega) ?_; intro v' w5 hown' hgrow _; obtain ⟨g5, c5, rfl⟩ := ownsRow_succ hown'; have HO5 := Lib.hid hown'; have HG := Lib.hid hgrow; clear hown' hgrow))
              go_roundw
              case rel =>
                refine ⟨i + 1, (q + 1) + 1, by omega, by go_num, by omega, by rw [HNEW.out, List.length_append, ← HKL.out]; rfl, ?_, ?_⟩
                · rw [HNEW.out]; simpa [bytesV] using HO5.out
                · exact (H4.out.alloc _).row HG.out (fun r e => (HO4.out.lt r e).1)
              case measure => simp [intOf]; omega
    · obtain rfl : i = x.size := by omega
      rw [show x.data.toList.take x.size = x.data.toList from List.take_of_length_le (by simp)] at HKL HO
      have hne : x.data.toList ≠ [] := by
        intro e
        have e1 : x.data.toList.length = x.size := by simp
        rw [e] at e1
        simp at e1
        omega
      obtain ⟨q, hq⟩ : ∃ q, k = q + 1 := ⟨k - 1, by
        have := HKL.out
        have h2 := List.length_pos_iff.2 (keyR_pos R _ hne)
        omega⟩
      subst hq
      obtain ⟨g8, c8, rfl⟩ := ownsRow_succ HO.out
      have hcv : (convert 57 9 (.slice (some ⟨g8, 0, none⟩) (q + 1) c8)).run Try.prog wr = .ok (.string ⟨(keyR R x.data.toList).toArray⟩) wr := by
        have h := HO.out
        rw [HKL.out] at h ⊢
        exact conv_key h
      clear hne
      go_wp2_with fail
      go_ret2
      exact ⟨rfl, H.out.2.2.2.1⟩
set_option maxRecDepth 100000 in
set_option maxHeartbeats 400000 in
theorem Key_bad (a : Option Addr) (g o c n : Nat) (R : RB) (w : World) (hN : R.cls.length = n) (hk : SK w a g o R.cls) (hc : n ≤ c) (ht : Thn R) (x : ByteArray) (hx : x.size ≤ 1000) (v : Nat) (hv : chkN R [x] = v) (h0 : v ≠ 0) :
    Calls Try.prog 6 #[rulesV a n c R.soft R.al R.ot R.sk R.ss R.db, .string x] w fun e w' => e = .returned (.tuple #[.string ⟨#[]⟩, .int .i64 (v : Nat)]) ∧ Below w.heap.size w w' := by
  have CK := Lib.hid (fun W b (hW : Below w.heap.size w W) (hb : Blk W b #[.string x] 9) => check_any a g o c n R W hN (hk.below hW) hc ht (some ⟨b, 0, none⟩) b 0 1 1 [x] rfl (sk1 hb) (by omega) (fun s hs => by simp at hs; subst hs; exact hx))
  rw [hv] at CK
  have t0 : ((v : Int) == 0) = false := by simp; omega
  have t1 : ((v : Int) != 0) = true := by simp; omega
  clear hk ht hN hx hv h0
  have s0 := (KS.start w).new (rulesC a n c R.soft R.al R.ot R.sk R.ss R.db) 27
  obtain ⟨kb0_0, kb0_1, kb0_2, kb0_3, kb0_4, kb0_5, kb0_6⟩ := (s0.blkAt 0 rfl).c7
  have S0 := Lib.hid s0
  clear s0
  go_enter Try.func6, Try.ntmps6
  go_wp2_with fail
  refine (CK.out _ (w.heap.size + 1) ((S0.out.bel).alloc S0.out.size _) (two_new w _ _ _ _).2.1).mono ?_
  rintro e w1 ⟨rfl, h1⟩
  clear kb0_0 kb0_1 kb0_2 kb0_3 kb0_4 kb0_5 kb0_6
  have s1 := (S0.out.alloc (.cells #[.string x] 9)).below h1
  obtain ⟨kb0_0, kb0_1, kb0_2, kb0_3, kb0_4, kb0_5, kb0_6⟩ := (s1.blkAt 0 rfl).c7
  have S1 := Lib.hid s1
  clear h1 s1
  go_wp2_with fail
  go_ret2
  exact ⟨rfl, S1.out.bel⟩
/-- Key, whatever the rules and name -/
def keyV (R : RB) (x : ByteArray) : List UInt8 := if chkN R [x] = 0 then keyR R x.data.toList else []
theorem Key_any (a : Option Addr) (g o c n : Nat) (R : RB) (w : World) (hN : R.cls.length = n) (hk : SK w a g o R.cls) (hc : n ≤ c) (ht : Thn R) (x : ByteArray) (hx : x.size ≤ 1000) : Calls Try.prog 6 #[rulesV a n c R.soft R.al R.ot R.sk R.ss R.db, .string x] w fun e w' => e = .returned (.tuple #[.string ⟨(keyV R x).toArray⟩, .int .i64 (chkN R [x] : Nat)]) ∧ Below w.heap.size w w' := by
  unfold keyV
  by_cases h : chkN R [x] = 0
  · rw [if_pos h, h]; exact Key_good a g o c n R w hN hk hc ht x hx h
  · rw [if_neg h]; exact Key_bad a g o c n R w hN hk hc ht x hx _ rfl h
end Go.Proofs.Ytkdflgaahhnigaa

namespace Go.Proofs.Ytkdflgaahhnigaa
open Go.RowKit Go.Shelf

theorem tInfo3 : (Try.prog.info? 3).map (fun i => (i.zero, i.size, i.bytes)) = some (some (.int .i64 0), 1, 8) := by kernel_rfl
theorem KS1_row {w W W' : World} {rc : Array Value} {t : TypeId} {row : Option Nat} (h : KS w [(w.heap.size, rc, t)] W) (hg : W.grownBy W' row) (hr : ∀ r, row = some r → w.heap.size < r) : KS w [(w.heap.size, rc, t)] W' :=
  ⟨by intro x hx; simp at hx; subst hx; exact (h.blkAt 0 rfl).kept hg (fun e => by have := hr _ e.symm; omega), h.2.grown hg h.2.size (fun r e => by have := hr r e; omega)⟩
def natsV (l : List Nat) : List Value := l.map fun (k : Nat) => .int .i64 (k : Int)
/-- the costs of a name and each of a list -/
def costsL (R : RB) (x : ByteArray) (ys : List ByteArray) : List Nat := ys.map fun y => cR R x y 0 0
/-- a list of valid names -/
def NmsOk (ys : List ByteArray) : Prop := ∀ y, y ∈ ys → y.size ≤ 12 ∧ spB y = true
set_option maxRecDepth 100000 in
set_option maxHeartbeats 2000000 in
theorem costs_any (a : Option Addr) (g o c n : Nat) (R : RB) (w : World) (hN : R.cls.length = n) (hk : SK w a g o R.cls) (hc : n ≤ c) (ht : Thn R) (an : Option Addr) (gn on cn m : Nat) (ys : List ByteArray) (hM : ys.length = m) (hkn : SK w an gn on ys) (hcm : m ≤ cn) (hm : m ≤ 1000) (hall : NmsOk ys) (hg : Good R) (x : ByteArray) (hx2 : x.size ≤ 12) (hx : spB x = true) : Calls Try.prog 29 #[rulesV a n c R.soft R.al R.ot R.sk R.ss R.db, .slice an m cn, .string x] w fun e w' => ∃ v, e = .returned v ∧ w'.ownsRow (w.heap.size + 1) 3 1 v m (natsV (costsL R x ys)) ∧ Below w.heap.size w w' := by
  have CD := Lib.hid (fun y W (hW : Below w.heap.size w W) => duel_ok a g o c n R W hN (hk.below hW) hc ht hg x y)
  have CC := Lib.hid (fun (y : ByteArray) (d mb : Nat) (W : World) (hy : y.size ≤ 12 ∧ spB y = true) (hmm : Memo W mb (cR R x y)) (hd : DuelR W d a n c R x y mb) => cost_ok hg hx hx2 hy.2 hy.1 d 0 0 a n c mb (Nat.zero_le _) (Nat.zero_le _) W hmm hd)
  have HLE := Lib.hid (fun (y : ByteArray) (hy : y.size ≤ 12) => cR_le hg hx2 hy 0 0)
  obtain ⟨i0, hi, hz0, hz1, hz2⟩ := info_parts tInfo3
  have HALL := Lib.hid hall
  have HK := Lib.hid hkn
  have HM := Lib.hid hM
  clear hk ht hN hg hall hkn hM
  have s0 := (KS.start w).new (rulesC a n c R.soft R.al R.ot R.sk R.ss R.db) 27
  have S0 := Lib.hid s0
  clear s0
  go_enter Try.func29, Try.ntmps29
  go_wp2_with fail
  go_loopw [11, 6] (fun y v wr => ∃ i : Nat, i ≤ m ∧ y = .int .i64 (i : Int) ∧ wr.ownsRow (w.heap.size + 1) 3 1 v i (natsV (costsL R x (ys.take i))) ∧ KS w [(w.heap.size, rulesC a n c R.soft R.al R.ot R.sk R.ss R.db, 27)] wr) (fun y _ _ => m - (intOf y).toNat)
  case atStart => exact ⟨0, Nat.zero_le _, rfl, World.ownsRow_nil _ _ _ _, S0.out⟩
  case round =>
    clear S0
    obtain ⟨i, hi', rfl, hown, HS⟩ := hrel
    have HO := Lib.hid hown
    have S := Lib.hid HS
    have hsz := HS.lt 0 rfl
    obtain ⟨kb0_0, kb0_1, kb0_2, kb0_3, kb0_4, kb0_5, kb0_6⟩ := (HS.blkAt 0 rfl).c7
    clear hown HS
    by_cases hil : i < m
    · obtain ⟨y, hy⟩ : ∃ y, ys[i]? = some y := ⟨ys[i]'(by rw [HM.out]; exact hil), by simp⟩
      have hne : ys ≠ [] := by rintro e; rw [e] at hy; simp at hy
      have e1 := HK.out.1 hne
      subst e1
      have k0 := (HK.out.below S.out.bel).2.1 i y hy
      have HY := Lib.hid (HALL.out y (List.mem_of_getElem? hy))
      have hle := HLE.out y HY.out.1
      have HTK := Lib.hid (show natsV (costsL R x (ys.take (i + 1))) = natsV (costsL R x (ys.take i)) ++ [.int .i64 (cR R x y 0 0 : Nat)] by
        rw [List.take_add_one, hy]; simp [natsV, costsL])
      generalize hcv : cR R x y 0 0 = cv at *
      have HCV := Lib.hid hcv
      clear hy hne hcv
      go_wp2_with (first
        | (go_at_call 17; (with_reducible refine (CD.out y _ S.out.bel).mono ?_); rintro e w1 ⟨d, mb, rfl, hd, hmm, h1, h2, h3⟩; have S1 := Lib.hid (S.out.below h3); have HO1 := Lib.hid (row_below HO.out h3); have HD := Lib.hid hd; have HMM := Lib.hid hmm; clear hd hmm h3)
        | (go_at_call 18; (refine (CC.out y d mb _ HY.out HMM.out HD.out).mono ?_); rintro e w2 ⟨rfl, hm3, hg3⟩; rw [HCV.out]; have HO2 := Lib.hid (HO1.out.kept hg3 (.inr (fun e => by have h := HO.out.lt _ e; omega))); have S2 := Lib.hid (KS1_row S1.out hg3 (fun r e => by cases e; omega)); have s2 := S2.out.lt 0 rfl; clear hm3 hg3)
        | (at_builtin; refine wpList_append_own _ rfl _ _ 39 rfl (w.heap.size + 1) 3 i0 (.int .i64 0) 1 8 Try.underlying39 hi hz0 hz1 hz2 rfl (by decide) _ _ _ rfl (HO2.out.alloc _) ⟨w2.heap.size, 0, none⟩ 1 1 [.int .i64 (cv : Int)] rfl rfl (cell_one_new _ _ _) (by simp [Value.oneCell']) (by unfold maxLen; omega) (by omega) (by simp; omega) ?_; intro v' w5 hown' hgrow _; have HO5 := Lib.hid hown'; have HG := Lib.hid hgrow; clear hown' hgrow))
      go_roundw
      case rel =>
        refine ⟨i + 1, by omega, by go_num, ?_, KS1_row (S2.out.alloc _) HG.out (fun r e => (HO2.out.lt r e).1)⟩
        rw [HTK.out]; exact HO5.out
      case measure => simp [intOf]; omega
    · obtain rfl : i = m := by omega
      rw [List.take_of_length_le (by rw [HM.out]; exact Nat.le_refl _)] at HO
      go_wp2_with fail
      go_ret
      exact ⟨_, rfl, HO.out, S.out.bel⟩
end Go.Proofs.Ytkdflgaahhnigaa

namespace Go.Proofs.Ytkdflgaahhnigaa
open Go.RowKit Go.Shelf

def natsOwn (W : World) (B : Nat) (u : Value) (r : List Nat) : Prop := W.ownsRow B 3 1 u r.length (natsV r)
def RowsAt (W : World) (B : Nat) (v : Value) (vs : List Value) (tab : List (List Nat)) : Prop :=
  ∀ (i : Nat) (r : List Nat), tab[i]? = some r → ∃ u : Value, vs[i]? = some u ∧ natsOwn W B u r ∧ (∀ j : Nat, v.ownBlock = some j → u.ownBlock ≠ some j)
def TabK (W : World) (B : Nat) (v : Value) (tab : List (List Nat)) : Prop :=
  ∃ vs : List Value, W.ownsRow B 39 1 v tab.length vs ∧ RowsAt W B v vs tab
theorem TabK.below {W W' : World} {B : Nat} {v : Value} {tab : List (List Nat)} (h : TabK W B v tab) (hb : Below W.heap.size W W') : TabK W' B v tab := by
  obtain ⟨vs, h1, h2⟩ := h
  refine ⟨vs, row_below h1 hb, fun i r e => ?_⟩
  obtain ⟨u, k1, k2, k3⟩ := h2 i r e
  exact ⟨u, k1, row_below k2 hb, k3⟩
theorem tab_snoc {W W' : World} {B : Nat} {v v' u : Value} {vs : List Value} {tab : List (List Nat)} {r : List Nat} (h1 : W.ownsRow B 39 1 v tab.length vs) (h2 : RowsAt W B v vs tab) (hu : natsOwn W B u r) (hun : ∀ j, v.ownBlock = some j → u.ownBlock ≠ some j)
    (hown : W'.ownsRow B 39 1 v' (tab.length + 1) (vs ++ [u])) (hg : W.grownBy W' v.ownBlock) (hat : v'.ownBlock = v.ownBlock ∨ v'.ownBlock = some W.heap.size) : TabK W' B v' (tab ++ [r]) := by
  have hkeep : ∀ u r, natsOwn W B u r → (∀ j, v.ownBlock = some j → u.ownBlock ≠ some j) → natsOwn W' B u r ∧ (∀ j, v'.ownBlock = some j → u.ownBlock ≠ some j) := by
    intro u r hu hn
    refine ⟨hu.kept hg ?_, fun j e h => ?_⟩
    · cases hb : u.ownBlock with
      | none => exact .inl rfl
      | some k => exact .inr (fun e => hn k e.symm hb)
    · rcases hat with e2 | e2
      · exact hn j (e2 ▸ e) h
      · rw [e2] at e
        cases e
        have := (hu.lt _ h).2
        omega
  have hl : vs.length = tab.length := by simpa using h1.1
  refine ⟨vs ++ [u], by simpa using hown, fun i r' e => ?_⟩
  rw [List.getElem?_append] at e
  split at e
  · obtain ⟨u', k1, k2, k3⟩ := h2 i r' e
    obtain ⟨q1, q2⟩ := hkeep u' r' k2 k3
    exact ⟨u', by rw [List.getElem?_append_left (by omega)]; exact k1, q1, q2⟩
  · have hi : i = tab.length := by
      have := (List.getElem?_eq_some_iff.1 e).1
      simp at this
      omega
    subst hi
    simp at e
    subst e
    obtain ⟨q1, q2⟩ := hkeep u r hu hun
    exact ⟨u, by rw [← hl]; simp, q1, q2⟩
theorem tInfo41 : (Try.prog.info? 39).map (fun i => (i.zero, i.size, i.bytes)) = some (some (.slice none 0 0), 1, 24) := by kernel_rfl
/-- the costs of all pairs -/
def tabL (R : RB) (xs ys : List ByteArray) : List (List Nat) := xs.map fun x => costsL R x ys
set_option maxRecDepth 100000 in
set_option maxHeartbeats 2000000 in
theorem table_any (a : Option Addr) (g o c n : Nat) (R : RB) (w : World) (hN : R.cls.length = n) (hk : SK w a g o R.cls) (hc : n ≤ c) (ht : Thn R) (an : Option Addr) (gn on cn m : Nat) (ys : List ByteArray) (hM : ys.length = m) (hkn : SK w an gn on ys) (hcm : m ≤ cn) (hm : m ≤ 1000) (hall : NmsOk ys) (hg : Good R) : Calls Try.prog 24 #[rulesV a n c R.soft R.al R.ot R.sk R.ss R.db, .slice an m cn] w fun e w' => ∃ v, e = .returned v ∧ TabK w' (w.heap.size + 1) v (tabL R ys ys) ∧ Below w.heap.size w w' := by
  have CC := Lib.hid (fun x W (hx : x.size ≤ 12 ∧ spB x = true) (hW : Below w.heap.size w W) => costs_any a g o c n R W hN (hk.below hW) hc ht an gn on cn m ys hM (hkn.below hW) hcm hm hall hg x hx.1 hx.2)
  obtain ⟨i0, hi, hz0, hz1, hz2⟩ := info_parts tInfo41
  have HALL := Lib.hid hall
  have HK := Lib.hid hkn
  have HM := Lib.hid hM
  clear hk ht hN hg hall hkn hM
  have s0 := (KS.start w).new (rulesC a n c R.soft R.al R.ot R.sk R.ss R.db) 27
  have S0 := Lib.hid s0
  clear s0
  go_enter Try.func24, Try.ntmps24
  go_wp2_with fail
  go_loopw [9, 4] (fun y v wr => ∃ i : Nat, i ≤ m ∧ y = .int .i64 (i : Int) ∧ TabK wr (w.heap.size + 1) v (tabL R (ys.take i) ys) ∧ KS w [(w.heap.size, rulesC a n c R.soft R.al R.ot R.sk R.ss R.db, 27)] wr) (fun y _ _ => m - (intOf y).toNat)
  case atStart => exact ⟨0, Nat.zero_le _, rfl, ⟨[], World.ownsRow_nil _ _ _ _, fun i r e => by simp [tabL] at e⟩, S0.out⟩
  case round =>
    clear S0
    obtain ⟨i, hi', rfl, ⟨vs, hown, hrows⟩, HS⟩ := hrel
    have HO := Lib.hid hown
    have HR := Lib.hid hrows
    have S := Lib.hid HS
    have hsz := HS.lt 0 rfl
    obtain ⟨kb0_0, kb0_1, kb0_2, kb0_3, kb0_4, kb0_5, kb0_6⟩ := (HS.blkAt 0 rfl).c7
    clear hown hrows HS
    by_cases hil : i < m
    · obtain ⟨y, hy⟩ : ∃ y, ys[i]? = some y := ⟨ys[i]'(by rw [HM.out]; exact hil), by simp⟩
      have hne : ys ≠ [] := by rintro e; rw [e] at hy; simp at hy
      have e1 := HK.out.1 hne
      subst e1
      have k0 := (HK.out.below S.out.bel).2.1 i y hy
      have HY := Lib.hid (HALL.out y (List.mem_of_getElem? hy))
      have HTK := Lib.hid (show tabL R (ys.take (i + 1)) ys = tabL R (ys.take i) ys ++ [costsL R y ys] by
        rw [List.take_add_one, hy]; simp [tabL])
      have hlt : (tabL R (ys.take i) ys).length = i := by
        unfold tabL; rw [List.length_map, List.length_take, HM.out]; omega
      have HLT := Lib.hid hlt
      have HLC := Lib.hid (show (costsL R y ys).length = m by unfold costsL; rw [List.length_map, HM.out])
      rw [hlt] at HO
      clear hy hne hlt
      go_wp2_with (first
        | (go_at_call 29; ((with_reducible refine (CC.out y _ HY.out S.out.bel).mono ?_); rintro e w1 ⟨u, rfl, hu, h3⟩; obtain ⟨gu, cu, rfl⟩ := Joins.ownsRow_form hu (by omega); have S1 := Lib.hid (S.out.below h3); have HO1 := Lib.hid (row_below HO.out h3); have HR1 := Lib.hid (show RowsAt w1 (w.heap.size + 1) u4 vs (tabL R (ys.take i) ys) from fun j r e => by obtain ⟨u', q1, q2, q3⟩ := HR.out j r e; exact ⟨u', q1, row_below q2 h3, q3⟩); have HU := Lib.hid (World.ownsRow.mono hu (Nat.succ_le_succ (Nat.le_of_lt hsz))); have HUB := Lib.hid (fun j e e2 => by have q1 := (HO.out.lt j e).2; have q2 := (hu.lt j e2).1; omega : ∀ j : Nat, u4.ownBlock = some j → (Value.slice (some ⟨gu, 0, none⟩) m cu).ownBlock ≠ some j); have s1 := S1.out.lt 0 rfl; clear hu h3))
        | (at_builtin; go_loud (refine wpList_append_own_at _ rfl _ _ 31 rfl (w.heap.size + 1) 39 i0 (.slice none 0 0) 1 24 Try.underlying31 hi hz0 hz1 hz2 rfl (by decide) _ _ _ rfl (HO1.out.alloc _) ⟨w1.heap.size, 0, none⟩ 1 1 [.slice (some ⟨gu, 0, none⟩) m cu] rfl rfl (cell_one_new _ _ _) (by simp [Value.oneCell']) (by unfold maxLen; omega) (by omega) (by simp; omega) ?_; intro v' w5 hown' hgrow _ hat; have HO5 := Lib.hid hown'; have HG := Lib.hid hgrow; have HAT := Lib.hid hat; clear hown' hgrow hat)))
      go_roundw
      case rel =>
        refine ⟨i + 1, by omega, by go_num, ?_, KS1_row (S1.out.alloc _) HG.out (fun r e => (HO1.out.lt r e).1)⟩
        rw [HTK.out]
        have hu : natsOwn w1 (w.heap.size + 1) (.slice (some ⟨gu, 0, none⟩) m cu) (costsL R y ys) := by unfold natsOwn; rw [HLC.out]; exact HU.out
        refine tab_snoc (W := w1.alloc _) (by rw [HLT.out]; exact HO1.out.alloc _) (fun j r e => by obtain ⟨u', q1, q2, q3⟩ := HR1.out j r e; exact ⟨u', q1, q2.alloc _, q3⟩) (hu.alloc _) HUB.out (by rw [HLT.out]; exact HO5.out) HG.out HAT.out
      case measure => simp [intOf]; omega
    · obtain rfl : i = m := by omega
      have ht : ys.take i = ys := List.take_of_length_le (by rw [HM.out]; exact Nat.le_refl _)
      rw [ht] at HO HR
      go_wp2_with fail
      go_ret
      exact ⟨_, rfl, ⟨vs, HO.out, HR.out⟩, S.out.bel⟩
end Go.Proofs.Ytkdflgaahhnigaa

namespace Go.Proofs.Ytkdflgaahhnigaa
open Go.RowKit Go.Shelf

theorem tInfo9 : (Try.prog.info? 9).map (fun i => (i.zero, i.size, i.bytes)) = some (some (.string ⟨#[]⟩), 1, 16) := by kernel_rfl
def strsV (l : List ByteArray) : List Value := l.map Value.string
theorem size_zeroC (z : Array Value) (n : Nat) : (Builtin.zeroCells z n).size = n * z.size := by simp [Builtin.zeroCells]
set_option maxRecDepth 100000 in
set_option maxHeartbeats 2000000 in
theorem grow_nil (n : Nat) (hn : n ≤ 1000) (w : World) : Calls Try.prog 66 #[.slice none 0 0, .int .i64 n] w fun e w' => ∃ v, e = .returned v ∧ w'.ownsRow w.heap.size 9 1 v 0 [] ∧ Below w.heap.size w w' := by
  rcases Nat.eq_zero_or_pos n with h0 | h0
  · subst h0
    go_enter Try.func66, Try.ntmps66
    go_wp2_with fail
    go_ret
    exact ⟨_, rfl, World.ownsRow_nil _ _ _ _, Below.refl _ _⟩
  · obtain ⟨i0, hi, hz0, hz1, hz2⟩ := info_parts tInfo9
    have hrz : ∀ ty, (Builtin.append_ #[25, 3] ty #[.slice none 0 0, .int .i64 (n : Int)]).run Try.prog w =
      .ok (.slice (some ⟨w.heap.size, 0, none⟩) n (grownCap w n 0 9)) (w.drew.alloc (.cells (#[] ++ Builtin.zeroCells #[.string ⟨#[]⟩] n ++ Builtin.zeroCells #[.string ⟨#[]⟩] (grownCap w n 0 9 - n)) 9)) := fun ty => by
      have h := Lib.run_append_grow_zeros (P := Try.prog) w 25 3 ty 9 i0 _ .i64 .i64 Try.underlying25 Try.underlying3 hi hz0 none 0 0 [] (run_firstCells_none w.drew i0.size 0 0 0) n h0 (by omega) (by omega) (by omega) (by rw [hz2]; omega)
        (by rw [Nat.zero_add]; exact growslice_fits (by omega) (by rw [hz2]; omega))
      rw [Nat.zero_add] at h
      exact h
    have hG : n ≤ grownCap w n 0 9 := grownCap_ge w _ _ _
    have hG2 : grownCap w n 0 9 ≤ maxLen := grownCap_le_maxLen w _ _ _ (by unfold maxLen; omega)
    have hp : (0 : Int) < (n : Int) := by omega
    generalize grownCap w n 0 9 = G at *
    go_enter Try.func66, Try.ntmps66
    go_wp2_with (at_builtin; refine Lib.wpList_append_run _ rfl _ _ _ _ rfl _ _ rfl rfl _ _ (hrz _) ?_)
    go_ret
    refine ⟨_, rfl, World.ownsRow_made w.drew _ G (Nat.le_refl _) hG2 ?_, (Below.refl _ w).drew.alloc (Nat.le_refl _) _⟩
    simp [size_zeroC]; omega
def SKn (W : World) (a : Option Addr) (g o c n : Nat) (l : List ByteArray) : Prop := l.length = n ∧ SK W a g o l ∧ (a = none → c = 0)
theorem SKn.below {W W' : World} {a : Option Addr} {g o c n : Nat} {l : List ByteArray} (h : SKn W a g o c n l) (hb : Below W.heap.size W W') : SKn W' a g o c n l := ⟨h.1, h.2.1.below hb, h.2.2⟩
theorem SKn.reads {W : World} {ad : Addr} {g o c n : Nat} {l : List ByteArray} (h : SKn W (some ad) g o c n l) : ∀ (j : Nat) (u : Value), (strsV l)[j]? = some u → W.cell? (ad.add j) = some u := by
  intro j u e
  unfold strsV at e
  rw [List.getElem?_map] at e
  cases hj : l[j]? with
  | none => rw [hj] at e; simp at e
  | some x =>
    rw [hj] at e
    simp at e
    subst e
    have hne : l ≠ [] := by rintro rfl; simp at hj
    have ha := h.2.1.1 hne
    injection ha with ha
    subst ha
    rw [Addr.add_lit]; exact h.2.1.2.1 j x hj
theorem SKn.none_nil {W : World} {g o c n : Nat} {l : List ByteArray} (h : SKn W none g o c n l) : l = [] ∧ n = 0 ∧ c = 0 := by
  have hl : l = [] := by
    rcases Classical.em (l = []) with e | e
    · exact e
    · exact absurd (h.2.1.1 e) (by simp)
  refine ⟨hl, ?_, h.2.2 rfl⟩
  have := h.1
  rw [hl] at this
  simpa using this.symm
set_option maxRecDepth 100000 in
set_option maxHeartbeats 2000000 in
theorem concat_two (a1 : Option Addr) (g1 o1 c1 n1 : Nat) (l1 : List ByteArray) (a2 : Option Addr) (g2 o2 c2 n2 : Nat) (l2 : List ByteArray) (b : Nat) (w : World) (h1 : SKn w a1 g1 o1 c1 n1 l1) (h2 : SKn w a2 g2 o2 c2 n2 l2) (hb : Blk w b #[.slice a1 n1 c1, .slice a2 n2 c2] 25) (hn : n1 + n2 ≤ 1000) :
    Calls Try.prog 46 #[.slice (some ⟨b, 0, none⟩) 2 2] w fun e w' => ∃ v, e = .returned v ∧ w'.ownsRow w.heap.size 9 1 v (n1 + n2) (strsV (l1 ++ l2)) ∧ Below w.heap.size w w' := by
  obtain ⟨i0, hi, hz0, hz1, hz2⟩ := info_parts tInfo9
  have H1 := Lib.hid h1
  have H2 := Lib.hid h2
  have HB := Lib.hid hb
  have hlt := hb.lt
  obtain ⟨k0, k1⟩ := hb.c2
  have CG := Lib.hid (fun W => grow_nil (n1 + n2) hn W)
  rw [Int.natCast_add] at CG
  have p1 : ¬ (n1 : Int) < 0 := by omega
  have p2 : ¬ (n1 : Int) + (n2 : Int) < 0 := by omega
  clear h1 h2 hb
  go_enter Try.func46, Try.ntmps46
  go_wp2_with fail
  go_loopw [11, 3] (fun y s wr => wr = w ∧ ((y = .int .i64 0 ∧ s = .int .i64 0) ∨ (y = .int .i64 1 ∧ s = .int .i64 (n1 : Int)) ∨ (y = .int .i64 2 ∧ s = .int .i64 ((n1 : Int) + (n2 : Int))))) (fun y _ _ => 2 - (intOf y).toNat)
  case atStart => exact ⟨rfl, .inl ⟨rfl, rfl⟩⟩
  case round =>
    obtain ⟨hw, hr⟩ := hrel
    replace hw := hw.symm
    subst hw
    rcases hr with ⟨rfl, rfl⟩ | ⟨rfl, rfl⟩ | ⟨rfl, rfl⟩
    · go_wp2_with fail
      go_roundw
      case rel => simp
      case measure => simp [intOf]
    · go_wp2_with fail
      go_roundw
      case rel => simp
      case measure => simp [intOf]
    · go_wp2_with fail
      refine (CG.out _).mono ?_
      rintro e w1 ⟨v, rfl, hv, hbl⟩
      have HV := Lib.hid hv
      have HBL := Lib.hid hbl
      clear hv hbl k0 k1
      go_wp2_with fail
      go_loopw [27, 6] (fun y s w2 => Below w.heap.size w w2 ∧ ((y = .int .i64 0 ∧ w2.ownsRow w.heap.size 9 1 s 0 []) ∨ (y = .int .i64 1 ∧ w2.ownsRow w.heap.size 9 1 s n1 (strsV l1)) ∨ (y = .int .i64 2 ∧ w2.ownsRow w.heap.size 9 1 s (n1 + n2) (strsV l1 ++ strsV l2)))) (fun y _ _ => 2 - (intOf y).toNat)
      case atStart => exact ⟨HBL.out, .inl ⟨rfl, HV.out⟩⟩
      case round =>
        clear HV HBL
        obtain ⟨hbel, hr⟩ := hrel
        have HBel := Lib.hid hbel
        have hsz := hbel.size
        obtain ⟨k0', k1'⟩ := (HB.out.b hbel).c2
        clear hbel
        rcases hr with ⟨rfl, ho⟩ | ⟨rfl, ho⟩ | ⟨rfl, ho⟩
        · have HO := Lib.hid ho
          clear ho k1'
          cases ha : a1 with
          | none =>
            subst ha
            obtain ⟨e1, e2, e3⟩ := (H1.out).none_nil
            have E1 := Lib.hid e1
            have E2 := Lib.hid e2
            rw [e2, e3] at k0'
            clear e1 e2 e3
            go_wp2_with (at_builtin; refine wpList_append_own_none rfl _ _ 25 rfl w.heap.size 9 i0 1 Try.underlying25 hi _ _ _ rfl HO.out rfl ?_)
            go_roundw
            case rel =>
              refine ⟨HBel.out, .inr (.inl ⟨by rfl, ?_⟩)⟩
              have h := HO.out
              rw [E1.out, E2.out]; simpa [strsV] using h
            case measure => simp [intOf]
          | some ad =>
            subst ha
            have HRD := Lib.hid (((H1.out).below HBel.out).reads)
            have hl := (H1.out).1
            go_wp2_with (at_builtin; refine wpList_append_own _ rfl _ _ 25 rfl w.heap.size 9 i0 _ 1 16 Try.underlying25 hi hz0 hz1 hz2 rfl (by decide) _ _ _ rfl HO.out ad n1 _ (strsV l1) rfl (by simp [strsV, hl]) HRD.out (by intro u hu; simp [strsV] at hu; obtain ⟨y, _, rfl⟩ := hu; rfl) (by unfold maxLen; omega) (by omega) (by omega) ?_; intro v' w5 hown' hgrow _; have HO5 := Lib.hid hown'; have HG := Lib.hid hgrow; clear hown' hgrow)
            go_roundw
            case rel =>
              refine ⟨HBel.out.grown HG.out HBel.out.size (fun j e => (HO.out.lt j e).1), .inr (.inl ⟨by rfl, ?_⟩)⟩
              simpa using HO5.out
            case measure => simp [intOf]
        · have HO := Lib.hid ho
          clear ho k0'
          cases ha : a2 with
          | none =>
            subst ha
            obtain ⟨e1, e2, e3⟩ := (H2.out).none_nil
            have E1 := Lib.hid e1
            have E2 := Lib.hid e2
            rw [e2, e3] at k1'
            clear e1 e2 e3
            go_wp2_with (at_builtin; refine wpList_append_own_none rfl _ _ 25 rfl w.heap.size 9 i0 1 Try.underlying25 hi _ _ _ rfl HO.out rfl ?_)
            go_roundw
            case rel =>
              refine ⟨HBel.out, .inr (.inr ⟨by rfl, ?_⟩)⟩
              have h := HO.out
              rw [E1.out, E2.out]; simpa [strsV] using h
            case measure => simp [intOf]
          | some ad =>
            subst ha
            have HRD := Lib.hid (((H2.out).below HBel.out).reads)
            have hl := (H2.out).1
            go_wp2_with (at_builtin; refine wpList_append_own _ rfl _ _ 25 rfl w.heap.size 9 i0 _ 1 16 Try.underlying25 hi hz0 hz1 hz2 rfl (by decide) _ _ _ rfl HO.out ad n2 _ (strsV l2) rfl (by simp [strsV, hl]) HRD.out (by intro u hu; simp [strsV] at hu; obtain ⟨y, _, rfl⟩ := hu; rfl) (by unfold maxLen; omega) (by omega) (by omega) ?_; intro v' w5 hown' hgrow _; have HO5 := Lib.hid hown'; have HG := Lib.hid hgrow; clear hown' hgrow)
            go_roundw
            case rel =>
              refine ⟨HBel.out.grown HG.out HBel.out.size (fun j e => (HO.out.lt j e).1), .inr (.inr ⟨by rfl, ?_⟩)⟩
              simpa using HO5.out
            case measure => simp [intOf]
        · have HO := Lib.hid ho
          clear ho
          go_wp2_with fail
          go_ret
          exact ⟨_, rfl, by rw [strsV, List.map_append]; exact HO.out, HBel.out⟩
end Go.Proofs.Ytkdflgaahhnigaa

namespace Go.Proofs.Ytkdflgaahhnigaa
open Go.RowKit Go.Shelf

theorem sk_of_row {W : World} {B n : Nat} {v : Value} {l : List ByteArray} (h : W.ownsRow B 9 1 v n (strsV l)) : ∃ a g c, v = .slice a n c ∧ SK W a g 0 l ∧ l.length = n := by
  have hl : l.length = n := by have := h.1; simpa [strsV] using this
  rcases Joins.ownsRow_forms h with ⟨rfl, rfl⟩ | ⟨g, c, rfl⟩
  · have : l = [] := List.eq_nil_of_length_eq_zero hl
    subst this
    exact ⟨none, 0, 0, rfl, ⟨fun h => absurd rfl h, fun i a e => by simp at e, fun h => absurd rfl h⟩, hl⟩
  · refine ⟨some ⟨g, 0, none⟩, g, c, rfl, ⟨fun _ => rfl, fun i a e => ?_, fun _ => (h.lt g rfl).2⟩, hl⟩
    have hi := (List.getElem?_eq_some_iff.1 e).1
    rw [Nat.zero_add, h.cellAt i (by omega), strsV, List.getElem?_map, e]; rfl
def lstN (R : RB) (ys mo : List ByteArray) : Nat := if 12 < ys.length then 3 else chkN R (ys ++ mo)
set_option maxRecDepth 100000 in
set_option maxHeartbeats 2000000 in
theorem listed_any (a : Option Addr) (g o c n : Nat) (R : RB) (w : World) (hN : R.cls.length = n) (hk : SK w a g o R.cls) (hc : n ≤ c) (ht : Thn R) (an : Option Addr) (gn on cn m : Nat) (ys : List ByteArray) (hkn : SKn w an gn on cn m ys) (hm : m ≤ 900) (am : Option Addr) (gm om cm k : Nat) (mo : List ByteArray) (hkm : SKn w am gm om cm k mo) (hm1 : k ≤ 1) (hl : ∀ x, x ∈ ys ++ mo → x.size ≤ 1000) : Calls Try.prog 21 #[rulesV a n c R.soft R.al R.ot R.sk R.ss R.db, .slice an m cn, .slice am k cm] w fun e w' => e = .returned (.int .i64 (lstN R ys mo : Nat)) ∧ Below w.heap.size w w' := by
  unfold lstN
  have hml := hkn.1
  by_cases h12 : 12 < ys.length
  · rw [if_pos h12]
    have p1 : (12 : Int) < (m : Int) := by omega
    clear hk hkn hkm ht hN hl hml h12
    go_enter Try.func21, Try.ntmps21
    go_wp2_with fail
    go_ret
    exact ⟨rfl, (Below.refl _ _).alloc (Nat.le_refl _) _⟩
  · rw [if_neg h12]
    have p1 : ¬ (12 : Int) < (m : Int) := by omega
    have hk1 := hkm.1
    have CC := Lib.hid (fun b W (hW : Below w.heap.size w W) (hb : Blk W b #[.slice an m cn, .slice am k cm] 25) => concat_two an gn on cn m ys am gm om cm k mo b W (hkn.below hW) (hkm.below hW) hb (by omega))
    have CK := Lib.hid (fun W a2 g2 c2 (hW : Below w.heap.size w W) (h2 : SK W a2 g2 0 (ys ++ mo)) => check_any a g o c n R W hN (hk.below hW) hc ht a2 g2 0 c2 (m + k) (ys ++ mo) (by rw [List.length_append]; omega) h2 (by omega) hl)
    have s0 := (KS.start w).new (rulesC a n c R.soft R.al R.ot R.sk R.ss R.db) 27
    have S0 := Lib.hid s0
    clear s0 hk hkn hkm ht hN hl hml h12 hk1
    go_enter Try.func21, Try.ntmps21
    go_wp2_with fail
    obtain ⟨BS, hBS⟩ : ∃ BS : List (Nat × Array Value × TypeId), BS = [(w.heap.size, rulesC a n c R.soft R.al R.ot R.sk R.ss R.db, 27)] := ⟨_, rfl⟩
    have hS : KS w BS (w.alloc (.cells (rulesC a n c R.soft R.al R.ot R.sk R.ss R.db) 27)).drew := by rw [hBS]; exact S0.out.drew
    have K0 : ∀ W, KS w BS W → W.cell? ⟨w.heap.size, 0, none⟩ = some (.slice a n c) := fun W h => by rw [hBS] at h; exact (h.blkAt 0 rfl).cell 0
    have K1 : ∀ W, KS w BS W → W.cell? ⟨w.heap.size, 1, none⟩ = some (.string R.soft) := fun W h => by rw [hBS] at h; exact (h.blkAt 0 rfl).cell 1
    have K2 : ∀ W, KS w BS W → W.cell? ⟨w.heap.size, 2, none⟩ = some (.int .i64 R.al) := fun W h => by rw [hBS] at h; exact (h.blkAt 0 rfl).cell 2
    have K3 : ∀ W, KS w BS W → W.cell? ⟨w.heap.size, 3, none⟩ = some (.int .i64 R.ot) := fun W h => by rw [hBS] at h; exact (h.blkAt 0 rfl).cell 3
    have K4 : ∀ W, KS w BS W → W.cell? ⟨w.heap.size, 4, none⟩ = some (.int .i64 R.sk) := fun W h => by rw [hBS] at h; exact (h.blkAt 0 rfl).cell 4
    have K5 : ∀ W, KS w BS W → W.cell? ⟨w.heap.size, 5, none⟩ = some (.int .i64 R.ss) := fun W h => by rw [hBS] at h; exact (h.blkAt 0 rfl).cell 5
    have K6 : ∀ W, KS w BS W → W.cell? ⟨w.heap.size, 6, none⟩ = some (.int .i64 R.db) := fun W h => by rw [hBS] at h; exact (h.blkAt 0 rfl).cell 6
    have HBS := Lib.hid hBS
    clear hBS
    refine wp_region_held_drew (S := KS w BS) (by kernel_rfl) hS (fun hHeld => ?_)
    clear hS
    refine wpAnyH_take (i := 0) (v := ?_) rfl (by kernel_rfl) (by kernel_rfl) (by kernel_rfl) (fun _ _ _ h => h) (Or.inl ⟨by rfl, ?h0⟩) hHeld ?_
    case h0 =>
      intro w' hSw
      (try dsimp only at hSw)
      go_simp
      (try with_reducible rfl)
    (try simp only [Act.put]); (try simp only [List.setIfInBounds_toArray]); (try simp only [List.set_cons_succ]); (try simp only [List.set_cons_zero])
    refine wpAnyH_take (i := 1) (v := ?_) rfl (by kernel_rfl) (by kernel_rfl) (by kernel_rfl) (fun _ _ _ h => h) (Or.inl ⟨by rfl, ?h1⟩) hHeld ?_
    case h1 =>
      intro w' hSw
      (try dsimp only at hSw)
      go_simp
      (try with_reducible rfl)
    (try simp only [Act.put]); (try simp only [List.setIfInBounds_toArray]); (try simp only [List.set_cons_succ]); (try simp only [List.set_cons_zero])
    refine wpAnyH_take (i := 2) (v := ?_) rfl (by kernel_rfl) (by kernel_rfl) (by kernel_rfl) (fun _ _ _ h => h) (Or.inl ⟨by rfl, ?h2⟩) hHeld ?_
    case h2 =>
      intro w' hSw
      (try dsimp only at hSw)
      go_simp
      (try with_reducible rfl)
    (try simp only [Act.put]); (try simp only [List.setIfInBounds_toArray]); (try simp only [List.set_cons_succ]); (try simp only [List.set_cons_zero])
    refine wpAnyH_ready (rs := [3]) (by kernel_rfl) (by simp) ?_
    refine AllReadyH.cons rfl (fun K hK => ?_) (AllReadyH.nil)
    go_simp
    have HA := Lib.hid hHeld
    refine hK.out _ _ (hHeld.alloc _) (fun hHeld => ?_)
    clear hK K
    (try simp only [Act.put]); (try simp only [List.setIfInBounds_toArray]); (try simp only [List.set_cons_succ]); (try simp only [List.set_cons_zero])
    have hB1 : Blk ((w.alloc (.cells (rulesC a n c R.soft R.al R.ot R.sk R.ss R.db) 27)).alloc (.cells #[.slice an m cn, .slice am k cm] 25)).drew (w.heap.size + 1) #[.slice an m cn, .slice am k cm] 25 := (two_new w (rulesC a n c R.soft R.al R.ot R.sk R.ss R.db) #[.slice an m cn, .slice am k cm] 27 25).2.1.b (Below.refl _ _).drew
    clear HA
    generalize hW1 : ((w.alloc (.cells (rulesC a n c R.soft R.al R.ot R.sk R.ss R.db) 27)).alloc (.cells #[.slice an m cn, .slice am k cm] 25)).drew = W1 at *
    have HB1 := Lib.hid hB1
    clear hB1 hW1
    refine wpAnyH_ready (rs := [4]) (by kernel_rfl) (by simp) ?_
    refine AllReadyH.cons rfl (fun K hK => ?_) (AllReadyH.nil)
    go_simp
    (refine (CC.out (w.heap.size + 1) _ hHeld.bel HB1.out).mono ?_)
    rintro e w2 ⟨v, rfl, hv, hb⟩
    obtain ⟨a2, g2, c2, rfl, h2, h2l⟩ := sk_of_row hv
    have hS2 := hHeld.below hb
    have H2 := Lib.hid h2
    refine hK.out _ _ hS2 (fun hHeld => ?_)
    clear hK K hv hb hS2 h2 h2l
    (try simp only [Act.put]); (try simp only [List.setIfInBounds_toArray]); (try simp only [List.set_cons_succ]); (try simp only [List.set_cons_zero])
    refine wpAnyH_ready (rs := [5]) (by kernel_rfl) (by simp) ?_
    refine AllReadyH.cons rfl (fun K hK => ?_) (AllReadyH.nil)
    go_simp
    (refine (CK.out _ a2 g2 c2 hHeld.bel H2.out).mono ?_)
    rintro e w3 ⟨rfl, hb⟩
    have hS3 := hHeld.below hb
    refine hK.out _ _ hS3 (fun hHeld => ?_)
    clear hK K hb hS3
    (try simp only [Act.put]); (try simp only [List.setIfInBounds_toArray]); (try simp only [List.set_cons_succ]); (try simp only [List.set_cons_zero])
    refine wpAnyH_ready (rs := [6]) (by kernel_rfl) (by simp) ?_
    refine AllReadyH.cons rfl (fun K hK => ?_) (AllReadyH.nil)
    go_simp
    refine hK.out _ _ hHeld (fun hHeld => ?_)
    clear hK K
    (try simp only [Act.put]); (try simp only [List.setIfInBounds_toArray]); (try simp only [List.set_cons_succ]); (try simp only [List.set_cons_zero])
    refine wpAnyH_done (by kernel_rfl) ?_ _
    (try simp only [Act.put, List.setIfInBounds_toArray, List.set_cons_zero, List.set_cons_succ])
    have HB := Lib.hid hHeld.bel
    clear hHeld
    go_wp2_with fail
    go_ret
    exact ⟨rfl, HB.out⟩
end Go.Proofs.Ytkdflgaahhnigaa

namespace Go.Proofs.Ytkdflgaahhnigaa
open Go.RowKit Go.Shelf

theorem skn_nil (w : World) : SKn w none 0 0 0 0 [] := ⟨rfl, ⟨fun h => absurd rfl h, fun i a e => by simp at e, fun h => absurd rfl h⟩, fun _ => rfl⟩
def someN (R : RB) (ys : List ByteArray) : Nat := if lstN R ys [] = 0 then (if ys.length = 0 then 7 else 0) else lstN R ys []
set_option maxRecDepth 100000 in
set_option maxHeartbeats 1000000 in
theorem some_any (a : Option Addr) (g o c n : Nat) (R : RB) (w : World) (hN : R.cls.length = n) (hk : SK w a g o R.cls) (hc : n ≤ c) (ht : Thn R) (an : Option Addr) (gn on cn m : Nat) (ys : List ByteArray) (hkn : SKn w an gn on cn m ys) (hm : m ≤ 900) (hl : ∀ x, x ∈ ys → x.size ≤ 1000) : Calls Try.prog 33 #[rulesV a n c R.soft R.al R.ot R.sk R.ss R.db, .slice an m cn] w fun e w' => e = .returned (.int .i64 (someN R ys : Nat)) ∧ Below w.heap.size w w' := by
  have CL := Lib.hid (fun W (hW : Below w.heap.size w W) => listed_any a g o c n R W hN (hk.below hW) hc ht an gn on cn m ys (hkn.below hW) hm none 0 0 0 0 [] (skn_nil W) (by omega) (by simpa using hl))
  have hml := hkn.1
  unfold someN
  rw [hml]
  generalize lstN R ys [] = v at *
  have s0 := (KS.start w).new (rulesC a n c R.soft R.al R.ot R.sk R.ss R.db) 27
  have S0 := Lib.hid s0
  obtain ⟨kb0_0, kb0_1, kb0_2, kb0_3, kb0_4, kb0_5, kb0_6⟩ := (s0.blkAt 0 rfl).c7
  clear s0 hk ht hN hkn hl hml
  by_cases h0 : v = 0
  · rw [if_pos h0]
    subst h0
    by_cases hm0 : m = 0
    · rw [if_pos hm0]
      subst hm0
      go_enter Try.func33, Try.ntmps33
      go_wp2_with (go_at_call 21; (refine (CL.out _ S0.out.bel).mono ?_); rintro e w1 ⟨rfl, hb⟩; have S1 := Lib.hid (S0.out.below hb); clear hb)
      go_ret
      exact ⟨rfl, S1.out.bel⟩
    · rw [if_neg hm0]
      have p1 : ¬ (m : Int) = 0 := by omega
      go_enter Try.func33, Try.ntmps33
      go_wp2_with (go_at_call 21; (refine (CL.out _ S0.out.bel).mono ?_); rintro e w1 ⟨rfl, hb⟩; have S1 := Lib.hid (S0.out.below hb); clear hb)
      go_ret
      exact ⟨rfl, S1.out.bel⟩
  · rw [if_neg h0]
    have t0 : ((v : Int) == 0) = false := by simp; omega
    have t1 : ((v : Int) != 0) = true := by simp; omega
    clear h0
    go_enter Try.func33, Try.ntmps33
    go_wp2_with (go_at_call 21; (refine (CL.out _ S0.out.bel).mono ?_); rintro e w1 ⟨rfl, hb⟩; have S1 := Lib.hid (S0.out.below hb); clear hb)
    go_ret
    exact ⟨rfl, S1.out.bel⟩
end Go.Proofs.Ytkdflgaahhnigaa
