/- Texts of package name, for this seat. -/
import Derived.Test.YtkdflgaahhnigaaC5
import Derived.Test.YtkdflgaahhnigaaC3
import Derived.Test.YtkdflgaahhnigaaC4
set_option linter.unusedVariables false
set_option linter.unusedSimpArgs false
namespace Go.Proofs.Ytkdflgaahhnigaa
open Go.RowKit Go.Shelf

/-- an array of letters -/
def arrL (f : Nat → UInt8) : List Value := (List.range 26).map fun i => .int .u8 ((f i).toNat : Int)
theorem arrL_len (f : Nat → UInt8) : (arrL f).length = 26 := by simp [arrL]
theorem arrL_get (f : Nat → UInt8) (i : Nat) (h : i < 26) : (arrL f).toArray[i]? = some (.int .u8 ((f i).toNat : Int)) := by simp [arrL, h]
theorem arrL_set (f g : Nat → UInt8) (k : Nat) (v : Value) (hk : k < 26) (hv : v = .int .u8 ((g k).toNat : Int)) (h : ∀ i, i < 26 → i ≠ k → f i = g i) : (arrL f).toArray.setIfInBounds k v = (arrL g).toArray := by
  subst hv
  apply Array.ext_getElem?
  intro i
  rw [Array.getElem?_setIfInBounds]
  by_cases h2 : i < 26
  · rw [arrL_get g i h2]
    by_cases e : k = i
    · subst e; simp [arrL_len, hk]
    · rw [if_neg e, arrL_get f i h2, h i h2 (Ne.symm e)]
  · rw [if_neg (by omega), Array.getElem?_eq_none (by simp [arrL_len]; omega), Array.getElem?_eq_none (by simp [arrL_len]; omega)]
theorem arrL_one (f : Nat → UInt8) : ∀ v ∈ arrL f, v.oneCell' = true := by
  intro v hv
  simp [arrL] at hv
  obtain ⟨i, _, rfl⟩ := hv
  rfl
theorem arrL_ext {f g : Nat → UInt8} (h : ∀ i, i < 26 → f i = g i) : arrL f = arrL g := by
  unfold arrL
  exact List.map_congr_left fun i hi => by rw [h i (List.mem_range.1 hi)]
theorem tInfo103 : (Try.prog.info? 55).map (·.size) = some 26 := by kernel_rfl
def g1 (k j : Nat) : UInt8 := if j < k then UInt8.ofNat (65 + j) else 0
theorem g1_step (k i : Nat) (h : i ≠ k) : g1 k i = g1 (k + 1) i := by
  unfold g1
  by_cases h1 : i < k
  · rw [if_pos h1, if_pos (by omega)]
  · rw [if_neg h1, if_neg (by omega)]
/-- the representatives, the last class counting -/
def sndL (cls : List (List UInt8)) (b : UInt8) : UInt8 := cls.foldl (fun x c => if decide (b ∈ c) then c.headD 0 else x) b
theorem sndL_snoc (cls : List (List UInt8)) (c : List UInt8) (b : UInt8) : sndL (cls ++ [c]) b = if decide (b ∈ c) then c.headD 0 else sndL cls b := by simp [sndL]
def sF (cls : List (List UInt8)) (j : Nat) : UInt8 := sndL cls (UInt8.ofNat (65 + j))
def inF (F : Nat → UInt8) (cl : List UInt8) (i j : Nat) : UInt8 := if UInt8.ofNat (65 + j) ∈ cl.take i then cl.headD 0 else F j
theorem zeros26 : (#[.int .u8 0, .int .u8 0, .int .u8 0, .int .u8 0, .int .u8 0, .int .u8 0, .int .u8 0, .int .u8 0, .int .u8 0, .int .u8 0, .int .u8 0, .int .u8 0, .int .u8 0, .int .u8 0, .int .u8 0, .int .u8 0, .int .u8 0, .int .u8 0, .int .u8 0, .int .u8 0, .int .u8 0, .int .u8 0, .int .u8 0, .int .u8 0, .int .u8 0, .int .u8 0] : Array Value) = (arrL (g1 0)).toArray := by kernel_rfl
theorem BytesAt.other {W : World} {b o : Nat} {xs : List UInt8} (h : BytesAt W b o xs) {ad : Addr} (hne : b ≠ ad.block) (v : Value) : BytesAt (W.setCell ad v) b o xs := fun i x e => cell_setCell_far (h i x e) ad v hne
/-- classes of letters, none empty -/
def LetC (R : RB) : Prop := ∀ c, c ∈ R.cls → 0 < c.size ∧ ∀ i (h : i < c.size), isL c[i] = true
theorem ofNat_sub (b : UInt8) (h : isL b = true) : UInt8.ofNat (65 + (b.toNat - 65)) = b := by
  have := (u8_sub b h).2.2
  rw [show 65 + (b.toNat - 65) = b.toNat by omega]
  simp
theorem inF_zero (F : Nat → UInt8) (cl : List UInt8) : inF F cl 0 = F := by funext j; simp [inF]
theorem inF_set (F : Nat → UInt8) (cl : List UInt8) (i : Nat) (b : UInt8) (hi : cl[i]? = some b) (hb : isL b = true) : (arrL (inF F cl i)).toArray.setIfInBounds (b.toNat - 65) (.int .u8 ((cl.headD 0).toNat : Int)) = (arrL (inF F cl (i + 1))).toArray := by
  have e := ofNat_sub b hb
  have h26 := (u8_sub b hb).2.1
  have htk : cl.take (i + 1) = cl.take i ++ [b] := by rw [List.take_add_one, hi]; rfl
  refine arrL_set _ _ _ _ h26 ?_ (fun j hj hne => ?_)
  · unfold inF; rw [e, htk, if_pos (by simp)]
  · unfold inF
    rw [htk]
    have hnb : UInt8.ofNat (65 + j) ≠ b := fun h => by
      have h2 := congrArg UInt8.toNat h
      rw [UInt8.toNat_ofNat'] at h2
      simp only [isL, decide_eq_true_eq] at hb
      omega
    by_cases hm : UInt8.ofNat (65 + j) ∈ cl.take i
    · rw [if_pos hm, if_pos (List.mem_append_left _ hm)]
    · rw [if_neg hm, if_neg (by rw [List.mem_append, List.mem_singleton]; exact fun h => h.elim hm hnb)]
theorem sF_snoc (cls : List (List UInt8)) (cl : List UInt8) : sF (cls ++ [cl]) = inF (sF cls) cl cl.length := by
  funext j
  unfold sF inF
  rw [sndL_snoc, List.take_length]
  by_cases h : UInt8.ofNat (65 + j) ∈ cl <;> simp [h]

set_option maxRecDepth 100000 in
set_option maxHeartbeats 4000000 in
theorem sounds_any (a : Option Addr) (g o c n : Nat) (R : RB) (w : World) (hN : R.cls.length = n) (hk : SK w a g o R.cls) (hc : n ≤ c) (ht : Thn R) (hlet : LetC R) : Calls Try.prog 19 #[rulesV a n c R.soft R.al R.ot R.sk R.ss R.db] w fun e w' => e = .returned (.agg (arrL (sF (R.cls.map (·.data.toList)))).toArray) ∧ Below w.heap.size w w' := by
  go_enter Try.func19, Try.ntmps19
  go_wp2
  have hn2 := two_new w (rulesC a n c R.soft R.al R.ot R.sk R.ss R.db) #[.int .u8 0, .int .u8 0, .int .u8 0, .int .u8 0, .int .u8 0, .int .u8 0, .int .u8 0, .int .u8 0, .int .u8 0, .int .u8 0, .int .u8 0, .int .u8 0, .int .u8 0, .int .u8 0, .int .u8 0, .int .u8 0, .int .u8 0, .int .u8 0, .int .u8 0, .int .u8 0, .int .u8 0, .int .u8 0, .int .u8 0, .int .u8 0, .int .u8 0, .int .u8 0] 27 55
  have hkk := hk.below hn2.2.2.1
  generalize (w.alloc (.cells (rulesC a n c R.soft R.al R.ot R.sk R.ss R.db) 27)).alloc (.cells #[.int .u8 0, .int .u8 0, .int .u8 0, .int .u8 0, .int .u8 0, .int .u8 0, .int .u8 0, .int .u8 0, .int .u8 0, .int .u8 0, .int .u8 0, .int .u8 0, .int .u8 0, .int .u8 0, .int .u8 0, .int .u8 0, .int .u8 0, .int .u8 0, .int .u8 0, .int .u8 0, .int .u8 0, .int .u8 0, .int .u8 0, .int .u8 0, .int .u8 0, .int .u8 0] 55) = W0 at *
  rw [zeros26] at hn2
  obtain ⟨d1, d2, d3, d4⟩ := hn2
  have HK := Lib.hid hk
  have HLET := Lib.hid hlet
  have HT := Lib.hid ht
  have HN := Lib.hid hN
  have S0 := Lib.hid (And.intro d1 (And.intro d2 d3))
  clear hk hkk hlet hN d1 d2 d3 d4 ht
  go_loopw [8] (fun y wr => ∃ k : Nat, k ≤ 26 ∧ y = .int .i64 (k : Int) ∧ Hid (Blk wr w.heap.size (rulesC a n c R.soft R.al R.ot R.sk R.ss R.db) 27 ∧ Blk wr (w.heap.size + 1) (arrL (g1 k)).toArray 55 ∧ Below w.heap.size w wr)) (fun y _ => 26 - (intOf y).toNat)
  case atStart => exact ⟨0, by omega, rfl, S0.out⟩
  case round =>
    clear S0
    obtain ⟨k, hk26, rfl, H⟩ := hrel
    have c2 := H.out.2.1
    have lt2 := c2.lt
    by_cases hlt : k < 26
    · have q0 : (0 : Int) ≤ (k : Int) := by omega
      have q1 : (k : Int) < 26 := by omega
      have e0 : IntKind.i64.wrap (65 + (k : Int)) = 65 + (k : Int) := IntWalk.i64_in _ (by omega)
      have e1 : IntKind.u8.wrap (65 + (k : Int)) = 65 + (k : Int) := by
        have e : (2 : Int) ^ IntKind.u8.bits = 256 := rfl
        have e2 : IntKind.u8.signed = false := rfl
        simp only [IntKind.wrap, e, e2, Bool.false_and, Bool.false_eq_true, if_false]
        omega
      have hset := arrL_set (g1 k) (g1 (k + 1)) k (.int .u8 (65 + (k : Int))) hlt (by rw [g1, if_pos (by omega)]; congr 1; simp; omega) (fun i _ hi => g1_step k i hi)
      have HSET := Lib.hid hset
      have hcell := c2.cell k
      rw [arrL_get _ _ hlt] at hcell
      have hfz := c2.frozen k
      clear hset c2
      go_wp2
      go_roundw
      case rel => exact ⟨k + 1, by omega, by go_num, H.out.1.other (by simp) _, by rw [← HSET.out]; exact H.out.2.1.set k _, H.out.2.2.setCell (p := ⟨w.heap.size + 1, k, none⟩) (Nat.le_succ _) _⟩
      case measure => simp [intOf]; omega
    · have HK26 := Lib.hid (show k = 26 by omega)
      have hz26 : ¬ (k : Int) < 26 := by omega
      have hn1000 : n ≤ 1000 := by have := HT.out.1; rw [HN.out] at this; exact this
      have hs26 : arrL (g1 26) = arrL (sF []) := arrL_ext fun i hi => by simp [g1, sF, sndL, hi]
      have S1 := Lib.hid (show Blk wr w.heap.size (rulesC a n c R.soft R.al R.ot R.sk R.ss R.db) 27 ∧ Blk wr (w.heap.size + 1) (arrL (sF ((R.cls.map (·.data.toList)).take 0))).toArray 55 ∧ Below w.heap.size w wr by rw [List.take_zero, ← hs26]; have h := H.out; rw [HK26.out] at h; exact h)
      have hc0 := H.out.1.c7.1
      clear hs26 H c2 lt2
      go_wp2
      go_loopw [20] (fun y w2 => ∃ k : Nat, k ≤ n ∧ y = .int .i64 (k : Int) ∧ Hid (Blk w2 w.heap.size (rulesC a n c R.soft R.al R.ot R.sk R.ss R.db) 27 ∧ Blk w2 (w.heap.size + 1) (arrL (sF ((R.cls.map (·.data.toList)).take k))).toArray 55 ∧ Below w.heap.size w w2)) (fun y _ => n - (intOf y).toNat)
      case atStart => exact ⟨0, Nat.zero_le _, rfl, S1.out⟩
      case round =>
        clear S1 hc0
        obtain ⟨k, hkn, rfl, H⟩ := hrel
        by_cases hkl : k < n
        · obtain ⟨cl, hcl⟩ : ∃ cl, R.cls[k]? = some cl := ⟨R.cls[k]'(by rw [HN.out]; exact hkl), by simp⟩
          have hmem := List.mem_of_getElem? hcl
          have hne : R.cls ≠ [] := by rintro e; rw [e] at hcl; simp at hcl
          have e1 := HK.out.1 hne
          subst e1
          have k0 := (HK.out.2.1.below H.out.2.2 (HK.out.2.2 hne)) k cl hcl
          obtain ⟨hpos, hletc⟩ := HLET.out cl hmem
          have hcs := HT.out.2.1 cl hmem
          have hsn : (R.cls.map (·.data.toList)).take (k + 1) = (R.cls.map (·.data.toList)).take k ++ [cl.data.toList] := by
            rw [List.take_add_one, List.getElem?_map, hcl]; rfl
          have HSN := Lib.hid hsn
          have HLE := Lib.hid hletc
          have hkc := conv_rule
          have hpz : (0 : Int) < (cl.size : Int) := by omega
          have hsz := H.out.2.1.lt
          have hbb := bytes_below wr 5 cl
          have S2 := Lib.hid (show Blk (Lib.bytesWorld wr 5 cl) w.heap.size (rulesC (some ⟨g, o, none⟩) n c R.soft R.al R.ot R.sk R.ss R.db) 27 ∧ Blk (Lib.bytesWorld wr 5 cl) (w.heap.size + 1) (arrL (inF (sF ((R.cls.map (·.data.toList)).take k)) cl.data.toList 0)).toArray 55 ∧ BytesAt (Lib.bytesWorld wr 5 cl) wr.heap.size 0 cl.data.toList ∧ Below w.heap.size w (Lib.bytesWorld wr 5 cl) from
            ⟨H.out.1.b hbb, by rw [inF_zero]; exact H.out.2.1.b hbb, bytes_at wr 5 cl, H.out.2.2.trans (hbb.mono H.out.2.2.size)⟩)
          clear hcl hmem hne hletc hsn hbb
          go_wp2
          generalize wr.heap.size = B at *
          clear H k0
          go_loopw [27] (fun y w3 => ∃ i : Nat, i ≤ cl.size ∧ y = .int .i64 (i : Int) ∧ Hid (Blk w3 w.heap.size (rulesC (some ⟨g, o, none⟩) n c R.soft R.al R.ot R.sk R.ss R.db) 27 ∧ Blk w3 (w.heap.size + 1) (arrL (inF (sF ((R.cls.map (·.data.toList)).take k)) cl.data.toList i)).toArray 55 ∧ BytesAt w3 B 0 cl.data.toList ∧ Below w.heap.size w w3)) (fun y _ => cl.size - (intOf y).toNat)
          case atStart => exact ⟨0, Nat.zero_le _, rfl, S2.out⟩
          case round =>
            clear S2
            obtain ⟨i, hi, rfl, H⟩ := hrel
            by_cases hil : i < cl.size
            · have hget : cl.data.toList[i]? = some cl[i] := by rw [List.getElem?_eq_getElem (by simpa using hil)]; rfl
              have b0 := H.out.2.2.1 i cl[i] hget
              rw [Nat.zero_add] at b0
              obtain ⟨u1, u2, u3⟩ := u8_sub cl[i] (HLE.out i hil)
              have hset := inF_set (sF ((R.cls.map (·.data.toList)).take k)) cl.data.toList i cl[i] hget (HLE.out i hil)
              rw [headD_get cl hpos] at hset
              have HSET := Lib.hid hset
              have hcell := H.out.2.1.cell (cl[i].toNat - 65)
              rw [arrL_get _ _ u2] at hcell
              have hfz := H.out.2.1.frozen (cl[i].toNat - 65)
              have hne1 : B ≠ w.heap.size + 1 := by omega
              have HNE := Lib.hid hne1
              clear hget hset hne1
              go_wp2
              go_roundw
              case rel => exact ⟨i + 1, by omega, by go_num, H.out.1.other (by simp) _, by rw [← HSET.out]; exact H.out.2.1.set _ _, H.out.2.2.1.other HNE.out _, H.out.2.2.2.setCell (p := ⟨w.heap.size + 1, _, none⟩) (Nat.le_succ _) _⟩
              case measure => simp [intOf]; omega
            · obtain rfl : i = cl.size := by omega
              have S3 := Lib.hid (show Blk wr w.heap.size (rulesC (some ⟨g, o, none⟩) n c R.soft R.al R.ot R.sk R.ss R.db) 27 ∧ Blk wr (w.heap.size + 1) (arrL (sF ((R.cls.map (·.data.toList)).take (k + 1)))).toArray 55 ∧ Below w.heap.size w wr by
                rw [HSN.out, sF_snoc, show cl.data.toList.length = cl.size by simp]; exact ⟨H.out.1, H.out.2.1, H.out.2.2.2⟩)
              clear H
              go_wp2
              go_roundw
              case rel => exact ⟨k + 1, by omega, by go_num, S3.out⟩
              case measure => simp [intOf]; omega
        · obtain rfl : k = n := by omega
          have S4 := Lib.hid (show Blk wr (w.heap.size + 1) (arrL (sF (R.cls.map (·.data.toList)))).toArray 55 ∧ Below w.heap.size w wr by
            have h := H.out
            rw [List.take_of_length_le (by simp [HN.out])] at h
            exact h.2)
          clear H
          generalize hvs : arrL (sF (R.cls.map (·.data.toList))) = vs at *
          have hlen : vs.length = 26 := by rw [← hvs]; exact arrL_len _
          have hone : ∀ v, v ∈ vs → v.oneCell' = true := fun v hv => arrL_one _ v (by rw [hvs]; exact hv)
          have HLN := Lib.hid hlen
          have HON := Lib.hid hone
          have HVS := Lib.hid hvs
          clear hlen hone hvs
          go_wp2_with (first
            | (refine wpList_load_row rfl 55 _ rfl _ rfl 55 vs.toArray (0, 0) _ S4.out.1 Try.underlying55 rfl (by rw [tInfo103]; simp [HLN.out]) ?_)
            | (refine wpList_store_row rfl 55 _ _ rfl (w.heap.size + 1) rfl 55 vs.toArray vs.toArray rfl S4.out.1 (by rw [tInfo103]; simp [HLN.out]) rfl (by simpa using HON.out) ?_; intro w9 hb9 hg9; have HB9 := Lib.hid hb9; have HG9 := Lib.hid hg9; clear hb9 hg9))
          simp only [Act.put, List.setIfInBounds_toArray, List.set_cons_zero, List.set_cons_succ]
          have hlv : (loadVar 55 ⟨w.heap.size + 1, 0, none⟩).run Try.prog w9 = .ok (.agg vs.toArray) w9 :=
            run_loadVar_mid _ _ 0 55 vs _ (Blk.range HB9.out) Try.underlying55 rfl (by rw [tInfo103]; simp [HLN.out])
          refine bodyPost_ret (v := .agg vs.toArray) (by simp [results, Try.results19, asAddr, hlv]) rfl ⟨by rw [HVS.out], ?_⟩
          exact below_grownBy S4.out.2 HG9.out (Nat.le_succ _)
end Go.Proofs.Ytkdflgaahhnigaa

namespace Go.Proofs.Ytkdflgaahhnigaa
open Go.RowKit Go.Shelf

/-- the representatives -/
def sndR (R : RB) (b : UInt8) : UInt8 := sndL (R.cls.map (·.data.toList)) b
theorem snd_arr (R : RB) (vs : List Value) (h : arrL (sF (R.cls.map (·.data.toList))) = vs) (b : UInt8) (hb : isL b = true) : vs[b.toNat - 65]? = some (.int .u8 ((sndR R b).toNat : Int)) := by
  have h2 := arrL_get (sF (R.cls.map (·.data.toList))) (b.toNat - 65) (u8_sub b hb).2.1
  rw [h] at h2
  simp only [sF] at h2
  rw [ofNat_sub b hb] at h2
  unfold sndR
  simpa using h2
theorem list26 {vs : List Value} (h : vs.length = 26) : ∃ v0 v1 v2 v3 v4 v5 v6 v7 v8 v9 v10 v11 v12 v13 v14 v15 v16 v17 v18 v19 v20 v21 v22 v23 v24 v25 : Value, vs = [v0, v1, v2, v3, v4, v5, v6, v7, v8, v9, v10, v11, v12, v13, v14, v15, v16, v17, v18, v19, v20, v21, v22, v23, v24, v25] := by
  match vs, h with
  | [v0, v1, v2, v3, v4, v5, v6, v7, v8, v9, v10, v11, v12, v13, v14, v15, v16, v17, v18, v19, v20, v21, v22, v23, v24, v25], _ => exact ⟨_, _, _, _, _, _, _, _, _, _, _, _, _, _, _, _, _, _, _, _, _, _, _, _, _, _, rfl⟩
theorem duel_of_blk {W : World} {d : Nat} {v0 v1 v2 v3 v4 v5 v6 v7 v8 v9 v10 v11 v12 v13 v14 v15 v16 v17 v18 v19 v20 v21 v22 v23 v24 v25 : Value} {a : Option Addr} {n c : Nat} {s : ByteArray} {al ot sk ss db : Int} {x y : ByteArray} {sn : UInt8 → UInt8} {mb : Nat} (h : Blk W d #[.slice a n c, .string s, .int .i64 al, .int .i64 ot, .int .i64 sk, .int .i64 ss, .int .i64 db, .string x, .string y, v0, v1, v2, v3, v4, v5, v6, v7, v8, v9, v10, v11, v12, v13, v14, v15, v16, v17, v18, v19, v20, v21, v22, v23, v24, v25, .map (some mb)] 83)
    (hv : ∀ b, isL b = true → ([v0, v1, v2, v3, v4, v5, v6, v7, v8, v9, v10, v11, v12, v13, v14, v15, v16, v17, v18, v19, v20, v21, v22, v23, v24, v25] : List Value)[b.toNat - 65]? = some (.int .u8 ((sn b).toNat : Int))) : Duel W d a n c s al ot sk ss db x y sn mb :=
  ⟨h.lt, h.cell 0, h.cell 1, h.cell 2, h.cell 3, h.cell 4, h.cell 5, h.cell 6, h.cell 7, h.cell 8, fun b hb => by
    have h1 := hv b hb
    have h2 := (List.getElem?_eq_some_iff.1 h1).1
    have e : (#[.slice a n c, .string s, .int .i64 al, .int .i64 ot, .int .i64 sk, .int .i64 ss, .int .i64 db, .string x, .string y, v0, v1, v2, v3, v4, v5, v6, v7, v8, v9, v10, v11, v12, v13, v14, v15, v16, v17, v18, v19, v20, v21, v22, v23, v24, v25, .map (some mb)] : Array Value) = (([.slice a n c, .string s, .int .i64 al, .int .i64 ot, .int .i64 sk, .int .i64 ss, .int .i64 db, .string x, .string y] : List Value) ++ ([v0, v1, v2, v3, v4, v5, v6, v7, v8, v9, v10, v11, v12, v13, v14, v15, v16, v17, v18, v19, v20, v21, v22, v23, v24, v25] ++ [Value.map (some mb)])).toArray := rfl
    rw [h.cell, e, List.getElem?_toArray, List.getElem?_append_right (by simp), List.getElem?_append_left (by simpa using h2)]
    simpa using h1, h.cell 35⟩
def DuelPost (R : RB) (a : Option Addr) (n c : Nat) (x y : ByteArray) (f : Nat → Nat → Nat) (w : World) (e : Ending) (w' : World) : Prop :=
  ∃ d mb : Nat, e = .returned (.pointer (some ⟨d, 0, none⟩)) ∧ (∃ ob, w'.heap[d]? = some ob ∧ ob.isCells = true) ∧ Duel w' d a n c R.soft R.al R.ot R.sk R.ss R.db x y (sndR R) mb ∧ Memo w' mb f ∧ w.heap.size ≤ d ∧ w.heap.size ≤ mb ∧ Below w.heap.size w w'
set_option maxRecDepth 100000 in
set_option maxHeartbeats 4000000 in
theorem duel_any (a : Option Addr) (g o c n : Nat) (R : RB) (w : World) (hN : R.cls.length = n) (hk : SK w a g o R.cls) (hc : n ≤ c) (ht : Thn R) (hlet : LetC R) (x y : ByteArray) (f : Nat → Nat → Nat) : Calls Try.prog 17 #[rulesV a n c R.soft R.al R.ot R.sk R.ss R.db, .string x, .string y] w (DuelPost R a n c x y f w) := by
  have CS := Lib.hid (fun W (h : Below w.heap.size w W) => sounds_any a g o c n R W hN (hk.below h) hc ht hlet)
  have hsl := arrL_len (sF (R.cls.map (·.data.toList)))
  have hsn := fun b hb => snd_arr R _ rfl b hb
  generalize arrL (sF (R.cls.map (·.data.toList))) = vs at *
  obtain ⟨v0, v1, v2, v3, v4, v5, v6, v7, v8, v9, v10, v11, v12, v13, v14, v15, v16, v17, v18, v19, v20, v21, v22, v23, v24, v25, rfl⟩ := list26 hsl
  have HSN := Lib.hid hsn
  have hmm := @run_makeMap Try.prog
  have s0 := (KS.start w).new (rulesC a n c R.soft R.al R.ot R.sk R.ss R.db) 27
  have S0 := Lib.hid s0.drew
  clear hk hlet ht hN hsl hsn s0
  go_enter Try.func17, Try.ntmps17
  go_wp2_with fail
  obtain ⟨BS, hBS⟩ : ∃ BS : List (Nat × Array Value × TypeId), BS = [(w.heap.size, rulesC a n c R.soft R.al R.ot R.sk R.ss R.db, 27)] := ⟨_, rfl⟩
  have hS : KS w BS (w.alloc (.cells (rulesC a n c R.soft R.al R.ot R.sk R.ss R.db) 27)).drew := by rw [hBS]; exact S0.out
  have K0 : ∀ W, KS w BS W → W.cell? ⟨w.heap.size, 0, none⟩ = some (.slice a n c) := fun W h => by rw [hBS] at h; exact (h.blkAt 0 rfl).cell 0
  have K1 : ∀ W, KS w BS W → W.cell? ⟨w.heap.size, 1, none⟩ = some (.string R.soft) := fun W h => by rw [hBS] at h; exact (h.blkAt 0 rfl).cell 1
  have K2 : ∀ W, KS w BS W → W.cell? ⟨w.heap.size, 2, none⟩ = some (.int .i64 R.al) := fun W h => by rw [hBS] at h; exact (h.blkAt 0 rfl).cell 2
  have K3 : ∀ W, KS w BS W → W.cell? ⟨w.heap.size, 3, none⟩ = some (.int .i64 R.ot) := fun W h => by rw [hBS] at h; exact (h.blkAt 0 rfl).cell 3
  have K4 : ∀ W, KS w BS W → W.cell? ⟨w.heap.size, 4, none⟩ = some (.int .i64 R.sk) := fun W h => by rw [hBS] at h; exact (h.blkAt 0 rfl).cell 4
  have K5 : ∀ W, KS w BS W → W.cell? ⟨w.heap.size, 5, none⟩ = some (.int .i64 R.ss) := fun W h => by rw [hBS] at h; exact (h.blkAt 0 rfl).cell 5
  have K6 : ∀ W, KS w BS W → W.cell? ⟨w.heap.size, 6, none⟩ = some (.int .i64 R.db) := fun W h => by rw [hBS] at h; exact (h.blkAt 0 rfl).cell 6
  have HBS := Lib.hid hBS
  clear hBS
  refine wp_region_held_drew (S := KS w BS) (by kernel_rfl) hS (fun hHeld => ?_)
  clear hS
  refine wpAnyH_take (i := 0) (v := ?_) rfl (by kernel_rfl) (by kernel_rfl) (by kernel_rfl) (fun _ _ _ h => h) (Or.inl ⟨by rfl, ?h0⟩) hHeld ?_
  case h0 =>
    intro w' hSw
    (try dsimp only at hSw)
    go_simp
    (try with_reducible rfl)
  (try simp only [Act.put]); (try simp only [List.setIfInBounds_toArray]); (try simp only [List.set_cons_succ]); (try simp only [List.set_cons_zero])
  refine wpAnyH_take (i := 1) (v := ?_) rfl (by kernel_rfl) (by kernel_rfl) (by kernel_rfl) (fun _ _ _ h => h) (Or.inl ⟨by rfl, ?h1⟩) hHeld ?_
  case h1 =>
    intro w' hSw
    (try dsimp only at hSw)
    go_simp
    (try with_reducible rfl)
  (try simp only [Act.put]); (try simp only [List.setIfInBounds_toArray]); (try simp only [List.set_cons_succ]); (try simp only [List.set_cons_zero])
  refine wpAnyH_take (i := 2) (v := ?_) rfl (by kernel_rfl) (by kernel_rfl) (by kernel_rfl) (fun _ _ _ h => h) (Or.inl ⟨by rfl, ?h2⟩) hHeld ?_
  case h2 =>
    intro w' hSw
    (try dsimp only at hSw)
    go_simp
    (try with_reducible rfl)
  (try simp only [Act.put]); (try simp only [List.setIfInBounds_toArray]); (try simp only [List.set_cons_succ]); (try simp only [List.set_cons_zero])
  refine wpAnyH_take (i := 3) (v := ?_) rfl (by kernel_rfl) (by kernel_rfl) (by kernel_rfl) (fun _ _ _ h => h) (Or.inl ⟨by rfl, ?h3⟩) hHeld ?_
  case h3 =>
    intro w' hSw
    (try dsimp only at hSw)
    go_simp
    (try with_reducible rfl)
  (try simp only [Act.put]); (try simp only [List.setIfInBounds_toArray]); (try simp only [List.set_cons_succ]); (try simp only [List.set_cons_zero])
  refine wpAnyH_ready (rs := [4, 5]) (by kernel_rfl) (by simp) ?_
  refine AllReadyH.cons rfl (fun K hK => ?_) (AllReadyH.cons rfl (fun K hK => ?_) (AllReadyH.nil))
  · go_simp
    (with_reducible refine (CS.out _ hHeld.bel).mono ?_)
    rintro e wn ⟨rfl, hb⟩
    have hSn := hHeld.below hb
    have HH := Lib.hid hSn.bel.size
    refine hK.out _ _ hSn (fun hHeld => ?_)
    clear hK K hSn hb
    (try simp only [Act.put]); (try simp only [List.setIfInBounds_toArray]); (try simp only [List.set_cons_succ]); (try simp only [List.set_cons_zero])
    refine wpAnyH_ready (rs := [5]) (by kernel_rfl) (by simp) ?_
    refine AllReadyH.cons rfl (fun K hK => ?_) (AllReadyH.nil)
    go_simp
    have HM := Lib.hid (Memo.made wn f)
    have hmlt := HM.out.lt
    refine hK.out _ _ (hHeld.alloc _) (fun hHeld => ?_)
    clear hK K
    (try simp only [Act.put]); (try simp only [List.setIfInBounds_toArray]); (try simp only [List.set_cons_succ]); (try simp only [List.set_cons_zero])
    refine wpAnyH_take (i := 6) (v := ?_) rfl (by kernel_rfl) (by kernel_rfl) (by kernel_rfl) (fun _ _ _ h => h) (Or.inl ⟨by rfl, ?h6⟩) hHeld ?_
    case h6 =>
      intro w' hSw
      (try dsimp only at hSw)
      go_simp
      (try with_reducible rfl)
    (try simp only [Act.put]); (try simp only [List.setIfInBounds_toArray]); (try simp only [List.set_cons_succ]); (try simp only [List.set_cons_zero])
    refine wpAnyH_ready (rs := [7]) (by kernel_rfl) (by simp) ?_
    refine AllReadyH.cons rfl (fun K hK => ?_) (AllReadyH.nil)
    go_simp
    refine hK.out _ _ (hHeld.alloc _) (fun hHeld => ?_)
    clear hK K
    (try simp only [Act.put]); (try simp only [List.setIfInBounds_toArray]); (try simp only [List.set_cons_succ]); (try simp only [List.set_cons_zero])
    refine wpAnyH_ready (rs := [8]) (by kernel_rfl) (by simp) ?_
    refine AllReadyH.cons rfl (fun K hK => ?_) (AllReadyH.nil)
    go_simp
    refine hK.out _ _ hHeld (fun hHeld => ?_)
    clear hK K
    refine wpAnyH_done (by kernel_rfl) ?_ _
    (try simp only [Act.put, List.setIfInBounds_toArray, List.set_cons_zero, List.set_cons_succ])
    have HB := Lib.hid hHeld.bel
    clear hHeld
    go_wp2
    go_ret
    have hbk := Blk.new (wn.alloc (.map #[] 0)) #[.slice a n c, .string R.soft, .int .i64 R.al, .int .i64 R.ot, .int .i64 R.sk, .int .i64 R.ss, .int .i64 R.db, .string x, .string y, v0, v1, v2, v3, v4, v5, v6, v7, v8, v9, v10, v11, v12, v13, v14, v15, v16, v17, v18, v19, v20, v21, v22, v23, v24, v25, .map (some wn.heap.size)] 83
    rw [World.size_alloc] at hbk
    exact ⟨_, wn.heap.size, rfl, ⟨_, hbk, rfl⟩, duel_of_blk hbk HSN.out, HM.out.alloc _, by have := HH.out; omega, by have := HH.out; omega, HB.out⟩
  · go_simp
    have hM0 := Memo.made ((w.alloc (.cells (rulesC a n c R.soft R.al R.ot R.sk R.ss R.db) 27)).drew) f
    rw [show ((w.alloc (.cells (rulesC a n c R.soft R.al R.ot R.sk R.ss R.db) 27)).drew).heap.size = w.heap.size + 1 by simp] at hM0
    refine hK.out _ _ (hHeld.alloc _) (fun hHeld => ?_)
    clear hK K
    (try simp only [Act.put]); (try simp only [List.setIfInBounds_toArray]); (try simp only [List.set_cons_succ]); (try simp only [List.set_cons_zero])
    refine wpAnyH_ready (rs := [4]) (by kernel_rfl) (by simp) ?_
    refine AllReadyH.cons rfl (fun K hK => ?_) (AllReadyH.nil)
    go_simp
    (with_reducible refine (CS.out _ hHeld.bel).mono ?_)
    rintro e wn ⟨rfl, hb⟩
    have hSn := hHeld.below hb
    have HM := Lib.hid (hM0.below hb hM0.lt)
    have HW := Lib.hid hb.size
    refine hK.out _ _ hSn (fun hHeld => ?_)
    clear hK K hSn hb hM0
    (try simp only [Act.put]); (try simp only [List.setIfInBounds_toArray]); (try simp only [List.set_cons_succ]); (try simp only [List.set_cons_zero])
    refine wpAnyH_take (i := 6) (v := ?_) rfl (by kernel_rfl) (by kernel_rfl) (by kernel_rfl) (fun _ _ _ h => h) (Or.inl ⟨by rfl, ?h6⟩) hHeld ?_
    case h6 =>
      intro w' hSw
      (try dsimp only at hSw)
      go_simp
      (try with_reducible rfl)
    (try simp only [Act.put]); (try simp only [List.setIfInBounds_toArray]); (try simp only [List.set_cons_succ]); (try simp only [List.set_cons_zero])
    refine wpAnyH_ready (rs := [7]) (by kernel_rfl) (by simp) ?_
    refine AllReadyH.cons rfl (fun K hK => ?_) (AllReadyH.nil)
    go_simp
    have HH := Lib.hid hHeld.bel.size
    refine hK.out _ _ (hHeld.alloc _) (fun hHeld => ?_)
    clear hK K
    (try simp only [Act.put]); (try simp only [List.setIfInBounds_toArray]); (try simp only [List.set_cons_succ]); (try simp only [List.set_cons_zero])
    refine wpAnyH_ready (rs := [8]) (by kernel_rfl) (by simp) ?_
    refine AllReadyH.cons rfl (fun K hK => ?_) (AllReadyH.nil)
    go_simp
    refine hK.out _ _ hHeld (fun hHeld => ?_)
    clear hK K
    refine wpAnyH_done (by kernel_rfl) ?_ _
    (try simp only [Act.put, List.setIfInBounds_toArray, List.set_cons_zero, List.set_cons_succ])
    have HB := Lib.hid hHeld.bel
    clear hHeld
    go_wp2
    go_ret
    have hbk := Blk.new (wn) #[.slice a n c, .string R.soft, .int .i64 R.al, .int .i64 R.ot, .int .i64 R.sk, .int .i64 R.ss, .int .i64 R.db, .string x, .string y, v0, v1, v2, v3, v4, v5, v6, v7, v8, v9, v10, v11, v12, v13, v14, v15, v16, v17, v18, v19, v20, v21, v22, v23, v24, v25, .map (some (w.heap.size + 1))] 83
    exact ⟨_, (w.heap.size + 1), rfl, ⟨_, hbk, rfl⟩, duel_of_blk hbk HSN.out, HM.out.alloc _, by have := HH.out; omega, by have := HH.out; omega, HB.out⟩
end Go.Proofs.Ytkdflgaahhnigaa

namespace Go.Proofs.Ytkdflgaahhnigaa
open Go.RowKit Go.Shelf

/-- the cost of two names from a cell on -/
def cR (R : RB) (x y : ByteArray) (i j : Nat) : Nat := csD R.soft R.al.toNat R.ot.toNat R.sk.toNat R.ss.toNat R.db.toNat x y (sndR R) i j
/-- valid rules, told in parts -/
structure Good (R : RB) : Prop where
  n8 : R.cls.length ≤ 8
  rul : rulB R = true
theorem Good.letc {R : RB} (h : Good R) : LetC R := fun c hc => by
  have hr := h.rul
  simp only [rulB, distB, Bool.and_eq_true, List.all_eq_true] at hr
  obtain ⟨⟨⟨⟨h1, _⟩, _⟩, h3⟩, _⟩ := hr
  have h3c := h3 c hc
  simp only [evB, Bool.and_eq_true, Bool.not_eq_true'] at h3c
  refine ⟨?_, fun i hi => ?_⟩
  · rcases Nat.eq_zero_or_pos c.size with h0 | h0
    · have : c.data.toList = [] := List.eq_nil_of_length_eq_zero (by simpa using h0)
      rw [this] at h3c; cases h3c.1
    · exact h0
  · refine h1 c[i] ?_
    unfold fl
    rw [List.mem_flatten]
    exact ⟨c.data.toList, List.mem_map.2 ⟨c, hc, rfl⟩, by rw [← getD_size c i hi, List.getD_eq_getElem?_getD, List.getElem?_eq_getElem (by simpa using hi)]; exact List.getElem_mem _⟩
theorem Good.cos {R : RB} (h : Good R) : (0 ≤ R.al ∧ R.al ≤ 100) ∧ (0 ≤ R.ot ∧ R.ot ≤ 100) ∧ (0 ≤ R.sk ∧ R.sk ≤ 100) ∧ (0 ≤ R.ss ∧ R.ss ≤ 100) ∧ (0 ≤ R.db ∧ R.db ≤ 100) := by
  have hr := h.rul
  simp only [rulB, Bool.and_eq_true] at hr
  have h4 := hr.2
  simp only [cosB, List.all_cons, List.all_nil, Bool.and_true, Bool.and_eq_true, coB, inB_iff] at h4
  obtain ⟨a, b, c, d, e⟩ := h4
  exact ⟨a, b, c, d, e⟩
theorem name_of {x : ByteArray} (h : spB x = true) (h12 : x.size ≤ 12) : NameB x := ⟨by omega, fun i hi => by
  simp only [spB, Bool.and_eq_true, List.all_eq_true] at h
  refine h.2 x[i] ?_
  rw [← getD_size x i hi, List.getD_eq_getElem?_getD, List.getElem?_eq_getElem (by simpa using hi)]
  exact List.getElem_mem _⟩
theorem chkN_ok {R : RB} {l : List ByteArray} (h : chkN R l = 0) : Good R ∧ ∀ x, x ∈ l → x.size ≤ 12 ∧ spB x = true := by
  unfold chkN at h
  split at h
  · cases h
  · rename_i h1
    rw [not_or] at h1
    split at h
    · cases h
    · rename_i h2
      split at h
      · rename_i h3
        have h1' : (l.all fun s => decide (s.size ≤ 12)) = true := by simpa using h1.2
        exact ⟨⟨by omega, by simpa using h2⟩, fun x hx => ⟨by simpa using List.all_eq_true.1 h1' x hx, List.all_eq_true.1 h3 x hx⟩⟩
      · cases h
theorem skN_le (s : ByteArray) (sk ss db : Nat) (t : List UInt8) (i : Nat) (h1 : sk ≤ 100) (h2 : ss ≤ 100) (h3 : db ≤ 100) : skN s sk ss db t i ≤ 100 := by
  unfold skN; split
  · exact h3
  · split
    · exact h2
    · exact h1
theorem swN_le (sn : UInt8 → UInt8) (al ot : Nat) (p q : UInt8) (h1 : al ≤ 100) (h2 : ot ≤ 100) : swN sn al ot p q ≤ 100 := by
  unfold swN; split
  · omega
  · split
    · exact h1
    · exact h2
theorem bnd_of (s : ByteArray) (al ot sk ss db : Nat) (x y : ByteArray) (sn : UInt8 → UInt8) (h1 : al ≤ 100) (h2 : ot ≤ 100) (h3 : sk ≤ 100) (h4 : ss ≤ 100) (h5 : db ≤ 100) (hx : x.size ≤ 12) (hy : y.size ≤ 12) : Bnd s al ot sk ss db x y sn := by
  refine ⟨fun i j => ?_, fun i j t ht => ?_, by omega, by omega⟩
  · have := Nm.rs_le (sw := SW sn al ot x y) (sa := SA s sk ss db x) (sb := SA s sk ss db y) (n := x.size) (m := y.size) 100 (fun i j => swN_le _ _ _ _ _ h1 h2) (fun i => skN_le _ _ _ _ _ _ h3 h4 h5) (fun i => skN_le _ _ _ _ _ _ h3 h4 h5) (x.size - i) (y.size - j)
    show Nm.rs _ _ _ _ _ _ _ ≤ 2400
    omega
  · rcases Nm.stepsOf_cases ht with ⟨rfl, _⟩ | ⟨rfl, _⟩ | ⟨rfl, _⟩
    · exact swN_le _ _ _ _ _ h1 h2
    · exact skN_le _ _ _ _ _ _ h3 h4 h5
    · exact skN_le _ _ _ _ _ _ h3 h4 h5
theorem Good.bnd {R : RB} (h : Good R) {x y : ByteArray} (hx : x.size ≤ 12) (hy : y.size ≤ 12) : Bnd R.soft R.al.toNat R.ot.toNat R.sk.toNat R.ss.toNat R.db.toNat x y (sndR R) := by
  obtain ⟨a, b, c, d, e⟩ := h.cos
  exact bnd_of _ _ _ _ _ _ _ _ _ (by omega) (by omega) (by omega) (by omega) (by omega) hx hy
theorem cR_le {R : RB} (h : Good R) {x y : ByteArray} (hx : x.size ≤ 12) (hy : y.size ≤ 12) (i j : Nat) : cR R x y i j ≤ 2400 := (h.bnd hx hy).1 i j
/-- a duel at the rules' own costs -/
def DuelR (W : World) (d : Nat) (a : Option Addr) (n c : Nat) (R : RB) (x y : ByteArray) (mb : Nat) : Prop := DuelB W d a n c R.soft R.al.toNat R.ot.toNat R.sk.toNat R.ss.toNat R.db.toNat x y (sndR R) mb
def DuelP (R : RB) (a : Option Addr) (n c : Nat) (x y : ByteArray) (w : World) (e : Ending) (w' : World) : Prop :=
  ∃ d mb : Nat, e = .returned (.pointer (some ⟨d, 0, none⟩)) ∧ DuelR w' d a n c R x y mb ∧ Memo w' mb (cR R x y) ∧ w.heap.size ≤ d ∧ w.heap.size ≤ mb ∧ Below w.heap.size w w'
theorem duel_ok (a : Option Addr) (g o c n : Nat) (R : RB) (w : World) (hN : R.cls.length = n) (hk : SK w a g o R.cls) (hc : n ≤ c) (ht : Thn R) (hg : Good R) (x y : ByteArray) : Calls Try.prog 17 #[rulesV a n c R.soft R.al R.ot R.sk R.ss R.db, .string x, .string y] w (DuelP R a n c x y w) := by
  refine (duel_any a g o c n R w hN hk hc ht hg.letc x y (cR R x y)).mono ?_
  rintro e w' ⟨d, mb, he, hob, hd, hm, h1, h2, h3⟩
  refine ⟨d, mb, he, ⟨?_, hob⟩, hm, h1, h2, h3⟩
  obtain ⟨c1, c2, c3, c4, c5⟩ := hg.cos
  have e1 : ((R.al.toNat : Nat) : Int) = R.al := by omega
  have e2 : ((R.ot.toNat : Nat) : Int) = R.ot := by omega
  have e3 : ((R.sk.toNat : Nat) : Int) = R.sk := by omega
  have e4 : ((R.ss.toNat : Nat) : Int) = R.ss := by omega
  have e5 : ((R.db.toNat : Nat) : Int) = R.db := by omega
  rw [e1, e2, e3, e4, e5]
  exact hd
theorem cost_ok {R : RB} (hg : Good R) {x y : ByteArray} (hx : spB x = true) (hx2 : x.size ≤ 12) (hy : spB y = true) (hy2 : y.size ≤ 12) (d i j : Nat) (a : Option Addr) (n c mb : Nat) (hi : i ≤ x.size) (hj : j ≤ y.size) (w : World) (hm : Memo w mb (cR R x y)) (hd : DuelR w d a n c R x y mb) :
    Calls Try.prog 18 #[.pointer (some ⟨d, 0, none⟩), cellV i j] w fun e w' => e = .returned (.int .i64 (cR R x y i j : Nat)) ∧ Memo w' mb (cR R x y) ∧ w.grownBy w' (some mb) :=
  cost_any d i j a n c R.soft R.al.toNat R.ot.toNat R.sk.toNat R.ss.toNat R.db.toNat x y (sndR R) mb (name_of hx hx2) (name_of hy hy2) (hg.bnd hx2 hy2) hi hj w hm hd
/-- strings that the code lays -/
theorem sk2 {W : World} {b : Nat} {x y : ByteArray} {t : TypeId} (h : Blk W b #[.string x, .string y] t) : SK W (some ⟨b, 0, none⟩) b 0 [x, y] := ⟨fun _ => rfl, fun i s e => by
  match i, e with
  | 0, e => simp at e; subst e; exact h.cell 0
  | 1, e => simp at e; subst e; exact h.cell 1, fun _ => h.lt⟩
theorem sk1 {W : World} {b : Nat} {x : ByteArray} {t : TypeId} (h : Blk W b #[.string x] t) : SK W (some ⟨b, 0, none⟩) b 0 [x] := ⟨fun _ => rfl, fun i s e => by
  match i, e with
  | 0, e => simp at e; subst e; exact h.cell 0, fun _ => h.lt⟩
set_option maxRecDepth 100000 in
set_option maxHeartbeats 400000 in
theorem Cost_bad (a : Option Addr) (g o c n : Nat) (R : RB) (w : World) (hN : R.cls.length = n) (hk : SK w a g o R.cls) (hc : n ≤ c) (ht : Thn R) (x y : ByteArray) (hx : x.size ≤ 1000) (hy : y.size ≤ 1000) (v : Nat) (hv : chkN R [x, y] = v) (h0 : v ≠ 0) :
    Calls Try.prog 4 #[rulesV a n c R.soft R.al R.ot R.sk R.ss R.db, .string x, .string y] w fun e w' => e = .returned (.tuple #[.int .i64 0, .int .i64 (v : Nat)]) ∧ Below w.heap.size w w' := by
  have CK := Lib.hid (fun W b (hW : Below w.heap.size w W) (hb : Blk W b #[.string x, .string y] 9) => check_any a g o c n R W hN (hk.below hW) hc ht (some ⟨b, 0, none⟩) b 0 2 2 [x, y] rfl (sk2 hb) (by omega) (fun s hs => by simp at hs; rcases hs with rfl | rfl <;> assumption))
  rw [hv] at CK
  have t0 : ((v : Int) == 0) = false := by simp; omega
  have t1 : ((v : Int) != 0) = true := by simp; omega
  clear hk ht hN hx hy hv h0
  have s0 := (KS.start w).new (rulesC a n c R.soft R.al R.ot R.sk R.ss R.db) 27
  obtain ⟨kb0_0, kb0_1, kb0_2, kb0_3, kb0_4, kb0_5, kb0_6⟩ := (s0.blkAt 0 rfl).c7
  have S0 := Lib.hid s0
  clear s0
  go_enter Try.func4, Try.ntmps4
  go_wp2_with fail
  refine (CK.out _ (w.heap.size + 1) ((S0.out.bel).alloc S0.out.size _) (two_new w _ _ _ _).2.1).mono ?_
  rintro e w1 ⟨rfl, h1⟩
  clear kb0_0 kb0_1 kb0_2 kb0_3 kb0_4 kb0_5 kb0_6
  have s1 := (S0.out.alloc (.cells #[.string x, .string y] 9)).below h1
  obtain ⟨kb0_0, kb0_1, kb0_2, kb0_3, kb0_4, kb0_5, kb0_6⟩ := (s1.blkAt 0 rfl).c7
  have S1 := Lib.hid s1
  clear h1 s1
  go_wp2_with fail
  go_ret2
  exact ⟨rfl, S1.out.bel⟩
set_option maxRecDepth 100000 in
set_option maxHeartbeats 400000 in
theorem Cost_good (a : Option Addr) (g o c n : Nat) (R : RB) (w : World) (hN : R.cls.length = n) (hk : SK w a g o R.cls) (hc : n ≤ c) (ht : Thn R) (x y : ByteArray) (hx : x.size ≤ 1000) (hy : y.size ≤ 1000) (hv : chkN R [x, y] = 0) :
    Calls Try.prog 4 #[rulesV a n c R.soft R.al R.ot R.sk R.ss R.db, .string x, .string y] w fun e w' => e = .returned (.tuple #[.int .i64 (cR R x y 0 0 : Nat), .int .i64 0]) ∧ Below w.heap.size w w' := by
  have CK := Lib.hid (fun W b (hW : Below w.heap.size w W) (hb : Blk W b #[.string x, .string y] 9) => check_any a g o c n R W hN (hk.below hW) hc ht (some ⟨b, 0, none⟩) b 0 2 2 [x, y] rfl (sk2 hb) (by omega) (fun s hs => by simp at hs; rcases hs with rfl | rfl <;> assumption))
  rw [hv] at CK
  obtain ⟨hg, hxy⟩ := chkN_ok hv
  obtain ⟨gx1, gx2⟩ := hxy x (by simp)
  obtain ⟨gy1, gy2⟩ := hxy y (by simp)
  have CD := Lib.hid (fun W (hW : Below w.heap.size w W) => duel_ok a g o c n R W hN (hk.below hW) hc ht hg x y)
  have CC := Lib.hid (fun d mb W (hm : Memo W mb (cR R x y)) (hd : DuelR W d a n c R x y mb) => cost_ok hg gx2 gx1 gy2 gy1 d 0 0 a n c mb (Nat.zero_le _) (Nat.zero_le _) W hm hd)
  generalize hcv : cR R x y 0 0 = cv at *
  clear hk ht hN hx hy hv hg hxy gx1 gx2 gy1 gy2
  have s0 := (KS.start w).new (rulesC a n c R.soft R.al R.ot R.sk R.ss R.db) 27
  obtain ⟨kb0_0, kb0_1, kb0_2, kb0_3, kb0_4, kb0_5, kb0_6⟩ := (s0.blkAt 0 rfl).c7
  have S0 := Lib.hid s0
  clear s0
  go_enter Try.func4, Try.ntmps4
  go_wp2_with fail
  refine (CK.out _ (w.heap.size + 1) ((S0.out.bel).alloc S0.out.size _) (two_new w _ _ _ _).2.1).mono ?_
  rintro e w1 ⟨rfl, h1⟩
  clear kb0_0 kb0_1 kb0_2 kb0_3 kb0_4 kb0_5 kb0_6
  have s1 := (S0.out.alloc (.cells #[.string x, .string y] 9)).below h1
  obtain ⟨kb0_0, kb0_1, kb0_2, kb0_3, kb0_4, kb0_5, kb0_6⟩ := (s1.blkAt 0 rfl).c7
  have S1 := Lib.hid s1
  clear h1 s1
  go_wp2_with fail
  refine (CD.out _ S1.out.bel).mono ?_
  rintro e w2 ⟨d, mb, rfl, hd, hm, h1, h2, h3⟩
  have S2 := Lib.hid (S1.out.below h3)
  have HD := Lib.hid hd
  have HM := Lib.hid hm
  have HM2 := Lib.hid h2
  clear kb0_0 kb0_1 kb0_2 kb0_3 kb0_4 kb0_5 kb0_6 hd hm h1 h2 h3
  go_wp2_with fail
  refine (CC.out d mb _ HM.out HD.out).mono ?_
  rintro e w3 ⟨rfl, hm3, hg3⟩
  have HG := Lib.hid hg3
  clear hm3 hg3
  go_wp2_with fail
  go_ret2
  exact ⟨rfl, below_grownBy S2.out.bel HG.out (Nat.le_trans S1.out.size HM2.out)⟩
/-- Cost, whatever the rules and names -/
def costV (R : RB) (x y : ByteArray) : Nat := if chkN R [x, y] = 0 then cR R x y 0 0 else 0
theorem Cost_any (a : Option Addr) (g o c n : Nat) (R : RB) (w : World) (hN : R.cls.length = n) (hk : SK w a g o R.cls) (hc : n ≤ c) (ht : Thn R) (x y : ByteArray) (hx : x.size ≤ 1000) (hy : y.size ≤ 1000) : Calls Try.prog 4 #[rulesV a n c R.soft R.al R.ot R.sk R.ss R.db, .string x, .string y] w fun e w' => e = .returned (.tuple #[.int .i64 (costV R x y : Nat), .int .i64 (chkN R [x, y] : Nat)]) ∧ Below w.heap.size w w' := by
  unfold costV
  by_cases h : chkN R [x, y] = 0
  · rw [if_pos h, h]; exact Cost_good a g o c n R w hN hk hc ht x y hx hy h
  · rw [if_neg h]; exact Cost_bad a g o c n R w hN hk hc ht x y hx hy _ rfl h
end Go.Proofs.Ytkdflgaahhnigaa
