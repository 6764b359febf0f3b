/- NameCheaper: the walk. NameCheaper: for every input the statement returns true, and each argument reads behind the call as it read before. No condition. -/
import Derived.Test.YtkdflgaahhnigaaGreatC12
import Derived.Test.YtkdflgaahhnigaaGreatC10
import Derived.ProofKit
import Derived.OpenShut
import Derived.ShutString
import Derived.ChangeOld
import Derived.Below
import Derived.Lib.SmallJoins
import Derived.Deep.Slices
set_option linter.unusedVariables false
set_option linter.unusedSimpArgs false
namespace Go.Proofs.YtkdflgaahhnigaaGreat
open Go.RowKit Go.Shelf

def upd (R : RB) (j : Nat) (v : Int) : RB := match j with
  | 0 => { R with al := v }
  | 1 => { R with ot := v }
  | 2 => { R with sk := v }
  | 3 => { R with ss := v }
  | _ => { R with db := v }
def nth (R : RB) (j : Nat) : Int := match j with
  | 0 => R.al
  | 1 => R.ot
  | 2 => R.sk
  | 3 => R.ss
  | _ => R.db
theorem upd_cls (R : RB) (j : Nat) (v : Int) : (upd R j v).cls = R.cls := by unfold upd; split <;> rfl
theorem upd_soft (R : RB) (j : Nat) (v : Int) : (upd R j v).soft = R.soft := by unfold upd; split <;> rfl
theorem upd_cells (R : RB) (a : Option Addr) (n c j : Nat) (hj : j < 5) (v : Int) : (rulesC a n c R.soft R.al R.ot R.sk R.ss R.db).setIfInBounds (2 + j) (.int .i64 v) = rulesC a n c (upd R j v).soft (upd R j v).al (upd R j v).ot (upd R j v).sk (upd R j v).ss (upd R j v).db := by
  match j, hj with
  | 0, _ => rfl
  | 1, _ => rfl
  | 2, _ => rfl
  | 3, _ => rfl
  | 4, _ => rfl
theorem nth_cell (R : RB) (a : Option Addr) (n c j : Nat) (hj : j < 5) : (rulesC a n c R.soft R.al R.ot R.sk R.ss R.db)[2 + j]? = some (.int .i64 (nth R j)) := by
  match j, hj with
  | 0, _ => rfl
  | 1, _ => rfl
  | 2, _ => rfl
  | 3, _ => rfl
  | 4, _ => rfl
theorem upd_cos {R : RB} (hg : Good R) {j : Nat} (hj : j < 5) {v : Int} (h0 : 0 ≤ v) (h1 : v ≤ 100) : cosB (upd R j v) = true := by
  obtain ⟨a, b, c, d, e⟩ := hg.cos
  have : ∀ z : Int, 0 ≤ z → z ≤ 100 → coB z = true := fun z h h' => inB_iff.2 ⟨h, h'⟩
  match j, hj with
  | 0, _ => simp [cosB, upd, this _ h0 h1, this _ b.1 b.2, this _ c.1 c.2, this _ d.1 d.2, this _ e.1 e.2]
  | 1, _ => simp [cosB, upd, this _ h0 h1, this _ a.1 a.2, this _ c.1 c.2, this _ d.1 d.2, this _ e.1 e.2]
  | 2, _ => simp [cosB, upd, this _ h0 h1, this _ a.1 a.2, this _ b.1 b.2, this _ d.1 d.2, this _ e.1 e.2]
  | 3, _ => simp [cosB, upd, this _ h0 h1, this _ a.1 a.2, this _ b.1 b.2, this _ c.1 c.2, this _ e.1 e.2]
  | 4, _ => simp [cosB, upd, this _ h0 h1, this _ a.1 a.2, this _ b.1 b.2, this _ c.1 c.2, this _ d.1 d.2]
theorem upd_good {R : RB} (hg : Good R) {j : Nat} (hj : j < 5) {v : Int} (h0 : 0 ≤ v) (h1 : v ≤ 100) : Good (upd R j v) := by
  refine ⟨by rw [upd_cls]; exact hg.n8, ?_⟩
  have hr := hg.rul
  unfold rulB fl at *
  rw [upd_cls, upd_soft, upd_cos hg hj h0 h1]
  simp only [Bool.and_eq_true] at hr ⊢
  exact ⟨hr.1, trivial⟩
theorem nth_cos {R : RB} (hg : Good R) {j : Nat} (hj : j < 5) : 0 ≤ nth R j ∧ nth R j ≤ 100 := by
  obtain ⟨a, b, c, d, e⟩ := hg.cos
  match j, hj with
  | 0, _ => exact a
  | 1, _ => exact b
  | 2, _ => exact c
  | 3, _ => exact d
  | 4, _ => exact e
theorem upd_mono {R : RB} {j : Nat} (hj : j < 5) {v : Int} (h : v ≤ nth R j) (x y : ByteArray) : cR (upd R j v) x y 0 0 ≤ cR R x y 0 0 := by
  match j, hj with
  | 0, _ => exact cR_mono R (upd R 0 v) rfl rfl (Int.toNat_le_toNat h) (Nat.le_refl _) (Nat.le_refl _) (Nat.le_refl _) (Nat.le_refl _) x y
  | 1, _ => exact cR_mono R (upd R 1 v) rfl rfl (Nat.le_refl _) (Int.toNat_le_toNat h) (Nat.le_refl _) (Nat.le_refl _) (Nat.le_refl _) x y
  | 2, _ => exact cR_mono R (upd R 2 v) rfl rfl (Nat.le_refl _) (Nat.le_refl _) (Int.toNat_le_toNat h) (Nat.le_refl _) (Nat.le_refl _) x y
  | 3, _ => exact cR_mono R (upd R 3 v) rfl rfl (Nat.le_refl _) (Nat.le_refl _) (Nat.le_refl _) (Int.toNat_le_toNat h) (Nat.le_refl _) x y
  | 4, _ => exact cR_mono R (upd R 4 v) rfl rfl (Nat.le_refl _) (Nat.le_refl _) (Nat.le_refl _) (Nat.le_refl _) (Int.toNat_le_toNat h) x y
theorem u8n {k : Int} (h : (Lit.int .u8 k).wf = true) : ∃ n : Nat, k = (n : Int) ∧ n < 256 := by
  have h2 : IntKind.u8.min ≤ k ∧ k ≤ IntKind.u8.max := by simpa [Lit.wf] using h
  have h3 : IntKind.u8.min = 0 := rfl
  have h4 : IntKind.u8.max = 255 := rfl
  exact ⟨k.toNat, by omega, by omega⟩
theorem ptr_at (B j : Nat) (hj : j < 5) (h : j < ([.pointer (some ⟨B, 2, none⟩), .pointer (some ⟨B, 3, none⟩), .pointer (some ⟨B, 4, none⟩), .pointer (some ⟨B, 5, none⟩), .pointer (some ⟨B, 6, none⟩)] : List Value).length) : ([.pointer (some ⟨B, 2, none⟩), .pointer (some ⟨B, 3, none⟩), .pointer (some ⟨B, 4, none⟩), .pointer (some ⟨B, 5, none⟩), .pointer (some ⟨B, 6, none⟩)] : List Value)[j] = .pointer (some ⟨B, 2 + j, none⟩) := by
  match j, hj with
  | 0, _ => rfl
  | 1, _ => rfl
  | 2, _ => rfl
  | 3, _ => rfl
  | 4, _ => rfl
set_option maxRecDepth 100000 in
set_option maxHeartbeats 4000000 in
theorem NameCheaper_walk (a : Option Addr) (g o c n : Nat) (R : RB) (w : World) (hk : SKn w a g o c n R.cls) (hc : n ≤ c) (x y : ByteArray) (k1 k2 : Int) (hk1 : (Lit.int .u8 k1).wf = true) (hk2 : (Lit.int .u8 k2).wf = true) : Calls Tryz.prog 9 #[rulesV a n c R.soft R.al R.ot R.sk R.ss R.db, .string x, .string y, .int .u8 k1, .int .u8 k2] w fun e w' => e = .returned (.bool true) ∧ Below w.heap.size w w' := by
  have C36 := Lib.hid (fun W b (hW : Below w.heap.size w W) (hb : Blk W b #[.string x, .string y] 9) => ready36 a g o c n R W hk.1 (hk.2.1.below hW) (some ⟨b, 0, none⟩) b 0 2 2 [x, y] rfl (sk2 hb))
  cases hr : readyB R [x, y] with
  | false =>
    rw [hr] at C36
    have s0 := ((KS.start w).new (rulesC a n c R.soft R.al R.ot R.sk R.ss R.db) 24)
    obtain ⟨kb0_0, kb0_1, kb0_2, kb0_3, kb0_4, kb0_5, kb0_6⟩ := (s0.blkAt 0 rfl).c7
    have S0 := Lib.hid s0
    clear s0 hr hk hc
    go_enter Tryz.func9, Tryz.ntmps9
    go_wp2_with fail
    refine (C36.out _ (w.heap.size + 1) ((S0.out.bel).alloc S0.out.size _) (two_new w _ _ _ _).2.1).mono ?_
    rintro e w1 ⟨rfl, hb⟩
    have S1 := Lib.hid ((S0.out.alloc (.cells #[.string x, .string y] 9)).below hb)
    clear hb
    go_wp2_with (go_at_call 18; (refine (awake_any _).mono ?_); rintro e wA ⟨rfl, hbA⟩; have SA := Lib.hid (S1.out.bel.trans (hbA.mono S1.out.bel.size)); clear hbA)
    go_ret
    exact ⟨rfl, SA.out⟩
  | true =>
    obtain ⟨ht, hn15, hv, _, hl⟩ := ready_parts hr
    have hx := hl x (by simp)
    have hy := hl y (by simp)
    rw [hr] at C36
    have hnn := hk.1
    have C20 := Lib.hid (fun W (hW : Below w.heap.size w W) => Rules20 a g o c n R W (hk.below hW) (by omega))
    have HT := Lib.hid ht
    have HN := Lib.hid hk.1
    have HV := Lib.hid hv
    have hx' : x.size ≤ 1000 := by omega
    have hy' : y.size ≤ 1000 := by omega
    have s0 := ((KS.start w).new (rulesC a n c R.soft R.al R.ot R.sk R.ss R.db) 24)
    obtain ⟨kb0_0, kb0_1, kb0_2, kb0_3, kb0_4, kb0_5, kb0_6⟩ := (s0.blkAt 0 rfl).c7
    have S0 := Lib.hid s0
    obtain ⟨m1, rfl, hm1⟩ := u8n hk1
    obtain ⟨m2, rfl, hm2⟩ := u8n hk2
    have hgood := (chkN_ok hv).1
    have hall := (chkN_ok hv).2
    obtain ⟨j, hjm⟩ : ∃ j, j = m1 % 5 := ⟨_, rfl⟩
    have hj : j < 5 := by omega
    have q1 : (m1 : Int) % 5 = (j : Int) := by omega
    have q2 : (0 : Int) ≤ (j : Int) := by omega
    have q3 : (j : Int) < 5 := by omega
    have hnc := nth_cos hgood hj
    obtain ⟨R2, hR2⟩ : ∃ R2, R2 = upd R j (max 0 (nth R j - (m2 : Int))) := ⟨_, rfl⟩
    have hg2' : Good R2 := by rw [hR2]; exact upd_good hgood hj (by omega) (by omega)
    have hcls : R2.cls = R.cls := by rw [hR2]; exact upd_cls _ _ _
    have hv2 : chkN R2 [x, y] = 0 := chkN_intro hg2' hall
    have ht2 : Thn R2 := by rw [hR2]; unfold Thn; rw [upd_cls, upd_soft]; exact ht
    have hmn : cR R2 x y 0 0 ≤ cR R x y 0 0 := by rw [hR2]; exact upd_mono hj (by omega) x y
    have C20' := Lib.hid (fun W (hW : Below w.heap.size w W) => Rules20 a g o c n R2 W (by rw [hcls]; exact hk.below hW) (by omega))
    have HN2 := Lib.hid (show R2.cls.length = n by rw [hcls]; exact hk.1)
    have HR2 := Lib.hid hR2
    have HT2 := Lib.hid ht2
    have HV2 := Lib.hid hv2
    have HMN := Lib.hid hmn
    have HLE := Lib.hid (cR_le hgood hx hy 0 0)
    have HDF := Lib.hid (fun (h : R.al.toNat ≤ R.ot.toNat) (hs : x.size = y.size) => cR_differ R h x y hs)
    have HCO := Lib.hid hgood.cos
    clear hjm hk1 hk2 hR2 hg2' hcls hv2 ht2 hmn hgood hall hv hl s0 hr ht hk hc
    go_enter Tryz.func9, Tryz.ntmps9
    go_wp2_with fail
    refine (C36.out _ (w.heap.size + 1) ((S0.out.bel).alloc S0.out.size _) (two_new w _ _ _ _).2.1).mono ?_
    rintro e w1 ⟨rfl, hb⟩
    clear kb0_0 kb0_1 kb0_2 kb0_3 kb0_4 kb0_5 kb0_6
    have s1 := (S0.out.alloc (.cells #[.string x, .string y] 9)).below hb
    obtain ⟨kb0_0, kb0_1, kb0_2, kb0_3, kb0_4, kb0_5, kb0_6⟩ := (s1.blkAt 0 rfl).c7
    have S1 := Lib.hid s1
    have hnew := Blk.new w1 (#[.slice none 0 0, .string ⟨#[]⟩, .int .i64 0, .int .i64 0, .int .i64 0, .int .i64 0, .int .i64 0]) 24
    have HNW := Lib.hid hnew
    have hpe : ∀ h : j < ([.pointer (some ⟨w1.heap.size, 2, none⟩), .pointer (some ⟨w1.heap.size, 3, none⟩), .pointer (some ⟨w1.heap.size, 4, none⟩), .pointer (some ⟨w1.heap.size, 5, none⟩), .pointer (some ⟨w1.heap.size, 6, none⟩)] : List Value).length, ([.pointer (some ⟨w1.heap.size, 2, none⟩), .pointer (some ⟨w1.heap.size, 3, none⟩), .pointer (some ⟨w1.heap.size, 4, none⟩), .pointer (some ⟨w1.heap.size, 5, none⟩), .pointer (some ⟨w1.heap.size, 6, none⟩)] : List Value)[j] = .pointer (some ⟨w1.heap.size, 2 + j, none⟩) := fun h => ptr_at _ _ hj h
    clear hb s1 hnew
    go_wp2_with (refine wpList_store_row rfl 24 _ _ rfl w1.heap.size rfl 24 (#[.slice none 0 0, .string ⟨#[]⟩, .int .i64 0, .int .i64 0, .int .i64 0, .int .i64 0, .int .i64 0]) (rulesC a n c R.soft R.al R.ot R.sk R.ss R.db) rfl HNW.out (by kernel_rfl) rfl (by simp [Value.oneCell']) ?_; intro w2 hb2 hg2; have HB2 := Lib.hid hb2; have HG2 := Lib.hid hg2; have kj : w2.cell? ⟨w1.heap.size, 2 + j, none⟩ = some (.int .i64 (nth R j)) := (hb2.cell _).trans (nth_cell R a n c j hj); have fj := hb2.frozen (2 + j); have kj2 : ∀ ob, (w2.alloc ob).cell? ⟨w1.heap.size, 2 + j, none⟩ = some (.int .i64 (nth R j)) := fun ob => ((hb2.alloc ob).cell _).trans (nth_cell R a n c j hj); have fj2 : ∀ ob, (w2.alloc ob).frozen? ⟨w1.heap.size, 2 + j, none⟩ = false := fun ob => (hb2.alloc ob).frozen (2 + j); have HB12 := Lib.hid (below_grownBy ((Below.refl _ w1).alloc (Nat.le_refl _) _) hg2 (Nat.le_refl _)); have hks := fun (ob : Obj) (v : Value) => S1.out.below ((HB12.out.alloc HB12.out.size ob).setCell (p := ⟨w1.heap.size, 2 + j, none⟩) (Nat.le_refl _) v); have kz0 : ∀ (ob : Obj) (v : Value), ((w2.alloc ob).setCell ⟨w1.heap.size, 2 + j, none⟩ v).cell? ⟨w.heap.size, 0, none⟩ = some (.slice a n c) := fun ob v => ((hks ob v).blkAt 0 rfl).cell 0; have kz1 : ∀ (ob : Obj) (v : Value), ((w2.alloc ob).setCell ⟨w1.heap.size, 2 + j, none⟩ v).cell? ⟨w.heap.size, 1, none⟩ = some (.string R.soft) := fun ob v => ((hks ob v).blkAt 0 rfl).cell 1; have kz2 : ∀ (ob : Obj) (v : Value), ((w2.alloc ob).setCell ⟨w1.heap.size, 2 + j, none⟩ v).cell? ⟨w.heap.size, 2, none⟩ = some (.int .i64 R.al) := fun ob v => ((hks ob v).blkAt 0 rfl).cell 2; have kz3 : ∀ (ob : Obj) (v : Value), ((w2.alloc ob).setCell ⟨w1.heap.size, 2 + j, none⟩ v).cell? ⟨w.heap.size, 3, none⟩ = some (.int .i64 R.ot) := fun ob v => ((hks ob v).blkAt 0 rfl).cell 3; have kz4 : ∀ (ob : Obj) (v : Value), ((w2.alloc ob).setCell ⟨w1.heap.size, 2 + j, none⟩ v).cell? ⟨w.heap.size, 4, none⟩ = some (.int .i64 R.sk) := fun ob v => ((hks ob v).blkAt 0 rfl).cell 4; have kz5 : ∀ (ob : Obj) (v : Value), ((w2.alloc ob).setCell ⟨w1.heap.size, 2 + j, none⟩ v).cell? ⟨w.heap.size, 5, none⟩ = some (.int .i64 R.ss) := fun ob v => ((hks ob v).blkAt 0 rfl).cell 5; have kz6 : ∀ (ob : Obj) (v : Value), ((w2.alloc ob).setCell ⟨w1.heap.size, 2 + j, none⟩ v).cell? ⟨w.heap.size, 6, none⟩ = some (.int .i64 R.db) := fun ob v => ((hks ob v).blkAt 0 rfl).cell 6; clear hb2 hg2 hks)
    have s3 : KS w [(w1.heap.size, rulesC a n c R2.soft R2.al R2.ot R2.sk R2.ss R2.db, 24), (w.heap.size, rulesC a n c R.soft R.al R.ot R.sk R.ss R.db, 24)] ((w2.alloc (.cells (#[.pointer (some ⟨w1.heap.size, 2, none⟩), .pointer (some ⟨w1.heap.size, 3, none⟩), .pointer (some ⟨w1.heap.size, 4, none⟩), .pointer (some ⟨w1.heap.size, 5, none⟩), .pointer (some ⟨w1.heap.size, 6, none⟩)]) 59)).setCell ⟨w1.heap.size, 2 + j, none⟩ (.int .i64 (max 0 (nth R j - (m2 : Int))))) := by
      have hbx : Blk ((w2.alloc (.cells (#[.pointer (some ⟨w1.heap.size, 2, none⟩), .pointer (some ⟨w1.heap.size, 3, none⟩), .pointer (some ⟨w1.heap.size, 4, none⟩), .pointer (some ⟨w1.heap.size, 5, none⟩), .pointer (some ⟨w1.heap.size, 6, none⟩)]) 59)).setCell ⟨w1.heap.size, 2 + j, none⟩ (.int .i64 (max 0 (nth R j - (m2 : Int))))) w1.heap.size (rulesC a n c R2.soft R2.al R2.ot R2.sk R2.ss R2.db) 24 := by
        have h := (HB2.out.alloc (.cells (#[.pointer (some ⟨w1.heap.size, 2, none⟩), .pointer (some ⟨w1.heap.size, 3, none⟩), .pointer (some ⟨w1.heap.size, 4, none⟩), .pointer (some ⟨w1.heap.size, 5, none⟩), .pointer (some ⟨w1.heap.size, 6, none⟩)]) 59)).set (2 + j) (.int .i64 (max 0 (nth R j - (m2 : Int))))
        rw [upd_cells R a n c j hj, ← HR2.out] at h
        exact h
      have hbel : Below w1.heap.size w1 ((w2.alloc (.cells (#[.pointer (some ⟨w1.heap.size, 2, none⟩), .pointer (some ⟨w1.heap.size, 3, none⟩), .pointer (some ⟨w1.heap.size, 4, none⟩), .pointer (some ⟨w1.heap.size, 5, none⟩), .pointer (some ⟨w1.heap.size, 6, none⟩)]) 59)).setCell ⟨w1.heap.size, 2 + j, none⟩ (.int .i64 (max 0 (nth R j - (m2 : Int))))) := (HB12.out.alloc HB12.out.size _).setCell (p := ⟨w1.heap.size, 2 + j, none⟩) (Nat.le_refl _) _
      have h1 := S1.out.below hbel
      exact ⟨fun z hz => by
        rcases List.mem_cons.1 hz with rfl | hz
        · exact hbx
        · exact h1.1 z hz, h1.2⟩
    clear hpe
    have S3 := Lib.hid s3
    clear s3 kz0 kz1 kz2 kz3 kz4 kz5 kz6 kj fj kj2 fj2
    go_wp2_with fail
    refine (C20.out _ S3.out.bel).mono ?_
    rintro e w4 ⟨a4, g4, c4, rfl, hsk, hle4, hb⟩
    have HK4 := Lib.hid hsk
    clear hsk
    have s4 := S3.out.below hb
    obtain ⟨kb0_0, kb0_1, kb0_2, kb0_3, kb0_4, kb0_5, kb0_6⟩ := (s4.blkAt 1 rfl).c7
    have S4 := Lib.hid s4
    clear hb s4
    go_wp2_with fail
    refine (Cost_good a4 g4 0 c4 n R _ HN.out HK4.out hle4 HT.out x y hx' hy' HV.out).mono ?_
    rintro e w5 ⟨rfl, hb⟩
    clear kb0_0 kb0_1 kb0_2 kb0_3 kb0_4 kb0_5 kb0_6
    have s5 := S4.out.below hb
    obtain ⟨kx0, kx1, kx2, kx3, kx4, kx5, kx6⟩ := (s5.blkAt 0 rfl).c7
    obtain ⟨kb0_0, kb0_1, kb0_2, kb0_3, kb0_4, kb0_5, kb0_6⟩ := (s5.blkAt 1 rfl).c7
    have S5 := Lib.hid s5
    clear hb s5
    go_wp2_with fail
    refine (C20'.out _ S5.out.bel).mono ?_
    rintro e w6 ⟨a6, g6, c6, rfl, hsk, hle6, hb⟩
    have HK6 := Lib.hid hsk
    clear hsk kx0 kx1 kx2 kx3 kx4 kx5 kx6
    clear kb0_0 kb0_1 kb0_2 kb0_3 kb0_4 kb0_5 kb0_6
    have s6 := S5.out.below hb
    obtain ⟨kb0_0, kb0_1, kb0_2, kb0_3, kb0_4, kb0_5, kb0_6⟩ := (s6.blkAt 1 rfl).c7
    have S6 := Lib.hid s6
    clear hb s6
    go_wp2_with fail
    refine (Cost_good a6 g6 0 c6 n R2 _ HN2.out HK6.out hle6 HT2.out x y hx' hy' HV2.out).mono ?_
    rintro e w7 ⟨rfl, hb⟩
    clear kb0_0 kb0_1 kb0_2 kb0_3 kb0_4 kb0_5 kb0_6
    have s7 := S6.out.below hb
    obtain ⟨kb0_0, kb0_1, kb0_2, kb0_3, kb0_4, kb0_5, kb0_6⟩ := (s7.blkAt 1 rfl).c7
    have S7 := Lib.hid s7
    clear hb s7
    have p1 : ¬ ((cR R x y 0 0 : Nat) : Int) < ((cR R2 x y 0 0 : Nat) : Int) := by have := HMN.out; omega
    have HCV := Lib.hid (rfl : cR R x y 0 0 = cR R x y 0 0)
    by_cases hsz : x.size = y.size
    · have tz : ((x.size : Int) == (y.size : Int)) = true := by rw [beq_iff_eq]; omega
      have tz1 : ((x.size : Int) != (y.size : Int)) = false := by rw [bne, tz]; rfl
      by_cases hao : R.ot < R.al
      · skip
        clear hsz
        go_wp2_with (first | (go_at_call 18; (refine (awake_any _).mono ?_); rintro e wA ⟨rfl, hbA⟩; have SA := Lib.hid (S7.out.bel.trans (hbA.mono S7.out.bel.size)); clear hbA))
        go_ret
        exact ⟨rfl, SA.out⟩
      · have HSZ := Lib.hid hsz
        have HD := Lib.hid (HDF.out (by have := HCO.out; omega) hsz)
        clear hsz HDF
        go_wp2_with fail
        clear kb0_0 kb0_1 kb0_2 kb0_3 kb0_4 kb0_5 kb0_6
        go_loopw [17, 18] (fun y1 y2 wr => ∃ i : Nat, i ≤ x.size ∧ y2 = .int .i64 (i : Int) ∧ y1 = .int .i64 (difN x.data.toList y.data.toList i : Nat) ∧ Hid (KS w [(w1.heap.size, rulesC a n c R2.soft R2.al R2.ot R2.sk R2.ss R2.db, 24), (w.heap.size, rulesC a n c R.soft R.al R.ot R.sk R.ss R.db, 24)] wr)) (fun _ y2 _ => x.size - (intOf y2).toNat)
        case atStart => exact ⟨0, Nat.zero_le _, rfl, rfl, S7.out⟩
        case round =>
          clear S7
          obtain ⟨i, hi, rfl, rfl, H⟩ := hrel
          have hdl := difN_le x.data.toList y.data.toList i
          by_cases hin : i < x.size
          · have hiy : i < y.size := by have := HSZ.out; omega
            have hin2 : (i : Int) < (x.size : Int) := by omega
            have hiy2 : (i : Int) < (y.size : Int) := by omega
            have HS := Lib.hid (show difN x.data.toList y.data.toList (i + 1) = difN x.data.toList y.data.toList i + if x[i] = y[i] then 0 else 1 by rw [difN, getD_size x i hin, getD_size y i hiy])
            generalize difN x.data.toList y.data.toList i = dn at *
            by_cases he : x[i] = y[i]
            · have te : ((x[i].toNat : Int) == (y[i].toNat : Int)) = true := by rw [he]; simp
              have te1 : ((x[i].toNat : Int) != (y[i].toNat : Int)) = false := by rw [bne, te]; rfl
              have HS2 := Lib.hid (HS.out.trans (by rw [if_pos he]))
              clear he
              go_wp2_with fail
              go_quiet (fail)
              go_wp2_with fail
              go_roundw
              case rel => exact ⟨i + 1, by omega, by go_num, by rw [HS2.out]; rfl, H.out.drewN _⟩
              case measure => simp [intOf]; omega
            · have te : ((x[i].toNat : Int) == (y[i].toNat : Int)) = false := by rw [beq_eq_false_iff_ne]; intro e; exact he (UInt8.toNat_inj.1 (by omega))
              have te1 : ((x[i].toNat : Int) != (y[i].toNat : Int)) = true := by rw [bne, te]; rfl
              have HS2 := Lib.hid (HS.out.trans (by rw [if_neg he]))
              clear he
              go_wp2_with fail
              go_quiet (fail)
              go_wp2_with fail
              go_roundw
              case rel => exact ⟨i + 1, by omega, by go_num, by rw [HS2.out]; go_num, H.out.drewN _⟩
              case measure => simp [intOf]; omega
          · obtain rfl : i = x.size := by omega
            obtain ⟨kb0_0, kb0_1, kb0_2, kb0_3, kb0_4, kb0_5, kb0_6⟩ := (H.out.blkAt 1 rfl).c7
            have hco := HCO.out
            have hD := HD.out
            generalize difN x.data.toList y.data.toList x.size = dn at *
            have hot : R.ot = ((R.ot.toNat : Nat) : Int) := by omega
            have hm : dn * R.ot.toNat ≤ 12 * 100 := Nat.mul_le_mul (by omega) (by omega)
            have hmi : (dn : Int) * R.ot = ((dn * R.ot.toNat : Nat) : Int) := by rw [Int.natCast_mul, ← hot]
            have e1 : IntKind.i64.wrap ((dn : Int) * R.ot) = (dn : Int) * R.ot := IntWalk.i64_in _ (by rw [hmi]; omega)
            have p2 : ((cR R x y 0 0 : Nat) : Int) ≤ (dn : Int) * R.ot := by rw [hmi]; omega
            have HX := Lib.hid hco
            clear hco hD hot hm hmi
            go_wp2_with (go_at_call 18; (refine (awake_any _).mono ?_); rintro e wA ⟨rfl, hbA⟩; have SA := Lib.hid (H.out.bel.trans (hbA.mono H.out.bel.size)); clear hbA)
            go_ret
            exact ⟨rfl, SA.out⟩
    · have tz : ((x.size : Int) == (y.size : Int)) = false := by rw [beq_eq_false_iff_ne]; omega
      have tz1 : ((x.size : Int) != (y.size : Int)) = true := by rw [bne, tz]; rfl
      clear hsz
      go_wp2_with (first | (go_at_call 18; (refine (awake_any _).mono ?_); rintro e wA ⟨rfl, hbA⟩; have SA := Lib.hid (S7.out.bel.trans (hbA.mono S7.out.bel.size)); clear hbA))
      go_ret
      exact ⟨rfl, SA.out⟩
end Go.Proofs.YtkdflgaahhnigaaGreat

namespace Go.Proofs.YtkdflgaahhnigaaGreat.nameCheaper
open Go.ChangeShapes Go.WideShapes Go.ChangeAt Go.RowKit Go.Joins Go.Deep
open Go.ChangeMaps (open_string)

theorem own : ownKnob Tryz.prog.godebug = none := by kernel_rfl
theorem laidOut : laidOutB Tryz.prog = true := by kernel_rfl

set_option maxRecDepth 100000 in
theorem lifted (os : Os) (started : os.Started) (H : Type) (enc : TypeId × Value → H) :
    ReturnsInHanded {} Tryz.checked os 9 .any (Rows.nameCheaperSpec.pre6 enc Tryz.prog Tryz.f9 Rows.nameCheaperRow.domain false) (Rows.nameCheaperSpec.post enc Tryz.prog Tryz.f9 false true false false) := by
  refine returnsInHanded_of_change (C := Tryz.checked) own started (by kernel_rfl) Tryz.func9
    (ChangeSpec.witness6 (enc := enc) (C := Tryz.checked) false ⟨#[], #[.agg #[.slice none 0 0, .string ⟨#[]⟩, .int .i64 0, .int .i64 0, .int .i64 0, .int .i64 0, .int .i64 0], .string ⟨#[]⟩, .string ⟨#[]⟩, .int .u8 0, .int .u8 0], []⟩ 8 (by kernel_rfl) (by kernel_rfl) (by kernel_rfl) (by kernel_rfl)) ?_
  intro W base args ds gs before hval0 hW hcnd _
  have hval : ∀ (j : Nat) t v, Tryz.f9.params[j]? = some t → args[j]? = some v → Value.okWide Tryz.prog W .any base t v := hval0
  have hW' := hW
  obtain ⟨p, q, hA0, hV, rfl, hfz, hnd⟩ := hW
  have hA : DataW.TrodAll enc Tryz.prog W 0 (fun _ => true) true Tryz.f9.params.toList args.toList ds p := hA0
  rw [Tryz.params9] at hA hval
  obtain ⟨v0, vs0, d0, ds0, p0, q0, hargs, rfl, rfl, h0, r0⟩ := trodAll_cons hA
  obtain ⟨v1, vs1, d1, ds1, p1, q1, rfl, rfl, rfl, h1, r1⟩ := trodAll_cons r0
  obtain ⟨v2, vs2, d2, ds2, p2, q2, rfl, rfl, rfl, h2, r2⟩ := trodAll_cons r1
  obtain ⟨v3, vs3, d3, ds3, p3, q3, rfl, rfl, rfl, h3, r3⟩ := trodAll_cons r2
  obtain ⟨v4, vs4, d4, ds4, p4, q4, rfl, rfl, rfl, h4, r4⟩ := trodAll_cons r3
  obtain ⟨rfl, rfl, rfl⟩ := trodAll_nil r4
  obtain rfl : args = #[v0, v1, v2, v3, v4] := by cases args; simp_all
  obtain ⟨rfl, rfl⟩ := trodVars_none hV
  have k0 := h0
  have lt0 : ∀ x ∈ p0, x.block < W.heap.size := by obtain ⟨m, hm⟩ := k0; exact DataW.trod_lt m _ _ _ hm
  obtain ⟨a0, n0, c0, g0, o0, R0, rfl, sk0, hc0⟩ := open_rules (hval 0 24 v0 rfl rfl) h0
  have k1 := h1
  have lt1 : ∀ x ∈ p1, x.block < W.heap.size := by obtain ⟨m, hm⟩ := k1; exact DataW.trod_lt m _ _ _ hm
  obtain ⟨s1, rfl, rfl, rfl, w1⟩ := open_string Tryz.underlying9 (hval 1 9 v1 rfl rfl) h1
  have k2 := h2
  have lt2 : ∀ x ∈ p2, x.block < W.heap.size := by obtain ⟨m, hm⟩ := k2; exact DataW.trod_lt m _ _ _ hm
  obtain ⟨s2, rfl, rfl, rfl, w2⟩ := open_string Tryz.underlying9 (hval 2 9 v2 rfl rfl) h2
  have k3 := h3
  have lt3 : ∀ x ∈ p3, x.block < W.heap.size := by obtain ⟨m, hm⟩ := k3; exact DataW.trod_lt m _ _ _ hm
  obtain ⟨a3, rfl, rfl, rfl, w3⟩ := open_int Tryz.underlying5 (hval 3 5 v3 rfl rfl) h3
  have k4 := h4
  have lt4 : ∀ x ∈ p4, x.block < W.heap.size := by obtain ⟨m, hm⟩ := k4; exact DataW.trod_lt m _ _ _ hm
  obtain ⟨a4, rfl, rfl, rfl, w4⟩ := open_int Tryz.underlying5 (hval 4 5 v4 rfl rfl) h4
  clear hA0 hval0
  refine (NameCheaper_walk a0 g0 o0 c0 n0 R0 W sk0 hc0 s1 s2 a3 a4 w3 w4).mono fun e W' ⟨he, bel⟩ => ?_
  subst he
  exact ⟨_, rfl, _, _, _, [], _, [], hW', trodAll_mk1 (shut_bool Tryz.underlying4 _), (trodAll_cons_mk (Below.trod laidOut (by kernel_rfl) (of_decide_eq_true (by kernel_rfl)) k0 bel lt0) (trodAll_cons_mk (Below.trod laidOut (by kernel_rfl) (of_decide_eq_true (by kernel_rfl)) k1 bel lt1) (trodAll_cons_mk (Below.trod laidOut (by kernel_rfl) (of_decide_eq_true (by kernel_rfl)) k2 bel lt2) (trodAll_cons_mk (Below.trod laidOut (by kernel_rfl) (of_decide_eq_true (by kernel_rfl)) k3 bel lt3) (trodAll_cons_mk (Below.trod laidOut (by kernel_rfl) (of_decide_eq_true (by kernel_rfl)) k4 bel lt4) trodAll_mk0))))), rfl, bel.frame _, fun h => by cases h⟩

theorem over : Rows.nameCheaperRow.holds Tryz.pinned (OpenSpec.ofChange Rows.nameCheaperSpec) :=
  OpenClaim.holds_of_wide 9 Tryz.f9 rfl rfl rfl rfl rfl rfl rfl ⟨rfl, rfl, rfl, rfl, rfl⟩ rfl rfl rfl rfl rfl (by kernel_rfl) Tryz.func9 (by kernel_rfl)
    (of_decide_eq_true (by kernel_rfl)) (by unfold Func.isWrapper; first | (rw [if_pos (by decide +kernel)]; kernel_rfl) | (rw [if_neg (by decide +kernel)]; exact ⟨rfl, rfl⟩))
    (fun os started H enc _ => lifted os started H enc)
end Go.Proofs.YtkdflgaahhnigaaGreat.nameCheaper
namespace Go.Proofs.YtkdflgaahhnigaaGreat
/-- THE STATEMENT -/
theorem nameCheaper_holds : Rows.NameCheaperSaid := nameCheaper.over
#print axioms nameCheaper_holds
end Go.Proofs.YtkdflgaahhnigaaGreat
