/- Texts of package name, for this seat. -/
import Derived.Test.YtkdflgaahhnigaaC13
import Derived.Test.YtkdflgaahhnigaaC12
import Derived.Test.YtkdflgaahhnigaaC15
import Derived.ArgAppend
import Derived.Test.YtkdflgaahhnigaaC10
set_option linter.unusedVariables false
set_option linter.unusedSimpArgs false
namespace Go.Proofs.Ytkdflgaahhnigaa
open Go.RowKit Go.Shelf

/-- the first class that has the letter -/
def sndF : List (List UInt8) → UInt8 → UInt8
  | [], b => b
  | c :: cs, b => if b ∈ c then c.headD 0 else sndF cs b
theorem fold_keep (b : UInt8) : ∀ (cs : List (List UInt8)) (x : UInt8), (∀ c, c ∈ cs → b ∉ c) → cs.foldl (fun x c => if decide (b ∈ c) then c.headD 0 else x) x = x
  | [], _, _ => rfl
  | c :: cs, x, h => by
    rw [List.foldl_cons, decide_eq_false (h c (by simp))]
    exact fold_keep b cs x fun c hc => h c (List.mem_cons_of_mem _ hc)
theorem sndF_fold (b : UInt8) : ∀ (cs : List (List UInt8)), cs.flatten.Nodup → sndF cs b = cs.foldl (fun x c => if decide (b ∈ c) then c.headD 0 else x) b
  | [], _ => rfl
  | c :: cs, h => by
    rw [List.flatten_cons, List.nodup_append] at h
    rw [sndF, List.foldl_cons]
    by_cases hb : b ∈ c
    · rw [if_pos hb, decide_eq_true hb]
      refine (fold_keep b cs _ fun c2 hc2 hb2 => ?_).symm
      exact h.2.2 b hb b (List.mem_flatten.2 ⟨c2, hc2, hb2⟩) rfl
    · rw [if_neg hb, decide_eq_false hb]
      exact sndF_fold b cs h.2.1
theorem sndF_snd {R : RB} (hg : Good R) (b : UInt8) : sndF (R.cls.map (·.data.toList)) b = sndR R b := by
  have hr := hg.rul
  simp only [rulB, distB, Bool.and_eq_true, decide_eq_true_eq] at hr
  exact sndF_fold b _ hr.1.1.1.2
theorem sndF_none {b : UInt8} : ∀ (cs : List (List UInt8)), (∀ c, c ∈ cs → b ∉ c) → sndF cs b = b
  | [], _ => rfl
  | c :: cs, h => by
    rw [sndF, if_neg (h c (by simp))]
    exact sndF_none cs fun c hc => h c (List.mem_cons_of_mem _ hc)
theorem sndF_at {b : UInt8} {c : List UInt8} : ∀ (cs : List (List UInt8)) (k : Nat), cs[k]? = some c → b ∈ c → (∀ j d, j < k → cs[j]? = some d → b ∉ d) → sndF cs b = c.headD 0
  | [], k, h, _, _ => by simp at h
  | d :: cs, 0, h, hb, _ => by simp at h; subst h; rw [sndF, if_pos hb]
  | d :: cs, k+1, h, hb, hn => by
    rw [sndF, if_neg (hn 0 d (by omega) (by simp))]
    exact sndF_at cs k (by simpa using h) hb fun j e hj he => hn (j + 1) e (by omega) (by simpa using he)
end Go.Proofs.Ytkdflgaahhnigaa

namespace Go.Proofs.Ytkdflgaahhnigaa
open Go.RowKit Go.Shelf

theorem run_append_keep {P : Program} (w : World) (base : Nat) (t ty e : TypeId) (i : TypeInfo) (z : Value) (bytes : Nat) (ht : P.underlying t = some (.slice e)) (hi : P.info? e = some i) (hz : i.zero = some z)
    (hsize : i.size = 1) (hby : i.bytes = bytes) (hzs : z.cells.size = 1) (g k cap : Nat) (xs : List Value) (hown : w.ownsRow base e 1 (.slice (some ⟨g, 0, none⟩) k cap) k xs)
    (nb : Nat) (x : Value) (hcell : w.cell? ⟨nb, 0, none⟩ = some x) (h1 : x.oneCell' = true) (h63 : k + 1 ≤ maxLen) (hbytes : (k + 1) * bytes ≤ 140737488355328) (hbase : base ≤ w.heap.size) :
    ∃ g' cap' w', (Builtin.append_ #[t, t] ty #[.slice (some ⟨g, 0, none⟩) k cap, .slice (some ⟨nb, 0, none⟩) 1 1]).run P w = .ok (.slice (some ⟨g', 0, none⟩) (k + 1) cap') w' ∧
      w'.ownsRow base e 1 (.slice (some ⟨g', 0, none⟩) (k + 1) cap') (k + 1) (xs ++ [x]) ∧ w.grownBy w' (some g) ∧ ∀ j, j < k → w'.cell? ⟨g, j, none⟩ = w.cell? ⟨g, j, none⟩ := by
  have hl : ([x] : List Value).length = 1 * 1 := rfl
  have hnews : ∀ j u, ([x] : List Value)[j]? = some u → w.cell? ((⟨nb, 0, none⟩ : Addr).add j) = some u := fun j u hj => by
    have hj0 : j = 0 := by have := (List.getElem?_eq_some_iff.1 hj).1; simpa using this
    subst hj0
    simp at hj
    subst hj
    simpa [Addr.add] using hcell
  have h1c : ∀ u ∈ ([x] : List Value), u.oneCell' = true := fun u hu => by simp at hu; subst hu; exact h1
  have hlt := hown.lt g rfl
  by_cases hroom : k + 1 ≤ cap
  · obtain ⟨v', w', hrun, r1, r2, _⟩ := run_append_own (P := P) w base t ty e i z 1 bytes ht hi hz hsize hby hzs (by decide) _ k xs hown ⟨nb, 0, none⟩ 1 1 [x] hl hnews h1c h63 hbytes hbase
    have hsome : (w.cell? ⟨g, k, none⟩).isSome = true := by
      rcases hown.2 with ⟨h', _⟩ | ⟨g', cap', cur, h', _, hg, _, _, hsz, _⟩
      · simp at h'
      · simp only [Value.slice.injEq, Option.some.injEq, Addr.mk.injEq, and_true, true_and] at h'
        obtain ⟨rfl, rfl⟩ := h'
        rw [cell_of_row w g k cur e (0, 0) hg, Array.getElem?_eq_getElem (by omega)]; rfl
    have hrun2 := run_append_room_cells (P := P) w t ty e i ht hi g 0 k cap ⟨nb, 0, none⟩ 1 1 [x] (by rw [hsize]; rfl) hnews h1c hroom
      (fun j hj => by have : j = 0 := by simpa using hj
                      subst this; rw [hsize]; simpa using hsome) (fun j hj => by rw [hsize]; simpa using hown.frozenAt (0 + k * 1 + j))
    rw [hrun2] at hrun
    cases hrun
    refine ⟨g, cap, _, hrun2, r1, r2, fun j hj => ?_⟩
    exact World.cell?_setCells_out _ _ _ _ _ (fun _ _ => by left; rw [hsize]; simp; omega)
  · have holds : ∀ j u, xs[j]? = some u → w.cell? ((⟨g, 0, none⟩ : Addr).add j) = some u := fun j u hj => hown.cells rfl j u hj
    obtain ⟨v', w', hrun, r1, r2⟩ := run_append_arg_grows (P := P) w t ty e i z 1 bytes ht hi hz hsize hby hzs (by decide) ⟨g, 0, none⟩ k cap xs (by have := hown.1; omega) holds ⟨nb, 0, none⟩ 1 1 [x] hl hnews (by omega) h63 hbytes
    obtain ⟨g', cap', rfl⟩ := Joins.ownsRow_form r1 (by omega)
    exact ⟨g', cap', w', hrun, r1.mono hbase, ⟨r2.os, r2.tape, r2.output, r2.size, fun q hq _ => r2.block q hq (by simp)⟩, fun j hj => World.cell?_of_block (r2.block g hlt.2 (by simp))⟩
theorem step_append_keep {P : Program} {ops : Array Oper} {o : Oper} {a : Act} {w : World} {K : Act → World → Prop} {Q : Exit → Act → World → Prop} {E : Prop} (hgd : o.guard = none) (s y : Operand) (t : TypeId)
    (ho : o.op = .call { callee := .builtin .append, args := #[s, y], argTypes := #[t, t] })
    (base : Nat) (e : TypeId) (i : TypeInfo) (z : Value) (bytes : Nat) (ht : P.underlying t = some (.slice e)) (hi : P.info? e = some i) (hz : i.zero = some z)
    (hsize : i.size = 1) (hby : i.bytes = bytes) (hzs : z.cells.size = 1) (g k cap : Nat) (xs : List Value) (hs : a.eval s = .slice (some ⟨g, 0, none⟩) k cap) (hown : w.ownsRow base e 1 (.slice (some ⟨g, 0, none⟩) k cap) k xs)
    (nb : Nat) (x : Value) (hy : a.eval y = .slice (some ⟨nb, 0, none⟩) 1 1) (hcell : w.cell? ⟨nb, 0, none⟩ = some x) (h1 : x.oneCell' = true) (h63 : k + 1 ≤ maxLen) (hbytes : (k + 1) * bytes ≤ 140737488355328) (hbase : base ≤ w.heap.size)
    (h : ∀ g' cap' w', w'.ownsRow base e 1 (.slice (some ⟨g', 0, none⟩) (k + 1) cap') (k + 1) (xs ++ [x]) → w.grownBy w' (some g) → (∀ j, j < k → w'.cell? ⟨g, j, none⟩ = w.cell? ⟨g, j, none⟩) → K (a.put o.dst (.slice (some ⟨g', 0, none⟩) (k + 1) cap')) w') :
    if Region.wanted o (yielded ops a.tmps) = true then Oper.wp P o a w K Q else E := by
  have hw : Region.wanted o (yielded ops a.tmps) = true := by simp [Region.wanted, hgd]
  rw [if_pos hw]
  obtain ⟨g', cap', w', hrun, r1, r2, r3⟩ := run_append_keep (P := P) w base t o.type e i z bytes ht hi hz hsize hby hzs g k cap xs hown nb x hcell h1 h63 hbytes hbase
  unfold Oper.wp
  simp [execOp, ho, resolve, invoke, builtin, hs, hy, hrun, Result.andThen]
  exact h _ _ _ r1 r2 r3
/-- a row of numbers that is read -/
def RowC (W : World) (g : Nat) (l : List Nat) : Prop := g < W.heap.size ∧ ∀ (j x : Nat), l[j]? = some x → W.cell? ⟨g, j, none⟩ = some (.int .i64 (x : Int))
theorem RowC.below {W W' : World} {g : Nat} {l : List Nat} (h : RowC W g l) (hb : Below W.heap.size W W') : RowC W' g l := ⟨Nat.lt_of_lt_of_le h.1 hb.size, fun j x e => (hb.cell (p := ⟨g, j, none⟩) h.1).trans (h.2 j x e)⟩
theorem RowC.grown {W W' : World} {g : Nat} {l : List Nat} {row : Option Nat} (h : RowC W g l) (hg : W.grownBy W' row) (hne : some g ≠ row) : RowC W' g l :=
  ⟨Nat.lt_of_lt_of_le h.1 hg.size, fun j x e => (World.cell?_of_block (hg.block g h.1 hne)).trans (h.2 j x e)⟩
theorem RowC.same {W W' : World} {g k : Nat} {l : List Nat} (h : RowC W g l) (hl : l.length ≤ k) (hs : W.heap.size ≤ W'.heap.size) (hc : ∀ j, j < k → W'.cell? ⟨g, j, none⟩ = W.cell? ⟨g, j, none⟩) : RowC W' g l :=
  ⟨Nat.lt_of_lt_of_le h.1 hs, fun j x e => (hc j (by have := (List.getElem?_eq_some_iff.1 e).1; omega)).trans (h.2 j x e)⟩
theorem RowC.own {W : World} {B g k cap : Nat} {l : List Nat} (h : W.ownsRow B 3 1 (.slice (some ⟨g, 0, none⟩) k cap) k (natsV l)) : RowC W g l :=
  ⟨(h.lt g rfl).2, fun j x e => by
    have hj := (List.getElem?_eq_some_iff.1 e).1
    have hk : l.length = k := by have := h.1; simpa [natsV] using this
    rw [h.cellAt j (by omega), natsV, List.getElem?_map, e]; rfl⟩
end Go.Proofs.Ytkdflgaahhnigaa

namespace Go.Proofs.Ytkdflgaahhnigaa
open Go.RowKit Go.Shelf

theorem pf_le {sw : Nat → Nat → Nat} {sa sb : Nat → Nat} (c : Nat) (h1 : ∀ i j, sw i j ≤ c) (h2 : ∀ i, sa i ≤ c) (h3 : ∀ i, sb i ≤ c) : ∀ i j, Nm.pf sw sa sb i j ≤ c * (i + j)
  | 0, 0 => by simp [Nm.pf]
  | 0, j+1 => by
    have := pf_le c h1 h2 h3 0 j
    have := h3 j
    rw [Nm.pf, ← Nat.add_assoc, Nat.mul_add]; omega
  | i+1, j => by
    have h := Nm.pf_sa (sw := sw) (sa := sa) (sb := sb) i j
    have := pf_le c h1 h2 h3 i j
    have := h2 i
    rw [Nat.add_right_comm, Nat.mul_add]; omega
def FR (R : RB) (x y : ByteArray) (i j : Nat) : Nat := Nm.pf (SW (sndR R) R.al.toNat R.ot.toNat x y) (SA R.soft R.sk.toNat R.ss.toNat R.db.toNat x) (SA R.soft R.sk.toNat R.ss.toNat R.db.toNat y) i j
def SAR (R : RB) (x : ByteArray) (i : Nat) : Nat := SA R.soft R.sk.toNat R.ss.toNat R.db.toNat x i
def SWR (R : RB) (x y : ByteArray) (i j : Nat) : Nat := SW (sndR R) R.al.toNat R.ot.toNat x y i j
theorem SAR_le {R : RB} (hg : Good R) (x : ByteArray) (i : Nat) : SAR R x i ≤ 100 := by
  have := hg.cos
  exact skN_le _ _ _ _ _ _ (by omega) (by omega) (by omega)
theorem SWR_le {R : RB} (hg : Good R) (x y : ByteArray) (i j : Nat) : SWR R x y i j ≤ 100 := by
  have := hg.cos
  exact swN_le _ _ _ _ _ (by omega) (by omega)
theorem FR_le {R : RB} (hg : Good R) (x y : ByteArray) (i j : Nat) : FR R x y i j ≤ 100 * (i + j) := pf_le 100 (fun i j => SWR_le hg x y i j) (fun i => SAR_le hg x i) (fun i => SAR_le hg y i) i j
theorem FR_00 (R : RB) (x y : ByteArray) : FR R x y 0 0 = 0 := by unfold FR; rw [Nm.pf]
theorem FR_0s (R : RB) (x y : ByteArray) (j : Nat) : FR R x y 0 (j + 1) = FR R x y 0 j + SAR R y j := by unfold FR; rw [Nm.pf]; rfl
theorem FR_s0 (R : RB) (x y : ByteArray) (i : Nat) : FR R x y (i + 1) 0 = FR R x y i 0 + SAR R x i := by unfold FR; rw [Nm.pf]; rfl
theorem FR_ss (R : RB) (x y : ByteArray) (i j : Nat) : FR R x y (i + 1) (j + 1) = min (FR R x y i j + SWR R x y i j) (min (FR R x y i (j + 1) + SAR R x i) (FR R x y (i + 1) j + SAR R y j)) := by unfold FR; rw [Nm.pf]; rfl
theorem FR_cR (R : RB) (x y : ByteArray) : FR R x y x.size y.size = cR R x y 0 0 := (cR_pf R x y).symm
/-- the first k of a row -/
def rowL (f : Nat → Nat) (k : Nat) : List Nat := (List.range k).map f
theorem rowL_len (f : Nat → Nat) (k : Nat) : (rowL f k).length = k := by simp [rowL]
theorem rowL_get (f : Nat → Nat) {k j : Nat} (h : j < k) : (rowL f k)[j]? = some (f j) := by simp [rowL, h]
theorem rowL_snoc (f : Nat → Nat) (k : Nat) : natsV (rowL f k) ++ [.int .i64 ((f k : Nat) : Int)] = natsV (rowL f (k + 1)) := by simp [rowL, natsV, List.range_succ]
end Go.Proofs.Ytkdflgaahhnigaa
