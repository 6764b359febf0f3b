/- A whole array read out of a block that is known whole, and stored into it: at a step of a region too. -/
import Derived.Test.YtkfobnhnehbkeaaBlk
import Derived.Laws.IdiomCopy
import Derived.Deep.MidRow
namespace Go.Proofs.Ytkfobnhnehbkeaa
open Go.RowKit

def putAt : Array Value → Nat → List Value → Array Value
  | cs, _, [] => cs
  | cs, o, v :: r => putAt (cs.setIfInBounds o v) (o + 1) r
theorem putAt_size : ∀ (vs : List Value) (cs : Array Value) (o : Nat), (putAt cs o vs).size = cs.size
  | [], _, _ => rfl
  | v :: r, cs, o => by rw [putAt, putAt_size r]; simp
theorem putAt_get : ∀ (vs : List Value) (cs : Array Value) (o i : Nat), o + vs.length ≤ cs.size → (putAt cs o vs)[i]? = if o ≤ i ∧ i < o + vs.length then vs[i - o]? else cs[i]?
  | [], cs, o, i, _ => by rw [putAt, if_neg (by simp only [List.length_nil]; omega)]
  | v :: r, cs, o, i, h => by
    simp only [List.length_cons] at h
    rw [putAt, putAt_get r _ _ _ (by simp; omega)]
    by_cases h1 : i = o
    · subst h1
      rw [if_neg (by omega), if_pos (by simp), Array.getElem?_setIfInBounds]
      simp; omega
    · by_cases h2 : o + 1 ≤ i ∧ i < o + 1 + r.length
      · rw [if_pos h2, if_pos (by simp; omega)]
        rw [show i - o = (i - (o + 1)) + 1 by omega, List.getElem?_cons_succ]
      · rw [if_neg h2, if_neg (by simp; omega), Array.getElem?_setIfInBounds, if_neg (by omega)]
theorem putAt_full (cs : Array Value) (vs : List Value) (h : vs.length = cs.size) : putAt cs 0 vs = vs.toArray := by
  apply Array.ext_getElem?
  intro i
  rw [putAt_get _ _ _ _ (by omega)]
  by_cases hi : i < vs.length
  · rw [if_pos (by omega)]; simp
  · rw [if_neg (by omega), Array.getElem?_eq_none (by omega), Array.getElem?_eq_none (by simp; omega)]
theorem Blk.setCells {b : Nat} {t : TypeId} : ∀ (vs : List Value) (o : Nat) {W : World} {cs : Array Value}, Blk W b cs t → Blk (W.setCells b o vs) b (putAt cs o vs) t
  | [], _, _, _, h => h
  | v :: r, o, _, _, h => Blk.setCells r (o + 1) (h.set o v)
theorem grownBy_setCells (b : Nat) : ∀ (vs : List Value) (o : Nat) (W : World), W.grownBy (W.setCells b o vs) (some b)
  | [], _, W => World.grownBy.refl W _
  | v :: r, o, W => ((⟨rfl, rfl, rfl, by simp [World.setCell], fun k _ hr => Below.heap_setCell _ _ _ k (by simpa using hr)⟩ : W.grownBy (W.setCell ⟨b, o, none⟩ v) (some b))).trans' (grownBy_setCells b r (o + 1) _)

section
variable {P : Program} {ops : Array Oper} {o : Oper} {a : Act} {w : World} {K : Act → World → Prop} {Q : Exit → Act → World → Prop}
theorem wp_store_row (ty : TypeId) (x y : Operand) (ho : o.op = .store ty x y) (g : Nat) (hx : a.eval x = .pointer (some ⟨g, 0, none⟩)) (t : TypeId) (cs vs : Array Value) (hy : a.eval y = .agg vs)
    (hg : Blk w g cs t) (hi : (P.info? ty).map (·.size) = some cs.size) (hs : vs.size = cs.size) (h1 : ∀ v ∈ vs.toList, v.oneCell' = true)
    (h : ∀ w', Blk w' g vs t → w.grownBy w' (some g) → K (a.put o.dst undef) w') : o.wp P a w K Q := by
  have hrun := run_storeCells_cells (P := P) g 0 vs.toList 0 w (fun j hj => by
    have hj' : j < cs.size := by simpa [hs] using hj
    have := hg.cell j; simp only [Nat.zero_add] at *; rw [this]; simp [hj']) (fun j _ => by simpa using hg.frozen j) h1
  have hfull : putAt cs 0 vs.toList = vs := by rw [putAt_full _ _ (by simpa using hs)]
  have hb := Blk.setCells vs.toList 0 hg
  rw [hfull] at hb
  cases hq : P.info? ty with
  | none => simp [hq] at hi
  | some i =>
    have hsz : i.size = cs.size := by simpa [hq] using hi
    unfold Oper.wp execOp
    simp [ho, hx, hy, Instr.storeAt, Instr.sureAddr, storeVar, Value.cells, sizeOf, typeInfo, hq, hsz, hs, hrun, Sem.run_bind, Result.andThen]
    exact h _ hb (grownBy_setCells g _ _ _)
theorem step_store_row {E : Prop} (hgd : o.guard = none) (ty : TypeId) (x y : Operand) (ho : o.op = .store ty x y) (g : Nat) (hx : a.eval x = .pointer (some ⟨g, 0, none⟩)) (t : TypeId) (cs vs : Array Value) (hy : a.eval y = .agg vs)
    (hg : Blk w g cs t) (hi : (P.info? ty).map (·.size) = some cs.size) (hs : vs.size = cs.size) (h1 : ∀ v ∈ vs.toList, v.oneCell' = true)
    (h : ∀ w', Blk w' g vs t → w.grownBy w' (some g) → K (a.put o.dst undef) w') : if Region.wanted o (yielded ops a.tmps) = true then Oper.wp P o a w K Q else E := by
  have hw : Region.wanted o (yielded ops a.tmps) = true := by simp [Region.wanted, hgd]
  rw [if_pos hw]
  exact wp_store_row ty x y ho g hx t cs vs hy hg hi hs h1 h
theorem step_load_row {E : Prop} (hgd : o.guard = none) (ty : TypeId) (x : Operand) (ho : o.op = .load ty x) (g : Nat) (hx : a.eval x = .pointer (some ⟨g, 0, none⟩)) (t : TypeId) (cs : Array Value) (d : TypeDesc)
    (hg : Blk w g cs t) (hu : P.underlying ty = some d) (hd : (match d with | .struct _ | .array _ _ => true | _ => false) = true) (hi : (P.info? ty).map (·.size) = some cs.size)
    (h : K (a.put o.dst (.agg cs)) w) : if Region.wanted o (yielded ops a.tmps) = true then Oper.wp P o a w K Q else E := by
  have hw : Region.wanted o (yielded ops a.tmps) = true := by simp [Region.wanted, hgd]
  rw [if_pos hw]
  exact wp_load_row ty x ho g hx t cs (0, 0) d hg hu hd hi h
theorem wpList_store_row {rest : List Oper} (hgd : o.guard = none) (ty : TypeId) (x y : Operand) (ho : o.op = .store ty x y) (g : Nat) (hx : a.eval x = .pointer (some ⟨g, 0, none⟩)) (t : TypeId) (cs vs : Array Value) (hy : a.eval y = .agg vs)
    (hg : Blk w g cs t) (hi : (P.info? ty).map (·.size) = some cs.size) (hs : vs.size = cs.size) (h1 : ∀ v ∈ vs.toList, v.oneCell' = true)
    (h : ∀ w', Blk w' g vs t → w.grownBy w' (some g) → wpList P ops Q rest (a.put o.dst undef) w') : wpList P ops Q (o :: rest) a w :=
  wpList_plain hgd fun _ hK => wp_store_row ty x y ho g hx t cs vs hy hg hi hs h1 fun w' h1 h2 => hK _ _ (h w' h1 h2)
end
theorem Blk.range {W : World} {b : Nat} {cs : List Value} {t : TypeId} (h : Blk W b cs.toArray t) : W.rangeAt b 0 cs := fun j v hv => by
  rw [Nat.zero_add, h.cell j]; simpa using hv
theorem Blk.there {W : World} {b : Nat} {cs : List Value} {t : TypeId} (h : Blk W b cs.toArray t) : W.there b 0 cs.length := fun j hj => by
  rw [Nat.zero_add, h.cell j, h.frozen j]; simp [hj]
/-- behind a row's store: other blocks' cells, the row itself -/
theorem cell_setCells_far {W : World} {a : Addr} {v : Value} (h : W.cell? a = some v) (b o : Nat) (vs : List Value) (hne : a.block ≠ b) : (W.setCells b o vs).cell? a = some v := by
  rw [World.cell?_setCells_out _ _ _ _ _ (fun h1 => absurd h1 hne)]; exact h
theorem cell_setCell_far {W : World} {b : Addr} {v : Value} (h : W.cell? b = some v) (a : Addr) (x : Value) (hne : b.block ≠ a.block) : (W.setCell a x).cell? b = some v := by
  rw [World.cell?_setCell_other _ _ _ _ (fun e => hne (by rw [e]))]; exact h
theorem Blk.setCellsSame {W : World} {b : Nat} {cs : List Value} {t : TypeId} (h : Blk W b cs.toArray t) : Blk (W.setCells b 0 cs) b cs.toArray t := by
  have := h.setCells cs 0
  rwa [putAt_full _ _ (by simp)] at this
theorem tArr119 : Try.prog.underlying 119 = some (.array (Try.prog.arrayLen 119) (Try.prog.elem 119)) := by simp [Program.arrayLen, Program.elem, Try.underlying119]
theorem tLen119 : Try.prog.arrayLen 119 = 51 := by simp [Program.arrayLen, Try.underlying119]
theorem tElem119 : Try.prog.elem 119 = 3 := by simp [Program.elem, Try.underlying119]
theorem tSizeOf3 (W : World) : (sizeOf 3).run Try.prog W = .ok 1 W := by kernel_rfl
/-- a slice of the array of the chances -/
theorem slice119 (g a n : Nat) (lo hi : Int) (hlo : lo = a) (hhi : hi = (a : Int) + n) (h : a + n ≤ 51) (ha : a < 51) (W : World) :
    (Instr.sliceAt 119 (.pointer (some ⟨g, 0, none⟩)) (some (.int .i64 lo)) (some (.int .i64 hi)) none).run Try.prog W = .ok (.slice (some ⟨g, a, none⟩) n (51 - a)) W := by
  subst hlo hhi
  rw [run_sliceAt_array_lh W 119 ⟨g, 0, none⟩ tArr119 .i64 .i64 _ _ (by omega) (by omega) (by rw [tLen119]; omega), tElem119, tSizeOf3, tLen119]
  simp only [Result.andThen_ok, slicedAt]
  rw [if_neg (by omega)]
  have e1 : ((a : Int) + (n : Int)).toNat - (a : Int).toNat = n := by omega
  have e2 : (a : Int).toNat = a := by omega
  rw [e1, e2, Addr.add_mid]
  simp
end Go.Proofs.Ytkfobnhnehbkeaa
