/- Texts of package name, for this seat. -/
import Derived.Test.YtkdflgaahhnigaaC14
set_option linter.unusedVariables false
set_option linter.unusedSimpArgs false
namespace Go.Proofs.Ytkdflgaahhnigaa
open Go.RowKit Go.Shelf

theorem step_append_own {P : Program} {ops : Array Oper} {o : Oper} {a : Act} {w : World} {K : Act → World → Prop} {Q : Exit → Act → World → Prop} {E : Prop} (hgd : o.guard = none) (s x : Operand) (t : TypeId)
    (ho : o.op = .call { callee := .builtin .append, args := #[s, x], argTypes := #[t, t] })
    (base : Nat) (e : TypeId) (i : TypeInfo) (z : Value) (size bytes : Nat) (ht : P.underlying t = some (.slice e)) (hi : P.info? e = some i) (hz : i.zero = some z)
    (hsize : i.size = size) (hby : i.bytes = bytes) (hzs : z.cells.size = size) (hsz : 0 < size)
    (v : Value) (n : Nat) (xs : List Value) (hs : a.eval s = v) (hown : w.ownsRow base e size v n xs)
    (ad : Addr) (m c : Nat) (news : List Value) (hx : a.eval x = .slice (some ad) m c) (hl : news.length = m * size) (hnews : ∀ j u, news[j]? = some u → w.cell? (ad.add j) = some u) (h1 : ∀ u ∈ news, u.oneCell' = true)
    (h63 : n + m ≤ maxLen) (hbytes : (n + m) * bytes ≤ 140737488355328) (hbase : base ≤ w.heap.size)
    (h : ∀ v' w', w'.ownsRow base e size v' (n + m) (xs ++ news) → w.grownBy w' v.ownBlock → (v' = .slice none 0 0 ↔ v = .slice none 0 0 ∧ m = 0) → K (a.put o.dst v') w') :
    if Region.wanted o (yielded ops a.tmps) = true then Oper.wp P o a w K Q else E := by
  have hw : Region.wanted o (yielded ops a.tmps) = true := by simp [Region.wanted, hgd]
  rw [if_pos hw]
  exact wp_append_own w s x t ho base e i z size bytes ht hi hz hsize hby hzs hsz v n xs hs hown ad m c news hx hl hnews h1 h63 hbytes hbase h
theorem SK.grownRow {W W' : World} {a : Option Addr} {g o : Nat} {row : Option Nat} {l : List ByteArray} (h : SK W a g o l) (hg : W.grownBy W' row) (hne : ∀ r, row = some r → l ≠ [] → g ≠ r) : SK W' a g o l := by
  refine ⟨h.1, fun i s e => ?_, fun hx => Nat.lt_of_lt_of_le (h.2.2 hx) hg.size⟩
  have hx : l ≠ [] := by rintro e2; rw [e2] at e; simp at e
  have hb := hg.block g (h.2.2 hx) (fun e2 => hne g e2.symm hx rfl)
  have := h.2.1 i s e
  simpa [World.cell?, hb] using this
theorem SKn.drop {W : World} {g o c n k : Nat} {l : List ByteArray} (h : SKn W (some ⟨g, o, none⟩) g o c n l) : SKn W (some ⟨g, o + k, none⟩) g (o + k) (c - k) (n - k) (l.drop k) := by
  refine ⟨by rw [List.length_drop, h.1], ⟨fun _ => rfl, fun i s e => ?_, fun hx => h.2.1.2.2 (fun e2 => hx (by rw [e2]; simp))⟩, fun e => by cases e⟩
  rw [List.getElem?_drop] at e
  have := h.2.1.2.1 _ _ e
  rwa [← Nat.add_assoc] at this
theorem SKn.take {W : World} {g o c n k : Nat} {l : List ByteArray} (hk : k ≤ n) (h : SKn W (some ⟨g, o, none⟩) g o c n l) : SKn W (some ⟨g, o, none⟩) g o c k (l.take k) := by
  refine ⟨by rw [List.length_take, h.1]; omega, ⟨fun _ => rfl, fun i s e => ?_, fun hx => h.2.1.2.2 (fun e2 => hx (by rw [e2]; simp))⟩, fun e => by cases e⟩
  have hi : i < k := by have := (List.getElem?_eq_some_iff.1 e).1; simp at this; omega
  rw [List.getElem?_take, if_pos hi] at e
  exact h.2.1.2.1 _ _ e
theorem KS1_rowg {w W W' : World} {rc : Array Value} {t : TypeId} {row : Option Nat} (h : KS w [(w.heap.size, rc, t)] W) (hg : W.grownBy W' row) {B : Nat} (hB : w.heap.size < B) (hr : ∀ r, row = some r → B ≤ r) : KS w [(w.heap.size, rc, t)] W' := KS1_row h hg fun r e => by have := hr r e; omega
theorem perm_rot (l : List ByteArray) (k : Nat) : l.Perm (l.drop k ++ l.take k) := by
  have h := List.perm_append_comm (l₁ := l.take k) (l₂ := l.drop k)
  rwa [List.take_append_drop] at h
def psum (R : RB) (x : ByteArray) (ys : List ByteArray) (j : Nat) : Nat := ((ys.take j).map fun y => cR R x y 0 0).sum
theorem psum_succ {R : RB} {x y : ByteArray} {ys : List ByteArray} {j : Nat} (h : ys[j]? = some y) : psum R x ys (j + 1) = psum R x ys j + cR R x y 0 0 := by
  unfold psum
  rw [List.take_add_one, h]; simp
theorem psum_all {R : RB} {x : ByteArray} {ys : List ByteArray} {j : Nat} (h : ys.length ≤ j) : psum R x ys j = toX R x ys := by
  unfold psum toX
  rw [List.take_of_length_le h]
theorem psum_le {R : RB} (hg : Good R) {x : ByteArray} {ys : List ByteArray} (hx : x.size ≤ 12) (hn : NmsOk ys) : ∀ j, psum R x ys j ≤ 2400 * j
  | 0 => by simp [psum]
  | j+1 => by
    have ih := psum_le hg hx hn j
    cases e : ys[j]? with
    | none =>
      have : psum R x ys (j + 1) = psum R x ys j := by unfold psum; rw [List.take_add_one, e]; simp
      omega
    | some y =>
      have := cR_le hg hx (hn y (List.mem_of_getElem? e)).1 0 0
      rw [psum_succ e]; omega
end Go.Proofs.Ytkdflgaahhnigaa
