/- MissAreas: rows of areas that are appended from. -/
import Derived.Test.YtkfobnhnehbkeaaAreas
import Derived.Test.YtkfobnhnehbkeaaAreP
import Derived.Deep.Slices
set_option linter.unusedVariables false
set_option linter.unusedSimpArgs false
namespace Go.Proofs.Ytkfobnhnehbkeaa
open Go.RowKit Go.Shelf

theorem cellsA_len (xs : List A4) : (cellsA xs).length = xs.length * 4 := by
  induction xs with
  | nil => rfl
  | cons x xs ih => simp [cellsA] at *; omega
theorem cellsA_append (xs ys : List A4) : cellsA (xs ++ ys) = cellsA xs ++ cellsA ys := by simp [cellsA]
theorem cellsA_one (xs : List A4) : ∀ u ∈ cellsA xs, u.oneCell' = true := by
  intro u hu
  simp only [cellsA, List.mem_flatMap] at hu
  obtain ⟨a, _, h⟩ := hu
  simp at h
  rcases h with rfl | rfl | rfl | rfl <;> rfl
theorem add_at2 (b o n : Nat) : (⟨b, o, none⟩ : Addr).add n = ⟨b, o + n, none⟩ := by
  by_cases h : n = 0
  · subst h; simp [Addr.add]
  · simp [Addr.add, h]
/-- a row of areas, read cell by cell -/
theorem reads_areas {W : World} {g o : Nat} {xs : List A4} (h : AreasAt W g o xs) : ∀ (j : Nat) (u : Value), (cellsA xs)[j]? = some u → W.cell? ((⟨g, o, none⟩ : Addr).add j) = some u := by
  intro j u hj
  have hlt := (List.getElem?_eq_some_iff.1 hj).1
  rw [cellsA_len] at hlt
  obtain ⟨i, r, hr, rfl⟩ : ∃ i r, r < 4 ∧ j = i * 4 + r := ⟨j / 4, j % 4, by omega, by omega⟩
  obtain ⟨a, ha⟩ : ∃ a, xs[i]? = some a := ⟨_, List.getElem?_eq_getElem (by omega)⟩
  obtain ⟨q0, q1, q2, q3⟩ := cellsA_get xs i a ha
  obtain ⟨k0, k1, k2, k3⟩ := h i a ha
  rw [add_at2]
  match r, hr with
  | 0, _ => rw [Nat.add_zero] at hj ⊢; rw [hj] at q0; cases q0; exact k0
  | 1, _ => rw [hj] at q1; cases q1; rw [← Nat.add_assoc]; exact k1
  | 2, _ => rw [hj] at q2; cases q2; rw [← Nat.add_assoc]; exact k2
  | 3, _ => rw [hj] at q3; cases q3; rw [← Nat.add_assoc]; exact k3
theorem step_append_own {P : Program} {ops : Array Oper} {o : Oper} {a : Act} {w : World} {K : Act → World → Prop} {Q : Exit → Act → World → Prop} {E : Prop} (hgd : o.guard = none) (s x : Operand) (t : TypeId)
    (ho : o.op = .call { callee := .builtin .append, args := #[s, x], argTypes := #[t, t] })
    (base : Nat) (e : TypeId) (i : TypeInfo) (z : Value) (size bytes : Nat) (ht : P.underlying t = some (.slice e)) (hi : P.info? e = some i) (hz : i.zero = some z)
    (hsize : i.size = size) (hby : i.bytes = bytes) (hzs : z.cells.size = size) (hsz : 0 < size)
    (v : Value) (n : Nat) (xs : List Value) (hs : a.eval s = v) (hown : w.ownsRow base e size v n xs)
    (ad : Addr) (m c : Nat) (news : List Value) (hx : a.eval x = .slice (some ad) m c) (hl : news.length = m * size) (hnews : ∀ j u, news[j]? = some u → w.cell? (ad.add j) = some u) (h1 : ∀ u ∈ news, u.oneCell' = true)
    (h63 : n + m ≤ maxLen) (hbytes : (n + m) * bytes ≤ 140737488355328) (hbase : base ≤ w.heap.size)
    (h : ∀ v' w', w'.ownsRow base e size v' (n + m) (xs ++ news) → w.grownBy w' v.ownBlock → (v' = .slice none 0 0 ↔ v = .slice none 0 0 ∧ m = 0) → K (a.put o.dst v') w') :
    if Region.wanted o (yielded ops a.tmps) = true then Oper.wp P o a w K Q else E := by
  have hw : Region.wanted o (yielded ops a.tmps) = true := by simp [Region.wanted, hgd]
  rw [if_pos hw]
  exact wp_append_own w s x t ho base e i z size bytes ht hi hz hsize hby hzs hsz v n xs hs hown ad m c news hx hl hnews h1 h63 hbytes hbase h
/-- an own row's areas -/
theorem own_areas {W : World} {base g n c : Nat} {e : TypeId} {xs : List A4} (h : W.ownsRow base e 4 (.slice (some ⟨g, 0, none⟩) n c) n (cellsA xs)) (hn : xs.length = n) : AreasAt W g 0 xs := by
  intro i a ha
  have hi := (List.getElem?_eq_some_iff.1 ha).1
  obtain ⟨q0, q1, q2, q3⟩ := cellsA_get xs i a ha
  rw [Nat.zero_add]
  exact ⟨by rw [h.cellAt _ (by omega), q0], by rw [h.cellAt _ (by omega), q1], by rw [h.cellAt _ (by omega), q2], by rw [h.cellAt _ (by omega), q3]⟩
theorem areas_drop {W : World} {g o : Nat} {xs : List A4} (h : AreasAt W g o xs) (k : Nat) : AreasAt W g (o + k * 4) (xs.drop k) := by
  intro i a ha
  rw [List.getElem?_drop] at ha
  have h2 := h (k + i) a ha
  rw [show o + k * 4 + i * 4 = o + (k + i) * 4 by omega]
  exact h2
theorem areas_take {W : World} {g o : Nat} {xs : List A4} (h : AreasAt W g o xs) (k : Nat) : AreasAt W g o (xs.take k) := by
  intro i a ha
  rw [List.getElem?_take] at ha
  split at ha
  · exact h i a ha
  · cases ha
theorem tInfo23 : (Try.prog.info? 23).map (fun i => (i.zero, i.size, i.bytes)) = some (some (areaV 0 0 0 0), 4, 32) := by kernel_rfl
/-- areas appended to an own row of areas, out of whatever list -/
theorem step_append_areas {ops : Array Oper} {o : Oper} {a : Act} {w : World} {K : Act → World → Prop} {Q : Exit → Act → World → Prop} {E : Prop} (hgd : o.guard = none) (s x : Operand)
    (ho : o.op = .call { callee := .builtin .append, args := #[s, x], argTypes := #[46, 46] }) (base n m c : Nat) (v : Value) (xs ys : List A4) (sa : Option Addr) (hs : a.eval s = v) (hx : a.eval x = .slice sa m c)
    (hn : xs.length = n) (hm : ys.length = m) (hown : w.ownsRow base 23 4 v n (cellsA xs)) (hnil : sa = none → m = 0 ∧ c = 0) (hread : ∀ adr, sa = some adr → ∀ (j : Nat) (u : Value), (cellsA ys)[j]? = some u → w.cell? (adr.add j) = some u)
    (hb : n + m ≤ 100) (hbase : base ≤ w.heap.size)
    (h : ∀ v' w', w'.ownsRow base 23 4 v' (n + m) (cellsA (xs ++ ys)) → w.grownBy w' v.ownBlock → K (a.put o.dst v') w') :
    if Region.wanted o (yielded ops a.tmps) = true then Oper.wp Try.prog o a w K Q else E := by
  obtain ⟨i0, hi, hz0, hz1, hz2⟩ := info_parts tInfo23
  cases sa with
  | none =>
    obtain ⟨rfl, rfl⟩ := hnil rfl
    have hys : ys = [] := List.eq_nil_of_length_eq_zero hm
    subst hys
    have hw : Region.wanted o (yielded ops a.tmps) = true := by simp [Region.wanted, hgd]
    rw [if_pos hw]
    have hrun := run_append_owned_none (P := Try.prog) (w := w) base 46 o.type 23 i0 4 Try.underlying46 hi v n (cellsA xs) hown
    unfold Oper.wp
    simp [execOp, ho, resolve, invoke, builtin, hs, hx, hrun, Result.andThen]
    exact h v w (by rw [List.append_nil, Nat.add_zero]; exact hown) ⟨rfl, rfl, rfl, Nat.le_refl _, fun _ _ _ => rfl⟩
  | some adr =>
    exact step_append_own hgd s x 46 ho base 23 i0 _ 4 32 Try.underlying46 hi hz0 hz1 hz2 rfl (by decide) v n (cellsA xs) hs hown adr m c (cellsA ys) hx (by rw [cellsA_len, hm]) (hread adr rfl) (cellsA_one ys) (by unfold maxLen; omega) (by omega) hbase
      (fun v' w' h1 h2 _ => h v' w' (by rw [cellsA_append]; exact h1) h2)
end Go.Proofs.Ytkfobnhnehbkeaa
