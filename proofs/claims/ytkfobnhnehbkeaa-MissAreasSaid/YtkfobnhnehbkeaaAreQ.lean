/- MissAreas: the four calls, and what their results are to each other. -/
import Derived.Test.YtkfobnhnehbkeaaAreR
set_option linter.unusedVariables false
set_option linter.unusedSimpArgs false
namespace Go.Proofs.Ytkfobnhnehbkeaa
open Go.RowKit Go.Shelf

/-- a list of areas of the call's own -/
def AK (W : World) (a : Option Addr) (g : Nat) (xs : List A4) : Prop := (xs ≠ [] → a = some ⟨g, 0, none⟩) ∧ AreasAt W g 0 xs ∧ (xs ≠ [] → g < W.heap.size)
section
variable {W W' : World} {a : Option Addr} {g : Nat} {xs : List A4}
theorem AK.below (h : AK W a g xs) (hb : Below W.heap.size W W') : AK W' a g xs := ⟨h.1, by
  by_cases hx : xs = []
  · subst hx; intro i a e; simp at e
  · exact h.2.1.below hb (h.2.2 hx), fun hx => Nat.lt_of_lt_of_le (h.2.2 hx) hb.size⟩
theorem AK.alloc (h : AK W a g xs) (o : Obj) : AK (W.alloc o) a g xs := h.below ((Below.refl _ _).alloc (Nat.le_refl _) o)
theorem AK.drew (h : AK W a g xs) : AK W.drew a g xs := h.below (Below.refl _ _).drew
end
theorem Areas_ak (ad : Option Addr) (b o cap k : Nat) (xs : List A4) (w : World) (hk : xs.length = k) (had : xs ≠ [] → ad = some ⟨b, o, none⟩) (hb : xs ≠ [] → b < w.heap.size) (hn : k ≤ 1000) (ha : AreasAt w b o xs) (W : World) (hW : Below w.heap.size w W) :
    Calls Try.prog 32 #[.slice ad k cap] W fun e w' => ∃ a g c, e = .returned (.slice a k c) ∧ AK w' a g xs ∧ Below W.heap.size W w' := by
  subst hk
  refine (Areas_any ad b o cap xs W had (fun h => Nat.lt_of_lt_of_le (hb h) hW.size) hn ?_).mono ?_
  · by_cases hx : xs = []
    · subst hx; intro i a e; simp at e
    · exact ha.below hW (hb hx)
  · rintro e w' ⟨v, rfl, ⟨a, g, c, rfl, h1, h2, h3⟩, hbl⟩
    exact ⟨a, g, c, rfl, ⟨h1, h2, h3⟩, hbl⟩
theorem Total_ak {W : World} {a : Option Addr} {g : Nat} {xs : List A4} (h : AK W a g xs) (k c : Nat) (hk : xs.length = k) (n d : Int) {x y z : Nat} (hr : totRes xs n d = (x, y, z)) :
    Calls Try.prog 31 #[.slice a k c, fracV n d] W fun e w' => e = .returned (.tuple #[rangeV (x : Int) (y : Int), .int .i64 (z : Int)]) ∧ Below W.heap.size W w' := by
  subst hk
  have h1 := Total_any a g 0 c xs n d W h.1 h.2.2 h.2.1
  unfold TotalPost at h1
  rw [hr] at h1
  exact h1
/-- the results: of the list, of one more, of that one alone -/
def ArC (x1 y1 z1 x2 y2 z2 x4 y4 z4 : Int) : Prop :=
  (z1 = 0 ∧ z2 = 0 ∧ z4 = 0 ∧ x2 = x1 + x4 ∧ y2 = y1 + y4 ∧ 0 ≤ x1 ∧ x1 ≤ 1000 ∧ 0 ≤ y1 ∧ y1 ≤ 1000 ∧ 0 ≤ x4 ∧ x4 ≤ 1000 ∧ 0 ≤ y4 ∧ y4 ≤ 1000) ∨ (z1 = 9 ∧ z2 = 9 ∧ z4 = 0) ∨ (z1 = 9 ∧ z2 = 9 ∧ z4 = 9) ∨ (z1 = 0 ∧ z2 = 9 ∧ z4 = 9)
theorem totS_le' {n d : Nat} {xs : List A4} (hok : xs.all A4.ok = true) {r : Nat × Nat} (h : totS n d xs = some r) : r.1 ≤ 50 * xs.length ∧ r.2 ≤ 50 * xs.length := by
  have := totS_le xs (0, 0) r (fun a ha => List.all_eq_true.1 hok a ha) h
  simpa using this
theorem areas_calls {l : List A4} {L M S F n d : Int} {i n1 k : Nat} (hi : l.length = i) (h5 : i ≤ 5) (hn1 : n1 = i + 1) (hok : l.all A4.ok = true) (ha : areaB L M S F = true) (hl : levB n d = true) :
    ∃ x1 y1 z1 x2 y2 z2 x4 y4 z4 : Int, ArC x1 y1 z1 x2 y2 z2 x4 y4 z4 ∧
      (∀ (W : World) (a : Option Addr) (g c : Nat), AK W a g l → Calls Try.prog 31 #[.slice a i c, fracV n d] W fun e w' => e = .returned (.tuple #[rangeV x1 y1, .int .i64 z1]) ∧ Below W.heap.size W w') ∧
      (∀ (W : World) (a : Option Addr) (g c : Nat), AK W a g (l ++ [(⟨L, M, S, F⟩ : A4)]) → Calls Try.prog 31 #[.slice a n1 c, fracV n d] W fun e w' => e = .returned (.tuple #[rangeV x2 y2, .int .i64 z2]) ∧ Below W.heap.size W w') ∧
      (∀ (W : World) (a : Option Addr) (g c : Nat), AK W a g ((l ++ [(⟨L, M, S, F⟩ : A4)]).drop k ++ (l ++ [(⟨L, M, S, F⟩ : A4)]).take k) → Calls Try.prog 31 #[.slice a n1 c, fracV n d] W fun e w' => e = .returned (.tuple #[rangeV x2 y2, .int .i64 z2]) ∧ Below W.heap.size W w') ∧
      (∀ (W : World), Calls Try.prog 36 #[areaV L M S F, fracV n d] W fun e w' => e = .returned (.tuple #[rangeV x4 y4, .int .i64 z4]) ∧ Below W.heap.size W w') := by
  have hA : (⟨L, M, S, F⟩ : A4).ok = true := ha
  obtain ⟨e1, e2, e3, e4⟩ := areas_law (l := l) (a := (⟨L, M, S, F⟩ : A4)) (n := n) (d := d) (by omega) hok hA hl k
  have hxl : (l ++ [(⟨L, M, S, F⟩ : A4)]).length = n1 := by rw [List.length_append, hi, hn1]; rfl
  have hyl : ((l ++ [(⟨L, M, S, F⟩ : A4)]).drop k ++ (l ++ [(⟨L, M, S, F⟩ : A4)]).take k).length = n1 := by rw [List.length_append, List.length_drop, List.length_take, hxl]; omega
  obtain ⟨r1, hr1⟩ : ∃ r, r = resS (totS n.toNat d.toNat l) := ⟨_, rfl⟩
  obtain ⟨r2, hr2⟩ : ∃ r, r = resS (cmb (totS n.toNat d.toNat l) (rangeA n.toNat d.toNat ⟨L, M, S, F⟩)) := ⟨_, rfl⟩
  obtain ⟨r4, hr4⟩ : ∃ r, r = resS (rangeA n.toNat d.toNat ⟨L, M, S, F⟩) := ⟨_, rfl⟩
  rw [← hr1] at e3
  rw [← hr2] at e2
  rw [← hr4] at e4
  rw [e2] at e1
  refine ⟨(r1.1 : Int), (r1.2.1 : Int), (r1.2.2 : Int), (r2.1 : Int), (r2.2.1 : Int), (r2.2.2 : Int), (r4.1 : Int), (r4.2.1 : Int), (r4.2.2 : Int), ?_, fun W a g c h => Total_ak h i c hi n d e3, fun W a g c h => Total_ak h n1 c hxl n d e2, fun W a g c h => Total_ak h n1 c hyl n d e1, fun W => ?_⟩
  · unfold ArC
    cases t1 : totS n.toNat d.toNat l with
    | none =>
      rw [t1] at hr1 hr2
      cases t4 : rangeA n.toNat d.toNat ⟨L, M, S, F⟩ with
      | none => rw [t4] at hr2 hr4; subst hr1; subst hr2; subst hr4; exact .inr (.inr (.inl ⟨rfl, rfl, rfl⟩))
      | some q => rw [t4] at hr2 hr4; subst hr1; subst hr2; subst hr4; exact .inr (.inl ⟨rfl, rfl, rfl⟩)
    | some p =>
      rw [t1] at hr1 hr2
      cases t4 : rangeA n.toNat d.toNat ⟨L, M, S, F⟩ with
      | none => rw [t4] at hr2 hr4; subst hr1; subst hr2; subst hr4; exact .inr (.inr (.inr ⟨rfl, rfl, rfl⟩))
      | some q =>
        rw [t4] at hr2 hr4
        have b1 := totS_le' hok t1
        have b4 := totS_le' (xs := [(⟨L, M, S, F⟩ : A4)]) (by simp [hA]) (by rw [totS_one]; exact t4)
        simp only [List.length_singleton] at b4
        subst hr1; subst hr2; subst hr4
        refine .inl ⟨rfl, rfl, rfl, ?_, ?_, ?_⟩
        · show ((p.1 + q.1 : Nat) : Int) = _; simp [resS]
        · show ((p.2 + q.2 : Nat) : Int) = _; simp [resS]
        · simp only [resS]; omega
  · have h1 := Missed_any L M S F n d W
    unfold TotalPost at h1
    rw [e4] at h1
    exact h1
end Go.Proofs.Ytkfobnhnehbkeaa
