/- MissTotals: what the paths share. -/
import Derived.Test.YtkfobnhnehbkeaaTotR
import Derived.Test.YtkfobnhnehbkeaaApi
namespace Go.Proofs.Ytkfobnhnehbkeaa
open Go.RowKit Go.Shelf

/-- a list of areas of the call's own -/
def AK (W : World) (a : Option Addr) (g : Nat) (xs : List A4) : Prop := (xs ≠ [] → a = some ⟨g, 0, none⟩) ∧ AreasAt W g 0 xs ∧ (xs ≠ [] → g < W.heap.size)
section
variable {W W' : World} {a : Option Addr} {g : Nat} {xs : List A4}
theorem AK.below (h : AK W a g xs) (hb : Below W.heap.size W W') : AK W' a g xs := ⟨h.1, by
  by_cases hx : xs = []
  · subst hx; intro i a e; simp at e
  · exact h.2.1.below hb (h.2.2 hx), fun hx => Nat.lt_of_lt_of_le (h.2.2 hx) hb.size⟩
theorem AK.alloc (h : AK W a g xs) (o : Obj) : AK (W.alloc o) a g xs := h.below ((Below.refl _ _).alloc (Nat.le_refl _) o)
theorem AK.drew (h : AK W a g xs) : AK W.drew a g xs := h.below (Below.refl _ _).drew
end
theorem Areas_ak (ad : Option Addr) (b o cap k : Nat) (xs : List A4) (w : World) (hk : xs.length = k) (had : xs ≠ [] → ad = some ⟨b, o, none⟩) (hb : xs ≠ [] → b < w.heap.size) (hn : k ≤ 1000) (ha : AreasAt w b o xs) (W : World) (hW : Below w.heap.size w W) :
    Calls Try.prog 32 #[.slice ad k cap] W fun e w' => ∃ a g c, e = .returned (.slice a k c) ∧ AK w' a g xs ∧ Below W.heap.size W w' := by
  subst hk
  refine (Areas_any ad b o cap xs W had (fun h => Nat.lt_of_lt_of_le (hb h) hW.size) hn ?_).mono ?_
  · by_cases hx : xs = []
    · subst hx; intro i a e; simp at e
    · exact ha.below hW (hb hx)
  · rintro e w' ⟨v, rfl, ⟨a, g, c, rfl, h1, h2, h3⟩, hbl⟩
    exact ⟨a, g, c, rfl, ⟨h1, h2, h3⟩, hbl⟩
theorem Total_ak {W : World} {a : Option Addr} {g : Nat} {xs : List A4} (h : AK W a g xs) (k c : Nat) (hk : xs.length = k) (n d : Int) {x y z : Nat} (hr : totRes xs n d = (x, y, z)) :
    Calls Try.prog 31 #[.slice a k c, fracV n d] W fun e w' => e = .returned (.tuple #[rangeV (x : Int) (y : Int), .int .i64 (z : Int)]) ∧ Below W.heap.size W w' := by
  subst hk
  have h1 := Total_any a g 0 c xs n d W h.1 h.2.2 h.2.1
  unfold TotalPost at h1
  rw [hr] at h1
  exact h1
/-- what the first loop finds -/
def wa (xs : List A4) : Int := if xs.all A4.ok then 0 else 1
theorem wa_snoc (xs : List A4) (a : A4) (h : a.ok = true) : wa (xs ++ [a]) = wa xs := by simp [wa, h]
theorem wa_bad (xs : List A4) (a : A4) (h : a.ok = false) : wa (xs ++ [a]) = 1 := by simp [wa, h]
theorem tot_rest (g o cap k : Nat) (L M S F n d : Int) (w W : World) (y4 y5 y6 y7 y8 y9 y10 y11 y12 y13 y14 y15 y16 y17 y18 y19 y20 y21 y22 y23 y24 y25 y26 y27 y28 y29 y30 y31 y32 y33 y34 y35 y36 y37 y38 y39 y40 y41 y42 y43 y44 y45 y46 y47 y48 y49 y50 y51 y52 y53 y54 y55 y56 y57 y58 y59 y60 y61 y62 y63 y64 y65 y66 y67 y68 y69 y70 y71 y72 y73 y74 y75 y76 y77 y78 y79 y80 y81 y82 y83 y84 y85 y86 y87 y88 y89 y90 y91 y92 y93 y94 y95 y96 y97 y98 : Value) (K : Act → World → Prop)
    (hK : ∀ a W', Code.wp Try.prog (dropSeq 13 (Try.f5.body.getD .skip)) (tRest w) a W' → K a W')
    (hk0 : 0 < k) (hlt : g < w.heap.size) (hx : AreasAt w g o [⟨L, M, S, F⟩]) (hS0 : KS w [(w.heap.size, #[.int .i64 n, .int .i64 d], 36)] W) :
    Code.wp Try.prog (headSeq (dropSeq 12 (Try.f5.body.getD .skip))) (Exit.then K (tRest w)) { tmps := #[.slice (some ⟨g, o, none⟩) k cap, fracV n d, undef, .pointer (some ⟨w.heap.size, 0, none⟩), y4, y5, y6, y7, y8, y9, y10, y11, y12, y13, y14, y15, y16, y17, y18, y19, y20, y21, y22, y23, y24, y25, y26, y27, y28, y29, y30, y31, y32, y33, y34, y35, y36, y37, y38, y39, y40, y41, y42, y43, y44, y45, y46, y47, y48, y49, y50, y51, y52, y53, y54, y55, y56, y57, y58, y59, y60, y61, y62, y63, y64, y65, y66, y67, y68, y69, y70, y71, y72, y73, y74, y75, y76, y77, y78, y79, y80, y81, y82, y83, y84, y85, y86, y87, y88, y89, y90, y91, y92, y93, y94, y95, y96, y97, y98, undef, undef, undef, undef, undef, undef, undef, undef, undef, undef, undef, undef, undef, undef, undef, undef, undef, undef, undef, undef, undef, undef, undef, undef, undef, undef, undef, undef, undef, undef, undef, undef, undef, undef, undef, undef, undef, undef, undef, undef, undef, undef, undef, undef, undef, undef, undef, undef, undef, undef, undef, undef, undef, undef, undef, undef, undef, undef, undef, undef, undef, undef, undef, undef, undef, undef, undef, undef, undef, undef, undef], defers := [] } W := by
  cases h : areaB L M S F with
  | false => exact tot_restA g o cap k L M S F n d w W y4 y5 y6 y7 y8 y9 y10 y11 y12 y13 y14 y15 y16 y17 y18 y19 y20 y21 y22 y23 y24 y25 y26 y27 y28 y29 y30 y31 y32 y33 y34 y35 y36 y37 y38 y39 y40 y41 y42 y43 y44 y45 y46 y47 y48 y49 y50 y51 y52 y53 y54 y55 y56 y57 y58 y59 y60 y61 y62 y63 y64 y65 y66 y67 y68 y69 y70 y71 y72 y73 y74 y75 y76 y77 y78 y79 y80 y81 y82 y83 y84 y85 y86 y87 y88 y89 y90 y91 y92 y93 y94 y95 y96 y97 y98 K hK hk0 hlt hx h hS0
  | true =>
    cases hl : levB n d with
    | false => exact tot_restB g o cap k L M S F n d w W y4 y5 y6 y7 y8 y9 y10 y11 y12 y13 y14 y15 y16 y17 y18 y19 y20 y21 y22 y23 y24 y25 y26 y27 y28 y29 y30 y31 y32 y33 y34 y35 y36 y37 y38 y39 y40 y41 y42 y43 y44 y45 y46 y47 y48 y49 y50 y51 y52 y53 y54 y55 y56 y57 y58 y59 y60 y61 y62 y63 y64 y65 y66 y67 y68 y69 y70 y71 y72 y73 y74 y75 y76 y77 y78 y79 y80 y81 y82 y83 y84 y85 y86 y87 y88 y89 y90 y91 y92 y93 y94 y95 y96 y97 y98 K hK hk0 hlt hx h hl hS0
    | true =>
      obtain ⟨l, m, s, f, rfl, rfl, rfl, rfl, hok⟩ := okA.of h
      obtain ⟨e1, e2, _⟩ := lev_nat hl
      obtain ⟨p, rfl⟩ : ∃ p : Nat, n = p := ⟨_, e1⟩
      obtain ⟨q, rfl⟩ : ∃ q : Nat, d = q := ⟨_, e2⟩
      cases hr : rangeOf l m s f p q with
      | none => exact tot_restN g o cap k l m s f p q w W y4 y5 y6 y7 y8 y9 y10 y11 y12 y13 y14 y15 y16 y17 y18 y19 y20 y21 y22 y23 y24 y25 y26 y27 y28 y29 y30 y31 y32 y33 y34 y35 y36 y37 y38 y39 y40 y41 y42 y43 y44 y45 y46 y47 y48 y49 y50 y51 y52 y53 y54 y55 y56 y57 y58 y59 y60 y61 y62 y63 y64 y65 y66 y67 y68 y69 y70 y71 y72 y73 y74 y75 y76 y77 y78 y79 y80 y81 y82 y83 y84 y85 y86 y87 y88 y89 y90 y91 y92 y93 y94 y95 y96 y97 y98 K hK hk0 hlt hx hok hl hr hS0
      | some r => exact tot_restR g o cap k l m s f p q w W y4 y5 y6 y7 y8 y9 y10 y11 y12 y13 y14 y15 y16 y17 y18 y19 y20 y21 y22 y23 y24 y25 y26 y27 y28 y29 y30 y31 y32 y33 y34 y35 y36 y37 y38 y39 y40 y41 y42 y43 y44 y45 y46 y47 y48 y49 y50 y51 y52 y53 y54 y55 y56 y57 y58 y59 y60 y61 y62 y63 y64 y65 y66 y67 y68 y69 y70 y71 y72 y73 y74 y75 y76 y77 y78 y79 y80 y81 y82 y83 y84 y85 y86 y87 y88 y89 y90 y91 y92 y93 y94 y95 y96 y97 y98 K hK hk0 hlt hx hok hl r.1 r.2 hr hS0

end Go.Proofs.Ytkfobnhnehbkeaa
