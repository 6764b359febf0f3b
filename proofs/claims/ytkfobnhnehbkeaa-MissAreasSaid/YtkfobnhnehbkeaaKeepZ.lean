/- A block that a drawn region lays at a place of its own choice. -/
import Derived.Test.YtkfobnhnehbkeaaKeep
namespace Go.Proofs.Ytkfobnhnehbkeaa
open Go.RowKit Go.Shelf

/-- the kept blocks, and a new one apart from them -/
def KZ (w : World) (bs : List (Nat × Array Value × TypeId)) (b : Nat) (cs : Array Value) (t : TypeId) (W : World) : Prop := KS w bs W ∧ Blk W b cs t ∧ (∀ x, x ∈ bs → x.1 < b) ∧ w.heap.size ≤ b
section
variable {w W W' : World} {bs : List (Nat × Array Value × TypeId)} {b : Nat} {cs : Array Value} {t : TypeId}
theorem KS.ltAll (h : KS w bs W) : ∀ x, x ∈ bs → x.1 < W.heap.size := fun x hx => (h.1 x hx).lt
theorem KZ.new (h : KS w bs W) (cs : Array Value) (t : TypeId) : KZ w bs W.heap.size cs t (W.alloc (.cells cs t)) := ⟨h.alloc _, Blk.new _ _ _, h.ltAll, h.size⟩
theorem KZ.newD (h : KS w bs W) (cs : Array Value) (t : TypeId) : KZ w bs W.heap.size cs t (W.alloc (.cells cs t)).drew := ⟨(h.alloc _).drew, Blk.new _ _ _, h.ltAll, h.size⟩
theorem KZ.below (h : KZ w bs b cs t W) (hb : Below W.heap.size W W') : KZ w bs b cs t W' := ⟨h.1.below hb, h.2.1.b hb, h.2.2⟩
theorem KZ.drew (h : KZ w bs b cs t W) : KZ w bs b cs t W.drew := ⟨h.1.drew, h.2.1, h.2.2⟩
theorem KZ.ks (h : KZ w bs b cs t W) : KS w bs W := h.1
theorem KZ.all (h : KZ w bs b cs t W) : KS w ((b, cs, t) :: bs) W := ⟨fun x hx => by
  rcases List.mem_cons.1 hx with rfl | hx
  · exact h.2.1
  · exact h.1.1 x hx, h.1.2⟩
theorem KS.setOff (h : KS w bs W) {a : Addr} (ha : w.heap.size ≤ a.block) (hne : ∀ x, x ∈ bs → x.1 ≠ a.block) (v : Value) : KS w bs (W.setCell a v) := ⟨fun x hx => (h.1 x hx).other (hne x hx) v, h.2.setCell ha v⟩
theorem KZ.set (h : KZ w bs b cs t W) (i : Nat) (v : Value) : KZ w bs b (cs.setIfInBounds i v) t (W.setCell ⟨b, i, none⟩ v) :=
  ⟨h.1.setOff h.2.2.2 (fun x hx => Nat.ne_of_lt (h.2.2.1 x hx)) v, h.2.1.set i v, h.2.2⟩
theorem KZ.set2 {x y x' y' : Value} (h : KZ w bs b #[x, y] t W) : KS w ((b, #[x', y'], t) :: bs) ((W.setCell ⟨b, 0, none⟩ x').setCell ⟨b, 1, none⟩ y') := by
  have h1 := ((h.set 0 x').set 1 y').all
  exact h1
theorem KZ.set2D {x y x' y' : Value} (h : KZ w bs b #[x, y] t W) : KS w ((b, #[x', y'], t) :: bs) ((W.drew.setCell ⟨b, 0, none⟩ x').setCell ⟨b, 1, none⟩ y') := h.drew.set2
theorem KZ.keep2 {x y x' y' : Value} (h : KZ w bs b #[x, y] t W) : KS w bs ((W.setCell ⟨b, 0, none⟩ x').setCell ⟨b, 1, none⟩ y') := ((h.set 0 x').set 1 y').ks
theorem KZ.c0 {x y : Value} (h : KZ w bs b #[x, y] t W) : W.cell? ⟨b, 0, none⟩ = some x := h.2.1.cell 0
theorem KZ.c1 {x y : Value} (h : KZ w bs b #[x, y] t W) : W.cell? ⟨b, 1, none⟩ = some y := h.2.1.cell 1
theorem KZ.f (h : KZ w bs b cs t W) (i : Nat) : W.frozen? ⟨b, i, none⟩ = false := h.2.1.frozen i
end

/-- the ways through a region meet again -/
theorem wp_join {P : Program} {code : Code} {Q : Exit → Act → World → Prop} {a : Act} {W : World} (f : Act → Nat → Act) (mid : Nat → World → Prop)
    (h1 : code.wp P (fun e a' W' => e = .normal ∧ ∃ b, a' = f a b ∧ mid b W') a W) (h2 : ∀ b W', mid b W' → Q .normal (f a b) W') : code.wp P Q a W :=
  Code.wp_mono (fun e a' W' h => by obtain ⟨rfl, b, rfl, hm⟩ := h; exact h2 b W' hm) h1
end Go.Proofs.Ytkfobnhnehbkeaa
