/- Blocks that are kept through a walk of calls that make memory. -/
import Derived.Test.YtkfobnhnehbkeaaAwake
namespace Go.Proofs.Ytkfobnhnehbkeaa
open Go.RowKit Go.Shelf

/-- the blocks bs are in W as told, and below w nothing has turned -/
def KS (w : World) (bs : List (Nat × Array Value × TypeId)) (W : World) : Prop := (∀ x, x ∈ bs → Blk W x.1 x.2.1 x.2.2) ∧ Below w.heap.size w W
section
variable {w W W' : World} {bs : List (Nat × Array Value × TypeId)}
theorem KS.start (w : World) : KS w [] w := ⟨fun _ h => (by cases h), Below.refl _ _⟩
theorem KS.bel (h : KS w bs W) : Below w.heap.size w W := h.2
theorem KS.below (h : KS w bs W) (hb : Below W.heap.size W W') : KS w bs W' := ⟨fun x hx => (h.1 x hx).b hb, h.2.trans (hb.mono h.2.size)⟩
theorem KS.alloc (h : KS w bs W) (o : Obj) : KS w bs (W.alloc o) := h.below ((Below.refl _ _).alloc (Nat.le_refl _) o)
theorem KS.drew (h : KS w bs W) : KS w bs W.drew := h.below (Below.refl _ _).drew
theorem KS.drewN (h : KS w bs W) (q : Nat) : KS w bs (W.drewN q) := h.below ((Below.refl _ _).drewN' q)
theorem KS.new (h : KS w bs W) (cs : Array Value) (t : TypeId) : KS w ((W.heap.size, cs, t) :: bs) (W.alloc (.cells cs t)) :=
  ⟨fun x hx => by
    rcases List.mem_cons.1 hx with rfl | hx
    · exact Blk.new _ _ _
    · exact (h.alloc _).1 x hx, (h.alloc _).2⟩
theorem KS.blk (h : KS w bs W) {x : Nat × Array Value × TypeId} (hx : x ∈ bs) : Blk W x.1 x.2.1 x.2.2 := h.1 x hx
theorem KS.blkAt (h : KS w bs W) (i : Nat) {b : Nat} {cs : Array Value} {t : TypeId} (hx : bs[i]? = some (b, cs, t)) : Blk W b cs t := h.1 _ (List.mem_of_getElem? hx)
theorem KS.sub (h : KS w bs W) {bs' : List (Nat × Array Value × TypeId)} (hx : ∀ x, x ∈ bs' → x ∈ bs) : KS w bs' W := ⟨fun x h' => h.1 x (hx x h'), h.2⟩
theorem KS.size (h : KS w bs W) : w.heap.size ≤ W.heap.size := h.2.size
theorem KS.lt (h : KS w bs W) (i : Nat) {b : Nat} {cs : Array Value} {t : TypeId} (hx : bs[i]? = some (b, cs, t)) : b < W.heap.size := (h.blkAt i hx).lt
end
end Go.Proofs.Ytkfobnhnehbkeaa
