/- A drawn region within a round; marks of ranges over functions. -/
import Derived.Test.YtdfebccmjbocjaaGreatDoorB
import Derived.OrdersIn
import Derived.OrdersHeld
import Derived.Deep.RegionHeld
import Derived.RangeFuncLeaves
import Derived.RangeFuncRecord
import Derived.RangeFuncNested
import Derived.RangeFuncKeeps
import Derived.RangeFuncCalls
import Derived.RangeFuncBox
set_option linter.unusedVariables false
set_option linter.unusedSimpArgs false
namespace Go.Proofs.YtdfebccmjbocjaaGreatDoor
open Go.RowKit Go.Shelf
attribute [local go_sem] Oper.semAt_some
/-- what a round keeps: whatever is cells, but for the blocks E -/
def KpE (E : Nat → Prop) (W W' : World) : Prop := ∀ k ob, ¬ E k → W.heap[k]? = some ob → ob.isCells = true → W'.heap[k]? = some ob
section
variable {E : Nat → Prop} {W W' W'' : World}
theorem KpE.trans (h : KpE E W W') (k : KpE E W' W'') : KpE E W W'' := fun b ob hE hb hc => k b ob hE (h b ob hE hb hc) hc
theorem KpE.below (h : Below W.heap.size W W') : KpE E W W' := fun b ob _ hb _ => (h.block b (Array.getElem?_eq_some_iff.1 hb).1).trans hb
theorem KpE.grown {row : Option Nat} (h : W.grownBy W' row) (hr : ∀ r, row = some r → E r) : KpE E W W' := fun b ob hE hb _ => (h.block b (Array.getElem?_eq_some_iff.1 hb).1 (fun e => hE (hr b e.symm))).trans hb
theorem KpE.set {a : Addr} (hE : E a.block) (v : Value) : KpE E W (W.setCell a v) := fun b ob hb h _ => (Below.heap_setCell W a v b (fun e => hb (by rw [e]; exact hE))).trans h
theorem KpE.putObj (l : Nat) (ob ob' : Obj) (h : W.heap[l]? = some ob) (hc : ob.isCells = false) : KpE E W (W.putObj l ob') := fun b o2 _ hb h2 => by
  have hne : b ≠ l := by rintro rfl; rw [h] at hb; cases hb; rw [hc] at h2; cases h2
  exact (World.putObj_heap_other hne).trans hb
theorem KpE.blk (h : KpE E W W') {b : Nat} {cs : Array Value} {t : TypeId} (hb : Blk W b cs t) (hE : ¬ E b) : Blk W' b cs t := h b _ hE hb rfl
end
theorem rowsIn_round {l n : Nat} {P : Program} {row : String} {args : Array Value} {w : World} {R : Value → World → Prop} (h : Rows P row args w R) : RowsIn (Fence.wide.inRound l) n P row args w R :=
  fun c cs _ => let ⟨v, w', r, s⟩ := h c cs; ⟨v, w', r, stepsIn_wide.2 s⟩
theorem callsIn_round {l n : Nat} {P : Program} {f : FuncId} {args : Array Value} {w : World} {R : Ending → World → Prop} (h : Calls P f args w R) : CallsIn (Fence.wide.inRound l) n P f args w R :=
  CallsIn.inRound l (callsIn_wide.2 h)
theorem oper_round {l n : Nat} {P : Program} {o : Oper} {a : Act} {w : World} {K : Act → World → Prop} {Q : Exit → Act → World → Prop} (hd : ∀ c, o.op ≠ .defer c) (hQ : ¬ LetsOut Q) (h : o.wp P a w K Q) : o.wpIn (Fence.wide.inRound l) n P a w K Q := by
  refine ⟨fun _ _ => trivial, ?_⟩
  rw [Oper.semAt_eq _ _ _ hd]
  unfold Oper.wp at h
  generalize (execOp a.eval o).run P w = r at *
  cases r with
  | ok x w' =>
    cases x with
    | value v => exact h
    | skip => exact h
    | defer d => exact h
    | enter f args =>
      refine ⟨fun h => (by cases h), (callsIn_round h).mono fun e w'' he => ?_⟩
      cases e with
      | returned v => exact he
      | panicked c => exact he
      | outgrown => exact absurd he hQ
    | row row args => exact ⟨fun h => (by cases h), rowsIn_round h⟩
    | _ => exact h.elim
  | halt x w' =>
    cases x <;> exact h
theorem wpAny_round {l n : Nat} {P : Program} {md : Region.Mode} {ops : Array Oper} {Q : Exit → Act → World → Prop} (hd : ∀ (i : Nat) (o : Oper), ops[i]? = some o → ∀ c, o.op ≠ .defer c) (hQ : ¬ LetsOut Q) :
    ∀ (fuel : Nat) (listed : Array Bool) (a : Act) (w : World), wpAny P md ops Q fuel listed a w → wpAnyIn (Fence.wide.inRound l) n P md ops Q fuel listed a w
  | 0, _, _, _, h => h
  | fuel + 1, listed, a, w, h => ⟨h.1, fun i hi => by
    have h2 := h.2 i hi
    unfold wpOp at h2
    unfold wpOpIn
    cases ho : ops[i]? with
    | none => rw [ho] at h2; exact wpAny_round hd hQ fuel _ a w h2
    | some o =>
      rw [ho] at h2
      simp only at h2 ⊢
      split
      · rename_i hw
        rw [if_pos hw] at h2
        rcases h2 with h2 | h2
        · exact Oper.wpIn_mono (fun a w => wpAny_round hd hQ fuel _ a w) (oper_round (hd i o ho) hQ h2)
        · exact absurd h2.2 hQ
      · rename_i hw
        rw [if_neg hw] at h2
        exact ⟨fun _ _ => trivial, wpAny_round hd hQ fuel _ _ w h2⟩⟩
/-- no operation is a defer statement -/
def noDefer (ops : Array Oper) : Bool := ops.all fun o => match o.op with | .defer _ => false | _ => true
theorem noDefer_spec {ops : Array Oper} (h : noDefer ops = true) (i : Nat) (o : Oper) (ho : ops[i]? = some o) (c : Call) : o.op ≠ .defer c := by
  obtain ⟨hi, rfl⟩ := Array.getElem?_eq_some_iff.1 ho
  have := Array.all_eq_true.1 h i hi
  intro e
  rw [e] at this
  cases this
/-- a drawn region within a round -/
theorem wpIn_region_round {S : World → Prop} {l n id : Nat} {P : Program} {ops : Array Oper} {Q : Exit → Act → World → Prop} {a : Act} {w : World} (hm : P.follows .mixedOrders = true) (hd : noDefer ops = true) (hQ : ¬ LetsOut Q) (hS : S w.drew)
    (h : S w.drew → wpAnyH P .any ops Q S ops.size (Array.replicate ops.size false) a w.drew) : (Code.region id ops true).wpIn (Fence.wide.inRound l) n P Q a w :=
  wpIn_region_any hm (wpAny_round (noDefer_spec hd) hQ _ _ _ _ (wpAny_of_held _ _ _ _ (h hS)))
def mark (D : Nat) : Deferred := { target := .collected D, args := #[] }
/-- marks whose blocks hold no call, the newest first -/
def MarksB (B : Nat) (W : World) : Nat → List Deferred → Prop
  | _, [] => True
  | top, d :: ds => ∃ D, d = mark D ∧ B ≤ D ∧ D < top ∧ W.heap[D]? = some (.deferred (some [])) ∧ MarksB B W D ds
theorem MarksB.kept {B : Nat} {W W' : World} : ∀ {ds : List Deferred} {top top' : Nat}, MarksB B W top ds → (∀ D, D < top → W.heap[D]? = some (.deferred (some [])) → W'.heap[D]? = some (.deferred (some []))) → top ≤ top' → MarksB B W' top' ds
  | [], _, _, _, _, _ => trivial
  | _ :: _, _, _, ⟨D, h1, h2, h3, h4, h5⟩, hk, ht => ⟨D, h1, h2, Nat.lt_of_lt_of_le h3 ht, hk D h3 h4, h5.kept (fun D' hD h => hk D' (Nat.lt_trans hD h3) h) (Nat.le_refl _)⟩
theorem MarksB.cons {B D top : Nat} {W : World} {ds : List Deferred} (h : MarksB B W D ds) (hB : B ≤ D) (hD : D < top) (hb : W.heap[D]? = some (.deferred (some []))) : MarksB B W top (mark D :: ds) := ⟨D, rfl, hB, hD, hb, h⟩
theorem MarksB.grown {B top top' : Nat} {W W' : World} {ds : List Deferred} {row : Option Nat} (h : MarksB B W top ds) (hg : W.grownBy W' row) (hr : ∀ r, row = some r → top ≤ r ∨ W.heap[r]? ≠ some (.deferred (some []))) (ht : top ≤ top') : MarksB B W' top' ds :=
  h.kept (fun D hD hb => (hg.block D (Array.getElem?_eq_some_iff.1 hb).1 (fun e => by rcases hr D e.symm with h | h; omega; exact h hb)).trans hb) ht
theorem MarksB.below {B top top' : Nat} {W W' : World} {ds : List Deferred} (h : MarksB B W top ds) (hb : Below W.heap.size W W') (ht : top ≤ top') : MarksB B W' top' ds := h.grown (grownBy_below hb none) (fun _ e => by cases e) ht
/-- the function leaves: each mark's block is shut -/
theorem leaves_marks {F : Fence} {n : Nat} {P : Program} {fn : Func} {tmps : Array Value} {R : Ending → World → Prop} {u : FrameMode} (hu : u ≠ .run) {B : Nat} : ∀ (ds : List Deferred) (top : Nat) (W : World), MarksB B W top ds → (∀ W', Below B W W' → KpE (fun _ => False) W W' → LeavesInM F n P fn tmps R [] u W') → LeavesInM F n P fn tmps R ds u W
  | [], _, W, _, h => h W (Below.refl _ _) (KpE.below (Below.refl _ _))
  | _ :: ds, _, W, ⟨D, h1, h2, _, h4, h5⟩, h => ⟨hu, .inl ⟨D, W.putObj D (.deferred none), by rw [h1]; rfl, run_takeDeferred h4, leaves_marks hu ds D _ (h5.kept (fun D' hD hb => (World.putObj_heap_other (Nat.ne_of_lt hD)).trans hb) (Nat.le_refl _)) (fun W' hb hk => h W' (Below.trans (show Below B W (W.putObj D (.deferred none)) from ⟨rfl, rfl, rfl, by simp [World.putObj], fun k hk => World.putObj_heap_other (by omega)⟩) hb) ((KpE.putObj D _ _ h4 rfl).trans hk))⟩⟩
theorem ownsRow_kp {W W' : World} {B : Nat} {e : TypeId} {size : Nat} {v : Value} {k : Nat} {xs : List Value} (h : W.ownsRow B e size v k xs) (hk : KpE (fun _ => False) W W') : W'.ownsRow B e size v k xs := by
  refine ⟨h.1, ?_⟩
  rcases h.2 with h2 | ⟨g, cap, cur, h2, h3, h4, h5⟩
  · exact .inl h2
  · exact .inr ⟨g, cap, cur, h2, h3, hk g _ (fun h => h) h4 rfl, h5⟩
end Go.Proofs.YtdfebccmjbocjaaGreatDoor
