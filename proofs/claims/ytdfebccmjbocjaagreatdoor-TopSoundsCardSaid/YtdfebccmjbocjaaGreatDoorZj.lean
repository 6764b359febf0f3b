/- sheet: the closures of fits and of ProveAssignment. -/
import Derived.Test.YtdfebccmjbocjaaGreatDoorZh
set_option linter.unusedVariables false
set_option linter.unusedSimpArgs false
namespace Go.Proofs.YtdfebccmjbocjaaGreatDoor
open Go.RowKit Go.Shelf
set_option maxRecDepth 100000 in
set_option maxHeartbeats 800000 in
theorem apart_any (p : Nat × Nat) (bs S : Nat) (hS : S < 1024) (h1 : p.1 < 64) (h2 : p.2 < 64) (w : World) (hb : Blk w bs #[.int .u64 (S : Int)] 109) :
    Calls Tryz.prog 75 #[prV p, .pointer (some ⟨bs, 0, none⟩)] w fun e w' => e = .returned (.bool (!S.testBit p.1 || !S.testBit p.2)) ∧ Below w.heap.size w w' := by
  have B0 : Below w.heap.size w (w.alloc (.cells (prA p) 113)) := (Below.refl _ _).alloc (Nat.le_refl _) _
  have q0 := (hb.b B0).c1.1
  have hl := hb.lt
  have C1 := Lib.hid (fun W => has_any S p.1 hS h1 W)
  have C2 := Lib.hid (fun W => has_any S p.2 hS h2 W)
  have BB := Lib.hid B0
  clear hb B0 h1 h2
  cases t1 : S.testBit p.1 with
  | false =>
    rw [t1] at C1
    clear t1
    go_enter Tryz.func75, Tryz.ntmps75
    go_wp2_with (go_at_call 41; (with_reducible refine (C1.out _).mono ?_); rintro e w' ⟨rfl, rfl⟩)
    go_ret
    exact ⟨rfl, BB.out⟩
  | true =>
    rw [t1] at C1
    generalize S.testBit p.2 = q at *
    clear t1
    go_enter Tryz.func75, Tryz.ntmps75
    go_wp2_with fail
    (with_reducible refine (C1.out _).mono ?_)
    rintro e w' ⟨rfl, rfl⟩
    go_wp2_with fail
    (with_reducible refine (C2.out _).mono ?_)
    rintro e w' ⟨rfl, rfl⟩
    go_wp2_with fail
    go_ret
    exact ⟨rfl, BB.out⟩
set_option maxRecDepth 100000 in
set_option maxHeartbeats 800000 in
theorem same_any (p : Nat × Nat) (bs S : Nat) (hS : S < 1024) (h1 : p.1 < 64) (h2 : p.2 < 64) (w : World) (hb : Blk w bs #[.int .u64 (S : Int)] 109) :
    Calls Tryz.prog 44 #[prV p, .pointer (some ⟨bs, 0, none⟩)] w fun e w' => e = .returned (.bool (S.testBit p.1 == S.testBit p.2)) ∧ Below w.heap.size w w' := by
  have B0 : Below w.heap.size w (w.alloc (.cells (prA p) 113)) := (Below.refl _ _).alloc (Nat.le_refl _) _
  have q0 := (hb.b B0).c1.1
  have hl := hb.lt
  have BB := Lib.hid B0
  clear hb B0
  obtain ⟨a, b⟩ := p
  simp only at *
  go_enter Tryz.func44, Tryz.ntmps44
  go_wp2_with fail
  go_quiet ((go_at_call 41; exact Calls.quiet_of_same ((has_any _ _ (by omega) (by omega) _).mono (fun _ _ h => ⟨h.1, h.2.symm⟩))))
  go_wp2_with fail
  go_ret
  exact ⟨rfl, BB.out.drewN' _⟩
end Go.Proofs.YtdfebccmjbocjaaGreatDoor
