/- The iterator over the numbers of missed persons of package miss. -/
import Derived.RangeFuncBox
import Derived.RangeFuncNested
import Derived.RangeFuncLeaves
import Derived.RangeFuncCalls
import Derived.Shelf.Abstract
import Derived.Shelf.RegionOpen
import Derived.OwnWalkIn
import Derived.TacticsInMore
import Derived.LoopNIn
import Derived.LoopIn
import Derived.Maps.AppendAt
import Derived.Test.YtkfobnhnehbkeaaAsked
namespace Go.Proofs.Ytkfobnhnehbkeaa
open Go.RowKit Go.Shelf
attribute [local go_sem] Oper.semAt_some

/-- a number that may have been missed -/
abbrev UpTo (M : Nat) := { x : Nat // x ≤ M }
set_option maxRecDepth 100000 in
set_option maxHeartbeats 1000000 in
theorem numbers_stops (M : Nat) (hM : M ≤ 50) (n : Nat) (hn : 1 ≤ n) (Bn : Nat) (w : World) (hBn : Bn < w.heap.size) (hc : w.cell? ⟨Bn, 1, none⟩ = some (.int .i64 M)) :
    SeqStopsK Fence.wide n Try.prog 76 #[.pointer (some ⟨Bn, 0, none⟩)] (fun x : UpTo M => #[Value.int .i64 (x.1 : Int)]) (fun _ _ => True) (fun xs => xs.map (·.1) = List.range (M + 1)) (fun _ => True) (M + 1) w := fun l J Jx W hW _ _ hY h0 => by
  have hcW := (hW.cell (p := ⟨Bn, 1, none⟩) hBn).trans hc
  refine callsIn_of_wp Try.func76 rfl trivial ?_ rfl
  simp only [Try.ntmps76, List.size_toArray, List.length_cons, List.length_nil, Nat.reduceAdd, Nat.reduceSub, Array.replicate_succ, Array.replicate_zero, List.push_toArray, List.append_toArray, List.nil_append, List.cons_append]
  gi_wp2
  gi_loopw [7] (fun y wr => ∃ (k : Nat) (pre : List (UpTo M)), k ≤ M + 1 ∧ y = .int .i64 (k : Int) ∧ Hid (pre.length = k ∧ pre.map (·.1) = List.range k ∧ J pre wr))
    (fun y _ => M + 1 - (intOf y).toNat)
  case atStart => exact ⟨0, [], by omega, rfl, rfl, rfl, h0⟩
  case round =>
    obtain ⟨k, pre, hp, rfl, HP⟩ := hrel
    by_cases hlt : k < M + 1
    · obtain ⟨fn, tmps, assign, body, hy, hR⟩ := hY pre ⟨k, by omega⟩ wr HP.out.2.2 (by rw [HP.out.1]; exact hlt)
      dsimp only at hy
      gi_wp2
      refine hR.mono ?_
      rintro e W3 (⟨rfl, hJ3, _⟩ | ⟨rfl, hJx3⟩)
      · gi_wp2
        go_roundw
        case rel => exact ⟨k + 1, pre ++ [⟨k, by omega⟩], by omega, by go_num, by simp [HP.out.1], by rw [List.map_append, HP.out.2.1, List.range_succ]; rfl, hJ3⟩
        case measure => simp [intOf]; omega
      · gi_wp2
        refine bodyPost_ret (results_none rfl _ _ _) rfl ?_
        exact ⟨⟨_, rfl⟩, .inr ⟨_, trivial, hJx3⟩⟩
    · obtain rfl : k = M + 1 := by omega
      gi_wp2
      go_end0
      exact ⟨⟨_, rfl⟩, .inl ⟨pre, HP.out.2.1, HP.out.2.2⟩⟩
end Go.Proofs.Ytkfobnhnehbkeaa
