/- The walks of the numbers of ways of package miss: the recursive closure, book.ways, Ways. -/
import Derived.Test.YtkfobnhnehbkeaaMemo
import Derived.BigQuiet
import Derived.Deep.QuietTactic
import Derived.Deep.RegionHeld3
import Derived.Lib.Hide
namespace Go.Proofs.Ytkfobnhnehbkeaa
open Go.RowKit
open Mis (ch)

/-- what the closure captures: the box of the book, the box of the closure itself -/
structure Caps (w : World) (mb bb fb : Nat) : Prop where
  memo : Memo w mb
  book : w.cell? ⟨bb, 0, none⟩ = some (.map (some mb))
  self : w.cell? ⟨fb, 0, none⟩ = some (.func (.func 87) #[] #[.pointer (some ⟨bb, 0, none⟩), .pointer (some ⟨fb, 0, none⟩)])

theorem Caps.after {w w' : World} {mb bb fb : Nat} (h : Caps w mb bb fb) (hm : Memo w' mb) (hg : w.grownBy w' (some mb)) : Caps w' mb bb fb :=
  ⟨hm, hg.cell h.book (by have := h.memo.ne_cell h.book; simpa using this), hg.cell h.self (by have := h.memo.ne_cell h.self; simpa using this)⟩

theorem Caps.alloc {w : World} {mb bb fb : Nat} (h : Caps w mb bb fb) (o : Obj) : Caps (w.alloc o) mb bb fb :=
  ⟨h.memo.alloc o, (World.grownBy_alloc w o none).cell h.book (by simp), (World.grownBy_alloc w o none).cell h.self (by simp)⟩
theorem _root_.Go.World.grownBy.trans' {a b c : World} {row : Option Nat} (h : a.grownBy b row) (k : b.grownBy c row) : a.grownBy c row :=
  ⟨k.os.trans h.os, k.tape.trans h.tape, k.output.trans h.output, Nat.le_trans h.size k.size, fun i hi hr => (k.block i (Nat.lt_of_lt_of_le hi h.size) hr).trans (h.block i hi hr)⟩
theorem _root_.Go.World.grownBy.drew' {a b : World} {row : Option Nat} (h : a.drew.grownBy b row) : a.grownBy b row := ⟨h.os, h.tape, h.output, h.size, h.block⟩
theorem Caps.drew {w : World} {mb bb fb : Nat} (h : Caps w mb bb fb) : Caps w.drew mb bb fb := ⟨h.memo, h.book, h.self⟩

def FromPost (mb n k : Nat) (w : World) (e : Ending) (w' : World) : Prop := e = .returned (.int .i64 (ch n k)) ∧ Memo w' mb ∧ w.grownBy w' (some mb)

set_option maxHeartbeats 400000 in
theorem from_gt (mb bb fb n k : Nat) (w : World) (h : n < k) (_hk : k ≤ 60) (hc : Caps w mb bb fb) : Calls Try.prog 87 #[pickV n k, .pointer (some ⟨bb, 0, none⟩), .pointer (some ⟨fb, 0, none⟩)] w (FromPost mb n k w) := by
  have hch : ch n k = 0 := Mis.ch_lt n k h
  unfold FromPost
  rw [hch]
  clear hch
  go_enter Try.func87, Try.ntmps87
  go_wp2
  go_ret
  exact ⟨rfl, hc.memo.alloc _, World.grownBy_alloc _ _ _⟩

set_option maxHeartbeats 400000 in
theorem from_end (mb bb fb n k : Nat) (w : World) (h : k = 0 ∨ k = n) (hk : k ≤ 60) (hkn : k ≤ n) (hc : Caps w mb bb fb) : Calls Try.prog 87 #[pickV n k, .pointer (some ⟨bb, 0, none⟩), .pointer (some ⟨fb, 0, none⟩)] w (FromPost mb n k w) := by
  have hch : ch n k = 1 := by
    rcases h with rfl | rfl
    · exact Mis.ch_zero _
    · exact Mis.ch_self _
  unfold FromPost
  rw [hch]
  clear hch
  by_cases h0 : k = 0
  · subst h0
    go_enter Try.func87, Try.ntmps87
    go_wp2
    go_ret
    exact ⟨rfl, hc.memo.alloc _, World.grownBy_alloc _ _ _⟩
  · obtain rfl : k = n := by omega
    have h1 : ((k : Int) == 0) = false := by simp; omega
    go_enter Try.func87, Try.ntmps87
    go_wp2
    go_ret
    exact ⟨rfl, hc.memo.alloc _, World.grownBy_alloc _ _ _⟩

set_option maxRecDepth 100000 in
set_option maxHeartbeats 400000 in
theorem from_known (mb bb fb n k : Nat) (w : World) (h0 : 0 < k) (hkn : k < n) (hc : Caps w mb bb fb)
    (hl : (Instr.lookup 95 (.map (some mb)) (pickV n k) true).run Try.prog (w.alloc (.cells #[.int .i64 n, .int .i64 k] 133)) = .ok (.tuple #[.int .i64 (ch n k), .bool true]) (w.alloc (.cells #[.int .i64 n, .int .i64 k] 133))) :
    Calls Try.prog 87 #[pickV n k, .pointer (some ⟨bb, 0, none⟩), .pointer (some ⟨fb, 0, none⟩)] w (FromPost mb n k w) := by
  have h1 : ((k : Int) == 0) = false := by simp; omega
  have h2 : ((k : Int) == (n : Int)) = false := by simp; omega
  have hm := hc.memo.alloc (.cells #[.int .i64 n, .int .i64 k] 133)
  unfold FromPost
  generalize ch n k = c at *
  have HM := Lib.hid hm
  clear hm
  obtain ⟨_, hbk, _⟩ := hc
  have lb := World.block_lt_of_cell? w _ hbk
  have d1 : decide ((k : Int) < 0) = false := by simp
  have d2 : decide (n < k) = false := by simp; omega
  go_enter Try.func87, Try.ntmps87
  go_wp2
  go_ret
  exact ⟨rfl, HM.out, World.grownBy_alloc _ _ _⟩

def SubPost (mb : Nat) (c : Int) (w : World) (e : Ending) (w' : World) : Prop := e = .returned (.int .i64 c) ∧ Memo w' mb ∧ w.grownBy w' (some mb)

set_option maxRecDepth 100000 in
set_option maxHeartbeats 400000 in
theorem from_sum (mb bb fb n k : Nat) (c1 c2 : Int) (w : World) (h0 : 0 < k) (hkn : k < n) (hn : n ≤ 60) (hc : Caps w mb bb fb) (hc1 : 0 ≤ c1) (hc2 : 0 ≤ c2) (hcs : c1 + c2 ≤ 1152921504606846976)
    (ih1 : ∀ (w : World), Caps w mb bb fb → Calls Try.prog 87 #[pickV ((n : Int) - 1) ((k : Int) - 1), .pointer (some ⟨bb, 0, none⟩), .pointer (some ⟨fb, 0, none⟩)] w (SubPost mb c1 w))
    (ih2 : ∀ (w : World), Caps w mb bb fb → Calls Try.prog 87 #[pickV ((n : Int) - 1) (k : Int), .pointer (some ⟨bb, 0, none⟩), .pointer (some ⟨fb, 0, none⟩)] w (SubPost mb c2 w))
    (hst : ∀ (ch' : Int), ch' = c1 + c2 → ∀ (w : World) {ops : Array Oper} {rest : List Oper} {o : Oper} {a : Act} {Q : Exit → Act → World → Prop}
      (_ : o.guard = none) (m x v : Operand) (_ : o.op = Op.mapUpdate 95 m x v) (_ : a.eval m = .map (some mb)) (_ : Memo w mb)
      (_ : a.eval x = pickV n k) (_ : a.eval v = .int .i64 ch') (_ : ∀ w', Memo w' mb → w.grownBy w' (some mb) → wpList Try.prog ops Q rest (a.put o.dst undef) w'),
      wpList Try.prog ops Q (o :: rest) a w)
    (hl : (Instr.lookup 95 (.map (some mb)) (pickV n k) true).run Try.prog (w.alloc (.cells #[.int .i64 n, .int .i64 k] 133)) = .ok (.tuple #[.int .i64 0, .bool false]) (w.alloc (.cells #[.int .i64 n, .int .i64 k] 133))) :
    Calls Try.prog 87 #[pickV n k, .pointer (some ⟨bb, 0, none⟩), .pointer (some ⟨fb, 0, none⟩)] w (SubPost mb (c1 + c2) w) := by
  have h1 : ((k : Int) == 0) = false := by simp; omega
  have h2 : ((k : Int) == (n : Int)) = false := by simp; omega
  have HC := Lib.hid (hc.alloc (.cells #[.int .i64 n, .int .i64 k] 133))
  have hne : (w.heap.size : Nat) ≠ mb := by have := hc.memo.lt; omega
  obtain ⟨hm, hbk, hsf⟩ := hc
  have lb := World.block_lt_of_cell? w _ hbk
  have lf := World.block_lt_of_cell? w _ hsf
  have d1 : decide ((k : Int) < 0) = false := by simp
  have d2 : decide (n < k) = false := by simp; omega
  have hone : some w.heap.size ≠ some mb := by simpa using hne
  have HO := Lib.hid hone
  have w0 : (w.alloc (.cells #[.int .i64 n, .int .i64 k] 133)).cell? ⟨w.heap.size, 0, none⟩ = some (.int .i64 n) := by simp
  have w1' : (w.alloc (.cells #[.int .i64 n, .int .i64 k] 133)).cell? ⟨w.heap.size, 1, none⟩ = some (.int .i64 k) := by simp
  have H0 := Lib.hid w0
  have H1 := Lib.hid w1'
  have IH1 := Lib.hid ih1
  have IH2 := Lib.hid ih2
  have HST := Lib.hid hst
  clear w0 w1' hone hne ih1 ih2 hst
  go_enter Try.func87, Try.ntmps87
  go_wp2_with fail
  clear hl
  have e1 : IntKind.i64.wrap ((n : Int) - 1) = (n : Int) - 1 := IntWalk.i64_in _ (by omega)
  have e2 : IntKind.i64.wrap ((k : Int) - 1) = (k : Int) - 1 := IntWalk.i64_in _ (by omega)
  have e3 : IntKind.i64.wrap (c1 + c2) = c1 + c2 := IntWalk.i64_in _ (by omega)
  go_region_held3 (fun w' => w'.cell? ⟨fb, 0, none⟩ = some (.func (.func 87) #[] #[.pointer (some ⟨bb, 0, none⟩), .pointer (some ⟨fb, 0, none⟩)]) ∧ w'.cell? ⟨w.heap.size, 0, none⟩ = some (.int .i64 n) ∧ w'.cell? ⟨w.heap.size, 1, none⟩ = some (.int .i64 k))
    (first | exact ⟨s2, p0, p1⟩ | exact ⟨s1, o0, o1⟩ | go_keep)
    (first | (go_at_call 87; ((with_reducible refine (IH1.out _ ?_).mono ?_); (exact HC.out.drew); rintro e w1 ⟨rfl, hm1, hg1⟩; have c1 : Caps w1 mb bb fb := HC.out.drew.after hm1 hg1; have s1 := c1.self; have o0 : w1.cell? ⟨w.heap.size, 0, none⟩ = some (.int .i64 n) := hg1.cell H0.out HO.out; have o1 : w1.cell? ⟨w.heap.size, 1, none⟩ = some (.int .i64 k) := hg1.cell H1.out HO.out; have HM1 := Lib.hid hm1; have HG1 := Lib.hid hg1; have C1 := Lib.hid c1; clear hm1 hg1 c1)) | (go_at_call 87; ((with_reducible refine (IH2.out _ ?_).mono ?_); (exact C1.out); rintro e w2 ⟨rfl, hm2, hg2⟩; have c2 : Caps w2 mb bb fb := C1.out.after hm2 hg2; have s2 := c2.self; have p0 : w2.cell? ⟨w.heap.size, 0, none⟩ = some (.int .i64 n) := hg2.cell o0 HO.out; have p1 : w2.cell? ⟨w.heap.size, 1, none⟩ = some (.int .i64 k) := hg2.cell o1 HO.out; have HM2 := Lib.hid hm2; have HG2 := Lib.hid hg2; have C2 := Lib.hid c2; clear hm2 hg2 c2)))
  clear e1 e2 e3
  have b2 := C2.out.book
  go_wp2_with (at_mapUpdate; refine HST.out _ rfl _ rfl _ _ _ rfl rfl HM2.out rfl rfl ?_; intro w3 hm3 hg3)
  go_ret
  exact ⟨rfl, hm3, (((World.grownBy_alloc w _ _).trans' (World.grownBy.drew' HG1.out)).trans' HG2.out).trans' hg3⟩

theorem from_any (mb bb fb : Nat) : ∀ (n : Nat), n ≤ 60 → ∀ (k : Nat) (w : World), k ≤ 60 → Caps w mb bb fb → Calls Try.prog 87 #[pickV n k, .pointer (some ⟨bb, 0, none⟩), .pointer (some ⟨fb, 0, none⟩)] w (FromPost mb n k w) := by
  intro n
  induction n with
  | zero =>
    intro _ k w hk hc
    by_cases h : k = 0
    · exact from_end mb bb fb 0 k w (.inl h) hk (by omega) hc
    · exact from_gt mb bb fb 0 k w (by omega) hk hc
  | succ n ih =>
    intro hn k w hk hc
    by_cases h1 : n + 1 < k
    · exact from_gt mb bb fb (n+1) k w h1 hk hc
    by_cases h2 : k = 0 ∨ k = n + 1
    · exact from_end mb bb fb (n+1) k w h2 hk (by omega) hc
    rcases (hc.memo.alloc (.cells #[.int .i64 (n+1 : Nat), .int .i64 k] 133)).look (n+1) k hn (by omega) with hl | hl
    · have e : (ch n (k-1) : Int) + (ch n k : Int) = (ch (n+1) k : Int) := by
        obtain ⟨j, rfl⟩ : ∃ j, k = j + 1 := ⟨k - 1, by omega⟩
        rw [Mis.ch_succ]; simp
      have b := ch60 (n+1) k hn
      have r := from_sum mb bb fb (n+1) k (ch n (k-1)) (ch n k) w (by omega) (by omega) hn hc (by omega) (by omega) (by omega)
        (fun w hc => by
          have := ih (by omega) (k-1) w (by omega) hc
          rw [show (((k - 1 : Nat)) : Int) = (k : Int) - 1 by omega] at this
          rw [show (((n + 1 : Nat)) : Int) - 1 = (n : Int) by omega]
          exact this)
        (fun w hc => by
          have := ih (by omega) k w hk hc
          rw [show (((n + 1 : Nat)) : Int) - 1 = (n : Int) by omega]
          exact this)
        (fun c hch w _ _ _ _ _ hg m x v hop hm hmemo hx hv hK => wpList_memo_store w hg m x v hop mb (n+1) k hm hmemo hn (by omega) hx (by rw [hv, hch, e]) hK) hl
      rw [e] at r
      exact r
    · exact from_known mb bb fb (n+1) k w (by omega) (by omega) hc hl

end Go.Proofs.Ytkfobnhnehbkeaa
