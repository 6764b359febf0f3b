/- Total whole; the walk of Missed of package miss. -/
import Derived.Test.YtkfobnhnehbkeaaTotal
namespace Go.Proofs.Ytkfobnhnehbkeaa
open Go.RowKit

theorem Total_any (ad : Option Addr) (b o cap : Nat) (xs : List A4) (n d : Int) (w : World) (had : xs ≠ [] → ad = some ⟨b, o, none⟩) (hb : xs ≠ [] → b < w.heap.size) (ha : AreasAt w b o xs) :
    Calls Try.prog 31 #[.slice ad xs.length cap, fracV n d] w (TotalPost xs n d w) := by
  by_cases h : 6 < xs.length
  · exact Total_limit ad cap xs n d w h
  · by_cases h2 : xs.all A4.ok = true ∧ levB n d = true
    · exact Total_ok ad b o cap xs n d w had hb ha (by omega) h2.1 h2.2
    · refine Total_arg ad b o cap xs n d w had hb ha (by omega) ?_
      cases h3 : xs.all A4.ok with
      | false => exact .inl rfl
      | true =>
        cases h4 : levB n d with
        | false => exact .inr rfl
        | true => exact absurd ⟨h3, h4⟩ h2

set_option maxRecDepth 100000 in
set_option maxHeartbeats 1000000 in
theorem Missed_any (L M S F n d : Int) (w : World) : Calls Try.prog 36 #[areaV L M S F, fracV n d] w (TotalPost [⟨L, M, S, F⟩] n d w) := by
  obtain ⟨b1, b2, b3, hb0, hsz⟩ := three_new w #[.int .i64 L, .int .i64 M, .int .i64 S, .int .i64 F] #[.int .i64 n, .int .i64 d] #[.int .i64 0, .int .i64 0] 29 25 48
  have C31 := Lib.hid (fun (W : World) (B : Nat) (hB : Blk W B #[.int .i64 L, .int .i64 M, .int .i64 S, .int .i64 F] 29) => Total_any (some ⟨B, 0, none⟩) B 0 1 [⟨L, M, S, F⟩] n d W (fun _ => rfl) (fun _ => hB.lt) (fun i a h => by
    match i, h with
    | 0, h =>
      simp at h
      subst h
      exact ⟨hB.cell 0, hB.cell 1, hB.cell 2, hB.cell 3⟩))
  unfold TotalPost at C31 ⊢
  generalize totRes [⟨L, M, S, F⟩] n d = r at *
  go_enter Try.func36, Try.ntmps36
  go_wp2_with fail
  have b4 := Blk.new (((w.alloc (.cells #[.int .i64 L, .int .i64 M, .int .i64 S, .int .i64 F] 29)).alloc (.cells #[.int .i64 n, .int .i64 d] 25)).alloc (.cells #[.int .i64 0, .int .i64 0] 48)) #[.int .i64 L, .int .i64 M, .int .i64 S, .int .i64 F] 29
  have b5 := b3.alloc (.cells #[.int .i64 L, .int .i64 M, .int .i64 S, .int .i64 F] 29)
  have hb4 := hb0.alloc (by rw [hsz]; omega) (.cells #[.int .i64 L, .int .i64 M, .int .i64 S, .int .i64 F] 29)
  rw [hsz] at b4
  generalize (((w.alloc (.cells #[.int .i64 L, .int .i64 M, .int .i64 S, .int .i64 F] 29)).alloc (.cells #[.int .i64 n, .int .i64 d] 25)).alloc (.cells #[.int .i64 0, .int .i64 0] 48)).alloc (.cells #[.int .i64 L, .int .i64 M, .int .i64 S, .int .i64 F] 29) = W0 at *
  refine (C31.out _ _ b4).mono ?_
  rintro e w1 ⟨rfl, hb1⟩
  have c5 := b5.below hb1 b5.lt
  obtain ⟨k0, k1, k2, k3⟩ := c5.c2
  have C5 := Lib.hid c5
  have HB := Lib.hid (hb4.trans (hb1.mono hb4.size))
  clear b1 b2 b3 b4 b5 hb0 hsz hb4 hb1 c5
  go_wp2
  have f2 := (C5.out.set 0 (.int .i64 (r.1 : Nat))).set 1 (.int .i64 (r.2.1 : Nat))
  obtain ⟨p0, p1, p2, p3⟩ := f2.c2
  refine bodyPost_ret (v := .tuple #[rangeV (r.1 : Nat) (r.2.1 : Nat), .int .i64 (r.2.2 : Nat)]) (by simp [results, Try.results36, go_sem, p0, p1]) rfl ⟨rfl, ?_⟩
  exact (HB.out.setCell (by show w.heap.size ≤ w.heap.size + 1 + 1; omega) _).setCell (by show w.heap.size ≤ w.heap.size + 1 + 1; omega) _
end Go.Proofs.Ytkfobnhnehbkeaa
