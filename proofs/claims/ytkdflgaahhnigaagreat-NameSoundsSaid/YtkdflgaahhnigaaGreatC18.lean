/- The reference's Key. -/
import Derived.Test.YtkdflgaahhnigaaGreatC17
import Derived.Test.YtkdflgaahhnigaaGreatC14
set_option linter.unusedVariables false
set_option linter.unusedSimpArgs false
namespace Go.Proofs.YtkdflgaahhnigaaGreat
open Go.RowKit Go.Shelf

def oneK (b : UInt8) : ByteArray := ⟨#[b]⟩
theorem conv_oneK (b : UInt8) (W : World) : (convert 56 9 (.slice (some ⟨W.heap.size, 0, none⟩) 1 1)).run Tryz.prog (W.alloc (.cells #[.int .u8 (b.toNat : Int)] 5)) = .ok (.string (oneK b)) (W.alloc (.cells #[.int .u8 (b.toNat : Int)] 5)) :=
  conv_key (l := [b]) (World.ownsRow_lit (base := W.heap.size) (e := 5) (size := 1) W #[.int .u8 (b.toNat : Int)] 1 (Nat.le_refl _) (by unfold maxLen; omega) rfl)
theorem take_one {s : ByteArray} (h : 0 < s.size) : s.data.toList.take 1 = [s[0]] := by
  have := take_snoc (get_u8 h)
  simpa using this
theorem ext_list {x : ByteArray} {l : List UInt8} (h : x.data.toList = l) : x = ⟨l.toArray⟩ := by
  cases x; simp at h; subst h; simp
theorem last_get {K : ByteArray} (h : 0 < K.size) : K.data.toList.getLast? = some (K[K.size - 1]'(by omega)) := by
  rw [List.getLast?_eq_getElem?, show K.data.toList.length = K.size by simp, List.getElem?_eq_getElem (by simp; omega)]; rfl
theorem bytes_appK (x z : ByteArray) : (x ++ z).data.toList = x.data.toList ++ z.data.toList := by simp
/-- what the loop has: the key of the letters so far -/
def KeyI (R : RB) (s : ByteArray) (i : Nat) (K : ByteArray) : Prop := K.data.toList = keyR R (s.data.toList.take i) ∧ 0 < K.size ∧ K.size ≤ 6
theorem keyI_one {R : RB} {s : ByteArray} (h : 0 < s.size) : KeyI R s 1 (oneK (sndR R s[0])) := by
  refine ⟨?_, by rw [show (oneK (sndR R s[0])).size = 1 from rfl]; omega, by rw [show (oneK (sndR R s[0])).size = 1 from rfl]; omega⟩
  rw [take_one h]; rfl
theorem keyI_snoc {R : RB} {s : ByteArray} {i : Nat} (hi : i < s.size) (h1 : 1 ≤ i) : keyR R (s.data.toList.take (i + 1)) = Nm.kst (sndR R) (inS R.soft) (keyR R (s.data.toList.take i)) s[i] := by
  rw [take_snoc (get_u8 hi), keyR_snoc, if_neg]
  intro e
  have h2 : (s.data.toList.take i).length = 0 := by rw [e]; rfl
  rw [List.length_take] at h2
  have : s.data.toList.length = s.size := by simp
  omega
theorem keyI_same {R : RB} {s : ByteArray} {i : Nat} {K : ByteArray} (h : KeyI R s i K) (hi : i < s.size) (h1 : 1 ≤ i) (hk : inS R.soft s[i] = true ∨ sndR R s[i] = K[K.size - 1]'(by have := h.2.1; omega)) : KeyI R s (i + 1) K := by
  refine ⟨?_, h.2⟩
  rw [keyI_snoc hi h1, ← h.1]
  unfold Nm.kst
  by_cases h6 : K.data.toList.length = 6
  · rw [if_pos h6]
  · rw [if_neg h6, if_pos]
    rcases hk with hk | hk
    · exact .inl hk
    · right; rw [last_get h.2.1, hk]
theorem keyI_more {R : RB} {s : ByteArray} {i : Nat} {K : ByteArray} (h : KeyI R s i K) (hi : i < s.size) (h1 : 1 ≤ i) (h6 : K.size < 6) (hs : inS R.soft s[i] = false) (hk : sndR R s[i] ≠ K[K.size - 1]'(by have := h.2.1; omega)) : KeyI R s (i + 1) (K ++ oneK (sndR R s[i])) := by
  have hl : K.data.toList.length = K.size := by simp
  refine ⟨?_, by rw [ByteArray.size_append]; have := h.2.1; omega, by rw [ByteArray.size_append]; show K.size + 1 ≤ 6; omega⟩
  rw [keyI_snoc hi h1, ← h.1, bytes_appK]
  unfold Nm.kst
  rw [if_neg (by omega), if_neg]
  · rfl
  · rintro (h2 | h2)
    · rw [hs] at h2; cases h2
    · rw [last_get h.2.1] at h2
      exact hk (Option.some.inj h2).symm
theorem keyI_end {R : RB} {s : ByteArray} {i : Nat} {K : ByteArray} (h : KeyI R s i K) (he : s.size ≤ i ∨ K.size = 6) : K = ⟨(keyR R s.data.toList).toArray⟩ := by
  refine ext_list ?_
  rw [h.1]
  rcases he with he | he
  · rw [List.take_of_length_le (by simp; omega)]
  · have h6 : (keyR R (s.data.toList.take i)).length = 6 := by rw [← h.1]; simpa using he
    have := keyR_stop R (s.data.toList.drop i) _ h6
    rw [List.take_append_drop] at this
    exact this.symm
set_option maxRecDepth 100000 in
set_option maxHeartbeats 4000000 in
theorem rKey26 (a : Option Addr) (g o c n : Nat) (R : RB) (w : World) (hN : R.cls.length = n) (hk : SK w a g o R.cls) (hg : Good R) (ht : Thn R) (s : ByteArray) (hs : 0 < s.size) (hs2 : s.size ≤ 12) : Calls Tryz.prog 26 #[rulesV a n c R.soft R.al R.ot R.sk R.ss R.db, .string s] w fun e w' => e = .returned (.string ⟨(keyR R s.data.toList).toArray⟩) ∧ Below w.heap.size w w' := by
  have C65 := Lib.hid (fun W (z : UInt8) (hW : Below w.heap.size w W) => Sound65 a g o c n R W hN (hk.below hW) hg ht z)
  have hs0 := ht.2.2
  have C38 := Lib.hid (fun W (z : UInt8) => Has38 R.soft hs0 z W)
  generalize hV : keyR R s.data.toList = V
  have HV := Lib.hid hV
  have hconv := fun (W : World) => conv_oneK (sndR R s[0]) W
  have q0 : (0 : Int) < (s.size : Int) := by omega
  have s0 := (KS.start w).new (rulesC a n c R.soft R.al R.ot R.sk R.ss R.db) 24
  have S0 := Lib.hid s0
  obtain ⟨kb0_0, kb0_1, kb0_2, kb0_3, kb0_4, kb0_5, kb0_6⟩ := (s0.blkAt 0 rfl).c7
  clear s0 hk hN hg ht hV hs0
  go_enter Tryz.func26, Tryz.ntmps26
  go_wp2_with fail
  obtain ⟨BS, hBS⟩ : ∃ BS : List (Nat × Array Value × TypeId), BS = [(w.heap.size, rulesC a n c R.soft R.al R.ot R.sk R.ss R.db, 24)] := ⟨_, rfl⟩
  have hS : KS w BS (w.alloc (.cells (rulesC a n c R.soft R.al R.ot R.sk R.ss R.db) 24)).drew := by rw [hBS]; exact S0.out.drew
  have K0 : ∀ W, KS w BS W → W.cell? ⟨w.heap.size, 0, none⟩ = some (.slice a n c) := fun W h => by rw [hBS] at h; exact (h.blkAt 0 rfl).cell 0
  have K1 : ∀ W, KS w BS W → W.cell? ⟨w.heap.size, 1, none⟩ = some (.string R.soft) := fun W h => by rw [hBS] at h; exact (h.blkAt 0 rfl).cell 1
  have K2 : ∀ W, KS w BS W → W.cell? ⟨w.heap.size, 2, none⟩ = some (.int .i64 R.al) := fun W h => by rw [hBS] at h; exact (h.blkAt 0 rfl).cell 2
  have K3 : ∀ W, KS w BS W → W.cell? ⟨w.heap.size, 3, none⟩ = some (.int .i64 R.ot) := fun W h => by rw [hBS] at h; exact (h.blkAt 0 rfl).cell 3
  have K4 : ∀ W, KS w BS W → W.cell? ⟨w.heap.size, 4, none⟩ = some (.int .i64 R.sk) := fun W h => by rw [hBS] at h; exact (h.blkAt 0 rfl).cell 4
  have K5 : ∀ W, KS w BS W → W.cell? ⟨w.heap.size, 5, none⟩ = some (.int .i64 R.ss) := fun W h => by rw [hBS] at h; exact (h.blkAt 0 rfl).cell 5
  have K6 : ∀ W, KS w BS W → W.cell? ⟨w.heap.size, 6, none⟩ = some (.int .i64 R.db) := fun W h => by rw [hBS] at h; exact (h.blkAt 0 rfl).cell 6
  have HBS := Lib.hid hBS
  clear hBS
  clear kb0_0 kb0_1 kb0_2 kb0_3 kb0_4 kb0_5 kb0_6
  refine wp_region_held_drew (S := KS w BS) (by kernel_rfl) hS (fun hHeld => ?_)
  clear hS
  refine wpAnyH_take (i := 0) (v := ?_) rfl (by kernel_rfl) (by kernel_rfl) (by kernel_rfl) (fun _ _ _ h => h) (Or.inl ⟨by rfl, ?h0⟩) hHeld ?_
  case h0 =>
    intro w' hSw
    (try dsimp only at hSw)
    go_simp
    (try with_reducible rfl)
  (try simp only [Act.put]); (try simp only [List.setIfInBounds_toArray]); (try simp only [List.set_cons_succ]); (try simp only [List.set_cons_zero])
  refine wpAnyH_take (i := 1) (v := ?_) rfl (by kernel_rfl) (by kernel_rfl) (by kernel_rfl) (fun _ _ _ h => h) (Or.inl ⟨by rfl, ?h1⟩) hHeld ?_
  case h1 =>
    intro w' hSw
    (try dsimp only at hSw)
    go_simp
    (try with_reducible rfl)
  (try simp only [Act.put]); (try simp only [List.setIfInBounds_toArray]); (try simp only [List.set_cons_succ]); (try simp only [List.set_cons_zero])
  refine wpAnyH_take (i := 2) (v := ?_) rfl (by kernel_rfl) (by kernel_rfl) (by kernel_rfl) (fun _ _ _ h => h) (Or.inl ⟨by rfl, ?h2⟩) hHeld ?_
  case h2 =>
    intro w' hSw
    (try dsimp only at hSw)
    go_simp
    (try with_reducible rfl)
  (try simp only [Act.put]); (try simp only [List.setIfInBounds_toArray]); (try simp only [List.set_cons_succ]); (try simp only [List.set_cons_zero])
  refine wpAnyH_ready (rs := [3]) (by kernel_rfl) (by simp) ?_
  refine AllReadyH.cons rfl (fun K_ hK => ?_) (AllReadyH.nil)
  go_simp
  (refine (C65.out _ s[0] hHeld.bel).mono ?_)
  rintro e w3 ⟨rfl, hb⟩
  have hS2 := hHeld.below hb
  clear hb
  refine hK.out _ _ hS2 (fun hHeld => ?_)
  clear hK K_ hS2
  (try simp only [Act.put]); (try simp only [List.setIfInBounds_toArray]); (try simp only [List.set_cons_succ]); (try simp only [List.set_cons_zero])
  refine wpAnyH_ready (rs := [4]) (by kernel_rfl) (by simp) ?_
  refine AllReadyH.cons rfl (fun K_ hK => ?_) (AllReadyH.nil)
  go_simp
  refine hK.out _ _ (hHeld.alloc _) (fun hHeld => ?_)
  clear hK K_
  (try simp only [Act.put]); (try simp only [List.setIfInBounds_toArray]); (try simp only [List.set_cons_succ]); (try simp only [List.set_cons_zero])
  refine wpAnyH_ready (rs := [5]) (by kernel_rfl) (by simp) ?_
  refine AllReadyH.cons rfl (fun K_ hK => ?_) (AllReadyH.nil)
  go_simp
  refine hK.out _ _ hHeld (fun hHeld => ?_)
  clear hK K_
  (try simp only [Act.put]); (try simp only [List.setIfInBounds_toArray]); (try simp only [List.set_cons_succ]); (try simp only [List.set_cons_zero])
  refine wpAnyH_ready (rs := [6]) (by kernel_rfl) (by simp) ?_
  refine AllReadyH.cons rfl (fun K_ hK => ?_) (AllReadyH.nil)
  go_simp
  refine hK.out _ _ hHeld (fun hHeld => ?_)
  clear hK K_
  (try simp only [Act.put]); (try simp only [List.setIfInBounds_toArray]); (try simp only [List.set_cons_succ]); (try simp only [List.set_cons_zero])
  refine wpAnyH_done (by kernel_rfl) ?_ _
  have hs9 := hHeld
  rw [HBS.out] at hs9
  have S9 := Lib.hid hs9
  clear hHeld hs9 K0 K1 K2 K3 K4 K5 K6 HBS hconv
  go_wp2_with fail
  go_loopw [5, 6] (fun y5 y6 wr => ∃ (i : Nat) (K : ByteArray), 1 ≤ i ∧ i ≤ s.size ∧ y6 = .int .i64 (i : Int) ∧ y5 = .string K ∧ Hid (KeyI R s i K ∧ KS w [(w.heap.size, rulesC a n c R.soft R.al R.ot R.sk R.ss R.db, 24)] wr)) (fun _ y6 _ => s.size - (intOf y6).toNat)
  case atStart => exact ⟨1, _, Nat.le_refl _, by omega, rfl, rfl, keyI_one hs, S9.out⟩
  case round =>
    clear S9
    obtain ⟨i, K, hi1, hi, rfl, rfl, H⟩ := hrel
    by_cases hin : i < s.size
    · by_cases h6 : K.size < 6
      · have hin2 : (i : Int) < (s.size : Int) := by omega
        have hin0 : (0 : Int) ≤ (i : Int) := by omega
        have h62 : (K.size : Int) < 6 := by omega
        have hconv := fun (W : World) => conv_oneK (sndR R s[i]) W
        have hconv2 : ∀ W : World, (convert 56 9 (.slice (some ⟨W.heap.size, 0, none⟩) 1 1)).run Tryz.prog (W.alloc (.cells #[.int .u8 ((sndR R s[i]).toNat : Int)] 5)).drew = .ok (.string (oneK (sndR R s[i]))) (W.alloc (.cells #[.int .u8 ((sndR R s[i]).toNat : Int)] 5)).drew := fun W => conv_oneK (sndR R s[i]) W.drew
        have hK0 := H.out.1.2.1
        go_wp2_with fail
        obtain ⟨BS, hBS⟩ : ∃ BS : List (Nat × Array Value × TypeId), BS = [(w.heap.size, rulesC a n c R.soft R.al R.ot R.sk R.ss R.db, 24)] := ⟨_, rfl⟩
        have hS : KS w BS wr.drew := by rw [hBS]; exact H.out.2.drew
        have K0 : ∀ W, KS w BS W → W.cell? ⟨w.heap.size, 0, none⟩ = some (.slice a n c) := fun W h => by rw [hBS] at h; exact (h.blkAt 0 rfl).cell 0
        have K1 : ∀ W, KS w BS W → W.cell? ⟨w.heap.size, 1, none⟩ = some (.string R.soft) := fun W h => by rw [hBS] at h; exact (h.blkAt 0 rfl).cell 1
        have K2 : ∀ W, KS w BS W → W.cell? ⟨w.heap.size, 2, none⟩ = some (.int .i64 R.al) := fun W h => by rw [hBS] at h; exact (h.blkAt 0 rfl).cell 2
        have K3 : ∀ W, KS w BS W → W.cell? ⟨w.heap.size, 3, none⟩ = some (.int .i64 R.ot) := fun W h => by rw [hBS] at h; exact (h.blkAt 0 rfl).cell 3
        have K4 : ∀ W, KS w BS W → W.cell? ⟨w.heap.size, 4, none⟩ = some (.int .i64 R.sk) := fun W h => by rw [hBS] at h; exact (h.blkAt 0 rfl).cell 4
        have K5 : ∀ W, KS w BS W → W.cell? ⟨w.heap.size, 5, none⟩ = some (.int .i64 R.ss) := fun W h => by rw [hBS] at h; exact (h.blkAt 0 rfl).cell 5
        have K6 : ∀ W, KS w BS W → W.cell? ⟨w.heap.size, 6, none⟩ = some (.int .i64 R.db) := fun W h => by rw [hBS] at h; exact (h.blkAt 0 rfl).cell 6
        have HBS := Lib.hid hBS
        clear hBS
        refine wp_region_held_drew (S := KS w BS) (by kernel_rfl) hS (fun hHeld => ?_)
        clear hS
        refine wpAnyH_take (i := 0) (v := ?_) rfl (by kernel_rfl) (by kernel_rfl) (by kernel_rfl) (fun _ _ _ h => h) (Or.inl ⟨by rfl, ?h0⟩) hHeld ?_
        case h0 =>
          intro w' hSw
          (try dsimp only at hSw)
          go_simp
          (try with_reducible rfl)
        (try simp only [Act.put]); (try simp only [List.setIfInBounds_toArray]); (try simp only [List.set_cons_succ]); (try simp only [List.set_cons_zero])
        refine wpAnyH_take (i := 1) (v := ?_) rfl (by kernel_rfl) (by kernel_rfl) (by kernel_rfl) (fun _ _ _ h => h) (Or.inl ⟨by rfl, ?h1⟩) hHeld ?_
        case h1 =>
          intro w' hSw
          (try dsimp only at hSw)
          go_simp
          (try with_reducible rfl)
        (try simp only [Act.put]); (try simp only [List.setIfInBounds_toArray]); (try simp only [List.set_cons_succ]); (try simp only [List.set_cons_zero])
        refine wpAnyH_take (i := 2) (v := ?_) rfl (by kernel_rfl) (by kernel_rfl) (by kernel_rfl) (fun _ _ _ h => h) (Or.inl ⟨by rfl, ?h2⟩) hHeld ?_
        case h2 =>
          intro w' hSw
          (try dsimp only at hSw)
          go_simp
          (try with_reducible rfl)
        (try simp only [Act.put]); (try simp only [List.setIfInBounds_toArray]); (try simp only [List.set_cons_succ]); (try simp only [List.set_cons_zero])
        refine wpAnyH_take (i := 3) (v := ?_) rfl (by kernel_rfl) (by kernel_rfl) (by kernel_rfl) (fun _ _ _ h => h) (Or.inl ⟨by rfl, ?h3⟩) hHeld ?_
        case h3 =>
          intro w' hSw
          (try dsimp only at hSw)
          go_simp
          (try with_reducible rfl)
        (try simp only [Act.put]); (try simp only [List.setIfInBounds_toArray]); (try simp only [List.set_cons_succ]); (try simp only [List.set_cons_zero])
        refine wpAnyH_ready (rs := [4]) (by kernel_rfl) (by simp) ?_
        refine AllReadyH.cons rfl (fun K_ hK => ?_) (AllReadyH.nil)
        go_simp
        (refine (C65.out _ s[i] hHeld.bel).mono ?_)
        rintro e w4 ⟨rfl, hb⟩
        have hS2 := hHeld.below hb
        clear hb
        refine hK.out _ _ hS2 (fun hHeld => ?_)
        clear hK K_ hS2
        (try simp only [Act.put]); (try simp only [List.setIfInBounds_toArray]); (try simp only [List.set_cons_succ]); (try simp only [List.set_cons_zero])
        refine wpAnyH_ready (rs := [5]) (by kernel_rfl) (by simp) ?_
        refine AllReadyH.cons rfl (fun K_ hK => ?_) (AllReadyH.nil)
        go_simp
        refine hK.out _ _ hHeld (fun hHeld => ?_)
        clear hK K_
        (try simp only [Act.put]); (try simp only [List.setIfInBounds_toArray]); (try simp only [List.set_cons_succ]); (try simp only [List.set_cons_zero])
        refine wpAnyH_done (by kernel_rfl) ?_ _
        have hs9 := hHeld
        have S6 := Lib.hid hs9
        clear hHeld hs9
        go_wp2_with fail
        cases hso : inS R.soft s[i] with
        | true =>
          have C38' := Lib.hid (fun W => C38.out W s[i])
          rw [hso] at C38'
          have HK2 := Lib.hid (keyI_same H.out.1 hin hi1 (.inl hso))
          clear hso
          have hS : KS w BS w4.drew := S6.out.drew
          refine wp_region_held_drew (S := KS w BS) (by kernel_rfl) hS (fun hHeld => ?_)
          clear hS
          refine wpAnyH_take (i := 0) (v := ?_) rfl (by kernel_rfl) (by kernel_rfl) (by kernel_rfl) (fun _ _ _ h => h) (Or.inl ⟨by rfl, ?h0⟩) hHeld ?_
          case h0 =>
            intro w' hSw
            (try dsimp only at hSw)
            go_simp
            (try with_reducible rfl)
          (try simp only [Act.put]); (try simp only [List.setIfInBounds_toArray]); (try simp only [List.set_cons_succ]); (try simp only [List.set_cons_zero])
          refine wpAnyH_take (i := 1) (v := ?_) rfl (by kernel_rfl) (by kernel_rfl) (by kernel_rfl) (fun _ _ _ h => h) (Or.inl ⟨by rfl, ?h1⟩) hHeld ?_
          case h1 =>
            intro w' hSw
            (try dsimp only at hSw)
            go_simp
            (try with_reducible rfl)
          (try simp only [Act.put]); (try simp only [List.setIfInBounds_toArray]); (try simp only [List.set_cons_succ]); (try simp only [List.set_cons_zero])
          refine wpAnyH_take (i := 2) (v := ?_) rfl (by kernel_rfl) (by kernel_rfl) (by kernel_rfl) (fun _ _ _ h => h) (Or.inl ⟨by rfl, ?h2⟩) hHeld ?_
          case h2 =>
            intro w' hSw
            (try dsimp only at hSw)
            go_simp
            (try with_reducible rfl)
          (try simp only [Act.put]); (try simp only [List.setIfInBounds_toArray]); (try simp only [List.set_cons_succ]); (try simp only [List.set_cons_zero])
          refine wpAnyH_take (i := 3) (v := ?_) rfl (by kernel_rfl) (by kernel_rfl) (by kernel_rfl) (fun _ _ _ h => h) (Or.inl ⟨by rfl, ?h3⟩) hHeld ?_
          case h3 =>
            intro w' hSw
            (try dsimp only at hSw)
            go_simp
            (try with_reducible rfl)
          (try simp only [Act.put]); (try simp only [List.setIfInBounds_toArray]); (try simp only [List.set_cons_succ]); (try simp only [List.set_cons_zero])
          refine wpAnyH_take (i := 4) (v := ?_) rfl (by kernel_rfl) (by kernel_rfl) (by kernel_rfl) (fun _ _ _ h => h) (Or.inl ⟨by rfl, ?h4⟩) hHeld ?_
          case h4 =>
            intro w' hSw
            (try dsimp only at hSw)
            go_simp
            (try with_reducible rfl)
          (try simp only [Act.put]); (try simp only [List.setIfInBounds_toArray]); (try simp only [List.set_cons_succ]); (try simp only [List.set_cons_zero])
          refine wpAnyH_ready (rs := [5]) (by kernel_rfl) (by simp) ?_
          refine AllReadyH.cons rfl (fun K_ hK => ?_) (AllReadyH.nil)
          go_simp
          (refine (C38'.out _).mono ?_)
          rintro e w5 ⟨rfl, rfl⟩
          refine hK.out _ _ hHeld (fun hHeld => ?_)
          clear hK K_
          (try simp only [Act.put]); (try simp only [List.setIfInBounds_toArray]); (try simp only [List.set_cons_succ]); (try simp only [List.set_cons_zero])
          refine wpAnyH_take (i := 6) (v := ?_) rfl (by kernel_rfl) (by kernel_rfl) (by kernel_rfl) (fun _ _ _ h => h) (Or.inl ⟨by rfl, ?h6⟩) hHeld ?_
          case h6 =>
            intro w' hSw
            (try dsimp only at hSw)
            go_simp
            (try with_reducible rfl)
          (try simp only [Act.put]); (try simp only [List.setIfInBounds_toArray]); (try simp only [List.set_cons_succ]); (try simp only [List.set_cons_zero])
          refine wpAnyH_take (i := 7) (v := ?_) rfl (by kernel_rfl) (by kernel_rfl) (by kernel_rfl) (fun _ _ _ h => h) (Or.inl ⟨by rfl, ?h7⟩) hHeld ?_
          case h7 =>
            intro w' hSw
            (try dsimp only at hSw)
            go_simp
            (try with_reducible rfl)
          (try simp only [Act.put]); (try simp only [List.setIfInBounds_toArray]); (try simp only [List.set_cons_succ]); (try simp only [List.set_cons_zero])
          refine wpAnyH_take (i := 8) (v := undef) rfl (by kernel_rfl) (by kernel_rfl) (by kernel_rfl) (fun _ _ _ h => h) (Or.inr ⟨by kernel_rfl, rfl⟩) hHeld ?_
          (try simp only [Act.put]); (try simp only [List.setIfInBounds_toArray]); (try simp only [List.set_cons_succ]); (try simp only [List.set_cons_zero])
          refine wpAnyH_take (i := 9) (v := undef) rfl (by kernel_rfl) (by kernel_rfl) (by kernel_rfl) (fun _ _ _ h => h) (Or.inr ⟨by kernel_rfl, rfl⟩) hHeld ?_
          (try simp only [Act.put]); (try simp only [List.setIfInBounds_toArray]); (try simp only [List.set_cons_succ]); (try simp only [List.set_cons_zero])
          refine wpAnyH_take (i := 10) (v := undef) rfl (by kernel_rfl) (by kernel_rfl) (by kernel_rfl) (fun _ _ _ h => h) (Or.inr ⟨by kernel_rfl, rfl⟩) hHeld ?_
          (try simp only [Act.put]); (try simp only [List.setIfInBounds_toArray]); (try simp only [List.set_cons_succ]); (try simp only [List.set_cons_zero])
          refine wpAnyH_take (i := 11) (v := undef) rfl (by kernel_rfl) (by kernel_rfl) (by kernel_rfl) (fun _ _ _ h => h) (Or.inr ⟨by kernel_rfl, rfl⟩) hHeld ?_
          (try simp only [Act.put]); (try simp only [List.setIfInBounds_toArray]); (try simp only [List.set_cons_succ]); (try simp only [List.set_cons_zero])
          refine wpAnyH_take (i := 12) (v := undef) rfl (by kernel_rfl) (by kernel_rfl) (by kernel_rfl) (fun _ _ _ h => h) (Or.inr ⟨by kernel_rfl, rfl⟩) hHeld ?_
          (try simp only [Act.put]); (try simp only [List.setIfInBounds_toArray]); (try simp only [List.set_cons_succ]); (try simp only [List.set_cons_zero])
          refine wpAnyH_take (i := 13) (v := undef) rfl (by kernel_rfl) (by kernel_rfl) (by kernel_rfl) (fun _ _ _ h => h) (Or.inr ⟨by kernel_rfl, rfl⟩) hHeld ?_
          (try simp only [Act.put]); (try simp only [List.setIfInBounds_toArray]); (try simp only [List.set_cons_succ]); (try simp only [List.set_cons_zero])
          refine wpAnyH_take (i := 14) (v := undef) rfl (by kernel_rfl) (by kernel_rfl) (by kernel_rfl) (fun _ _ _ h => h) (Or.inr ⟨by kernel_rfl, rfl⟩) hHeld ?_
          (try simp only [Act.put]); (try simp only [List.setIfInBounds_toArray]); (try simp only [List.set_cons_succ]); (try simp only [List.set_cons_zero])
          refine wpAnyH_ready (rs := [15]) (by kernel_rfl) (by simp) ?_
          refine AllReadyH.cons rfl (fun K_ hK => ?_) (AllReadyH.nil)
          go_simp
          refine hK.out _ _ hHeld (fun hHeld => ?_)
          clear hK K_
          (try simp only [Act.put]); (try simp only [List.setIfInBounds_toArray]); (try simp only [List.set_cons_succ]); (try simp only [List.set_cons_zero])
          refine wpAnyH_done (by kernel_rfl) ?_ _
          have hs9 := hHeld
          rw [HBS.out] at hs9
          have S7 := Lib.hid hs9
          clear hHeld hs9 K0 K1 K2 K3 K4 K5 K6 HBS
          go_wp2_with fail
          go_roundw
          case rel => exact ⟨i + 1, K, by omega, by omega, by go_num, rfl, HK2.out, S7.out⟩
          case measure => simp [intOf]; omega
        | false =>
          have C38' := Lib.hid (fun W => C38.out W s[i])
          rw [hso] at C38'
          have ek : IntKind.i64.wrap ((K.size : Int) - 1) = (K.size : Int) - 1 := IntWalk.i64_in _ (by omega)
          have pk0 : (0 : Int) ≤ (K.size : Int) - 1 := by omega
          have pk3 : (1 : Int) ≤ (K.size : Int) := by omega
          have pk4 : 1 ≤ K.size := by omega
          have pk1 : (K.size : Int) - 1 < (K.size : Int) := by omega
          have pk2 : ((K.size : Int) - 1).toNat = K.size - 1 := by omega
          by_cases hlast : sndR R s[i] = K[K.size - 1]'(by omega)
          · have te : (((sndR R s[i]).toNat : Int) == ((K[K.size - 1]'(by omega)).toNat : Int)) = true := by rw [hlast]; simp
            have te1 : (((sndR R s[i]).toNat : Int) != ((K[K.size - 1]'(by omega)).toNat : Int)) = false := by rw [bne, te]; rfl
            have HK2 := Lib.hid (keyI_same H.out.1 hin hi1 (.inr hlast))
            clear hso hlast
            have hS : KS w BS w4.drew := S6.out.drew
            refine wp_region_held_drew (S := KS w BS) (by kernel_rfl) hS (fun hHeld => ?_)
            clear hS
            refine wpAnyH_take (i := 0) (v := ?_) rfl (by kernel_rfl) (by kernel_rfl) (by kernel_rfl) (fun _ _ _ h => h) (Or.inl ⟨by rfl, ?h0⟩) hHeld ?_
            case h0 =>
              intro w' hSw
              (try dsimp only at hSw)
              go_simp
              (try with_reducible rfl)
            (try simp only [Act.put]); (try simp only [List.setIfInBounds_toArray]); (try simp only [List.set_cons_succ]); (try simp only [List.set_cons_zero])
            refine wpAnyH_take (i := 1) (v := ?_) rfl (by kernel_rfl) (by kernel_rfl) (by kernel_rfl) (fun _ _ _ h => h) (Or.inl ⟨by rfl, ?h1⟩) hHeld ?_
            case h1 =>
              intro w' hSw
              (try dsimp only at hSw)
              go_simp
              (try with_reducible rfl)
            (try simp only [Act.put]); (try simp only [List.setIfInBounds_toArray]); (try simp only [List.set_cons_succ]); (try simp only [List.set_cons_zero])
            refine wpAnyH_take (i := 2) (v := ?_) rfl (by kernel_rfl) (by kernel_rfl) (by kernel_rfl) (fun _ _ _ h => h) (Or.inl ⟨by rfl, ?h2⟩) hHeld ?_
            case h2 =>
              intro w' hSw
              (try dsimp only at hSw)
              go_simp
              (try with_reducible rfl)
            (try simp only [Act.put]); (try simp only [List.setIfInBounds_toArray]); (try simp only [List.set_cons_succ]); (try simp only [List.set_cons_zero])
            refine wpAnyH_take (i := 3) (v := ?_) rfl (by kernel_rfl) (by kernel_rfl) (by kernel_rfl) (fun _ _ _ h => h) (Or.inl ⟨by rfl, ?h3⟩) hHeld ?_
            case h3 =>
              intro w' hSw
              (try dsimp only at hSw)
              go_simp
              (try with_reducible rfl)
            (try simp only [Act.put]); (try simp only [List.setIfInBounds_toArray]); (try simp only [List.set_cons_succ]); (try simp only [List.set_cons_zero])
            refine wpAnyH_take (i := 4) (v := ?_) rfl (by kernel_rfl) (by kernel_rfl) (by kernel_rfl) (fun _ _ _ h => h) (Or.inl ⟨by rfl, ?h4⟩) hHeld ?_
            case h4 =>
              intro w' hSw
              (try dsimp only at hSw)
              go_simp
              (try with_reducible rfl)
            (try simp only [Act.put]); (try simp only [List.setIfInBounds_toArray]); (try simp only [List.set_cons_succ]); (try simp only [List.set_cons_zero])
            refine wpAnyH_ready (rs := [5]) (by kernel_rfl) (by simp) ?_
            refine AllReadyH.cons rfl (fun K_ hK => ?_) (AllReadyH.nil)
            go_simp
            (refine (C38'.out _).mono ?_)
            rintro e w5 ⟨rfl, rfl⟩
            refine hK.out _ _ hHeld (fun hHeld => ?_)
            clear hK K_
            (try simp only [Act.put]); (try simp only [List.setIfInBounds_toArray]); (try simp only [List.set_cons_succ]); (try simp only [List.set_cons_zero])
            refine wpAnyH_take (i := 6) (v := ?_) rfl (by kernel_rfl) (by kernel_rfl) (by kernel_rfl) (fun _ _ _ h => h) (Or.inl ⟨by rfl, ?h6⟩) hHeld ?_
            case h6 =>
              intro w' hSw
              (try dsimp only at hSw)
              go_simp
              (try with_reducible rfl)
            (try simp only [Act.put]); (try simp only [List.setIfInBounds_toArray]); (try simp only [List.set_cons_succ]); (try simp only [List.set_cons_zero])
            refine wpAnyH_take (i := 7) (v := ?_) rfl (by kernel_rfl) (by kernel_rfl) (by kernel_rfl) (fun _ _ _ h => h) (Or.inl ⟨by rfl, ?h7⟩) hHeld ?_
            case h7 =>
              intro w' hSw
              (try dsimp only at hSw)
              go_simp
              (try with_reducible rfl)
            (try simp only [Act.put]); (try simp only [List.setIfInBounds_toArray]); (try simp only [List.set_cons_succ]); (try simp only [List.set_cons_zero])
            refine wpAnyH_take (i := 8) (v := ?_) rfl (by kernel_rfl) (by kernel_rfl) (by kernel_rfl) (fun _ _ _ h => h) (Or.inl ⟨by kernel_rfl, ?h8⟩) hHeld ?_
            case h8 =>
              intro w' hSw
              (try dsimp only at hSw)
              go_simp
              (try with_reducible rfl)
            (try simp only [Act.put]); (try simp only [List.setIfInBounds_toArray]); (try simp only [List.set_cons_succ]); (try simp only [List.set_cons_zero])
            refine wpAnyH_take (i := 9) (v := ?_) rfl (by kernel_rfl) (by kernel_rfl) (by kernel_rfl) (fun _ _ _ h => h) (Or.inl ⟨by kernel_rfl, ?h9⟩) hHeld ?_
            case h9 =>
              intro w' hSw
              (try dsimp only at hSw)
              go_simp
              (try with_reducible rfl)
            (try simp only [Act.put]); (try simp only [List.setIfInBounds_toArray]); (try simp only [List.set_cons_succ]); (try simp only [List.set_cons_zero])
            refine wpAnyH_take (i := 10) (v := ?_) rfl (by kernel_rfl) (by kernel_rfl) (by kernel_rfl) (fun _ _ _ h => h) (Or.inl ⟨by kernel_rfl, ?h10⟩) hHeld ?_
            case h10 =>
              intro w' hSw
              (try dsimp only at hSw)
              go_simp
              (try with_reducible rfl)
            (try simp only [Act.put]); (try simp only [List.setIfInBounds_toArray]); (try simp only [List.set_cons_succ]); (try simp only [List.set_cons_zero])
            refine wpAnyH_take (i := 11) (v := ?_) rfl (by kernel_rfl) (by kernel_rfl) (by kernel_rfl) (fun _ _ _ h => h) (Or.inl ⟨by kernel_rfl, ?h11⟩) hHeld ?_
            case h11 =>
              intro w' hSw
              (try dsimp only at hSw)
              go_simp
              (try with_reducible rfl)
            (try simp only [Act.put]); (try simp only [List.setIfInBounds_toArray]); (try simp only [List.set_cons_succ]); (try simp only [List.set_cons_zero])
            refine wpAnyH_take (i := 12) (v := ?_) rfl (by kernel_rfl) (by kernel_rfl) (by kernel_rfl) (fun _ _ _ h => h) (Or.inl ⟨by kernel_rfl, ?h12⟩) hHeld ?_
            case h12 =>
              intro w' hSw
              (try dsimp only at hSw)
              go_simp
              (try with_reducible rfl)
            (try simp only [Act.put]); (try simp only [List.setIfInBounds_toArray]); (try simp only [List.set_cons_succ]); (try simp only [List.set_cons_zero])
            refine wpAnyH_take (i := 13) (v := ?_) rfl (by kernel_rfl) (by kernel_rfl) (by kernel_rfl) (fun _ _ _ h => h) (Or.inl ⟨by kernel_rfl, ?h13⟩) hHeld ?_
            case h13 =>
              intro w' hSw
              (try dsimp only at hSw)
              go_simp
              (try with_reducible rfl)
            (try simp only [Act.put]); (try simp only [List.setIfInBounds_toArray]); (try simp only [List.set_cons_succ]); (try simp only [List.set_cons_zero])
            refine wpAnyH_take (i := 14) (v := ?_) rfl (by kernel_rfl) (by kernel_rfl) (by kernel_rfl) (fun _ _ _ h => h) (Or.inl ⟨by kernel_rfl, ?h14⟩) hHeld ?_
            case h14 =>
              intro w' hSw
              (try dsimp only at hSw)
              go_simp
              (try with_reducible rfl)
            (try simp only [Act.put]); (try simp only [List.setIfInBounds_toArray]); (try simp only [List.set_cons_succ]); (try simp only [List.set_cons_zero])
            refine wpAnyH_ready (rs := [15]) (by kernel_rfl) (by simp) ?_
            refine AllReadyH.cons rfl (fun K_ hK => ?_) (AllReadyH.nil)
            go_simp
            refine hK.out _ _ hHeld (fun hHeld => ?_)
            clear hK K_
            (try simp only [Act.put]); (try simp only [List.setIfInBounds_toArray]); (try simp only [List.set_cons_succ]); (try simp only [List.set_cons_zero])
            refine wpAnyH_done (by kernel_rfl) ?_ _
            have hs9 := hHeld
            rw [HBS.out] at hs9
            have S7 := Lib.hid hs9
            clear hHeld hs9 K0 K1 K2 K3 K4 K5 K6 HBS
            go_wp2_with fail
            go_roundw
            case rel => exact ⟨i + 1, K, by omega, by omega, by go_num, rfl, HK2.out, S7.out⟩
            case measure => simp [intOf]; omega
          · have te : (((sndR R s[i]).toNat : Int) == ((K[K.size - 1]'(by omega)).toNat : Int)) = false := by rw [beq_eq_false_iff_ne]; intro e; exact hlast (UInt8.toNat_inj.1 (by omega))
            have te1 : (((sndR R s[i]).toNat : Int) != ((K[K.size - 1]'(by omega)).toNat : Int)) = true := by rw [bne, te]; rfl
            have HK2 := Lib.hid (keyI_more H.out.1 hin hi1 h6 hso hlast)
            have qa : ¬ 9223372036854775807 < K.size + (oneK (sndR R s[i])).size := by rw [show (oneK (sndR R s[i])).size = 1 from rfl]; omega
            clear hso hlast
            have hS : KS w BS w4.drew := S6.out.drew
            refine wp_region_held_drew (S := KS w BS) (by kernel_rfl) hS (fun hHeld => ?_)
            clear hS
            refine wpAnyH_take (i := 0) (v := ?_) rfl (by kernel_rfl) (by kernel_rfl) (by kernel_rfl) (fun _ _ _ h => h) (Or.inl ⟨by rfl, ?h0⟩) hHeld ?_
            case h0 =>
              intro w' hSw
              (try dsimp only at hSw)
              go_simp
              (try with_reducible rfl)
            (try simp only [Act.put]); (try simp only [List.setIfInBounds_toArray]); (try simp only [List.set_cons_succ]); (try simp only [List.set_cons_zero])
            refine wpAnyH_take (i := 1) (v := ?_) rfl (by kernel_rfl) (by kernel_rfl) (by kernel_rfl) (fun _ _ _ h => h) (Or.inl ⟨by rfl, ?h1⟩) hHeld ?_
            case h1 =>
              intro w' hSw
              (try dsimp only at hSw)
              go_simp
              (try with_reducible rfl)
            (try simp only [Act.put]); (try simp only [List.setIfInBounds_toArray]); (try simp only [List.set_cons_succ]); (try simp only [List.set_cons_zero])
            refine wpAnyH_take (i := 2) (v := ?_) rfl (by kernel_rfl) (by kernel_rfl) (by kernel_rfl) (fun _ _ _ h => h) (Or.inl ⟨by rfl, ?h2⟩) hHeld ?_
            case h2 =>
              intro w' hSw
              (try dsimp only at hSw)
              go_simp
              (try with_reducible rfl)
            (try simp only [Act.put]); (try simp only [List.setIfInBounds_toArray]); (try simp only [List.set_cons_succ]); (try simp only [List.set_cons_zero])
            refine wpAnyH_take (i := 3) (v := ?_) rfl (by kernel_rfl) (by kernel_rfl) (by kernel_rfl) (fun _ _ _ h => h) (Or.inl ⟨by rfl, ?h3⟩) hHeld ?_
            case h3 =>
              intro w' hSw
              (try dsimp only at hSw)
              go_simp
              (try with_reducible rfl)
            (try simp only [Act.put]); (try simp only [List.setIfInBounds_toArray]); (try simp only [List.set_cons_succ]); (try simp only [List.set_cons_zero])
            refine wpAnyH_take (i := 4) (v := ?_) rfl (by kernel_rfl) (by kernel_rfl) (by kernel_rfl) (fun _ _ _ h => h) (Or.inl ⟨by rfl, ?h4⟩) hHeld ?_
            case h4 =>
              intro w' hSw
              (try dsimp only at hSw)
              go_simp
              (try with_reducible rfl)
            (try simp only [Act.put]); (try simp only [List.setIfInBounds_toArray]); (try simp only [List.set_cons_succ]); (try simp only [List.set_cons_zero])
            refine wpAnyH_ready (rs := [5]) (by kernel_rfl) (by simp) ?_
            refine AllReadyH.cons rfl (fun K_ hK => ?_) (AllReadyH.nil)
            go_simp
            (refine (C38'.out _).mono ?_)
            rintro e w5 ⟨rfl, rfl⟩
            refine hK.out _ _ hHeld (fun hHeld => ?_)
            clear hK K_
            (try simp only [Act.put]); (try simp only [List.setIfInBounds_toArray]); (try simp only [List.set_cons_succ]); (try simp only [List.set_cons_zero])
            refine wpAnyH_take (i := 6) (v := ?_) rfl (by kernel_rfl) (by kernel_rfl) (by kernel_rfl) (fun _ _ _ h => h) (Or.inl ⟨by rfl, ?h6⟩) hHeld ?_
            case h6 =>
              intro w' hSw
              (try dsimp only at hSw)
              go_simp
              (try with_reducible rfl)
            (try simp only [Act.put]); (try simp only [List.setIfInBounds_toArray]); (try simp only [List.set_cons_succ]); (try simp only [List.set_cons_zero])
            refine wpAnyH_take (i := 7) (v := ?_) rfl (by kernel_rfl) (by kernel_rfl) (by kernel_rfl) (fun _ _ _ h => h) (Or.inl ⟨by rfl, ?h7⟩) hHeld ?_
            case h7 =>
              intro w' hSw
              (try dsimp only at hSw)
              go_simp
              (try with_reducible rfl)
            (try simp only [Act.put]); (try simp only [List.setIfInBounds_toArray]); (try simp only [List.set_cons_succ]); (try simp only [List.set_cons_zero])
            refine wpAnyH_take (i := 8) (v := ?_) rfl (by kernel_rfl) (by kernel_rfl) (by kernel_rfl) (fun _ _ _ h => h) (Or.inl ⟨by kernel_rfl, ?h8⟩) hHeld ?_
            case h8 =>
              intro w' hSw
              (try dsimp only at hSw)
              go_simp
              (try with_reducible rfl)
            (try simp only [Act.put]); (try simp only [List.setIfInBounds_toArray]); (try simp only [List.set_cons_succ]); (try simp only [List.set_cons_zero])
            refine wpAnyH_take (i := 9) (v := ?_) rfl (by kernel_rfl) (by kernel_rfl) (by kernel_rfl) (fun _ _ _ h => h) (Or.inl ⟨by kernel_rfl, ?h9⟩) hHeld ?_
            case h9 =>
              intro w' hSw
              (try dsimp only at hSw)
              go_simp
              (try with_reducible rfl)
            (try simp only [Act.put]); (try simp only [List.setIfInBounds_toArray]); (try simp only [List.set_cons_succ]); (try simp only [List.set_cons_zero])
            refine wpAnyH_take (i := 10) (v := ?_) rfl (by kernel_rfl) (by kernel_rfl) (by kernel_rfl) (fun _ _ _ h => h) (Or.inl ⟨by kernel_rfl, ?h10⟩) hHeld ?_
            case h10 =>
              intro w' hSw
              (try dsimp only at hSw)
              go_simp
              (try with_reducible rfl)
            (try simp only [Act.put]); (try simp only [List.setIfInBounds_toArray]); (try simp only [List.set_cons_succ]); (try simp only [List.set_cons_zero])
            refine wpAnyH_take (i := 11) (v := ?_) rfl (by kernel_rfl) (by kernel_rfl) (by kernel_rfl) (fun _ _ _ h => h) (Or.inl ⟨by kernel_rfl, ?h11⟩) hHeld ?_
            case h11 =>
              intro w' hSw
              (try dsimp only at hSw)
              go_simp
              (try with_reducible rfl)
            (try simp only [Act.put]); (try simp only [List.setIfInBounds_toArray]); (try simp only [List.set_cons_succ]); (try simp only [List.set_cons_zero])
            refine wpAnyH_take (i := 12) (v := ?_) rfl (by kernel_rfl) (by kernel_rfl) (by kernel_rfl) (fun _ _ _ h => h) (Or.inl ⟨by kernel_rfl, ?h12⟩) hHeld ?_
            case h12 =>
              intro w' hSw
              (try dsimp only at hSw)
              go_simp
              (try with_reducible rfl)
            (try simp only [Act.put]); (try simp only [List.setIfInBounds_toArray]); (try simp only [List.set_cons_succ]); (try simp only [List.set_cons_zero])
            refine wpAnyH_take (i := 13) (v := ?_) rfl (by kernel_rfl) (by kernel_rfl) (by kernel_rfl) (fun _ _ _ h => h) (Or.inl ⟨by kernel_rfl, ?h13⟩) hHeld ?_
            case h13 =>
              intro w' hSw
              (try dsimp only at hSw)
              go_simp
              (try with_reducible rfl)
            (try simp only [Act.put]); (try simp only [List.setIfInBounds_toArray]); (try simp only [List.set_cons_succ]); (try simp only [List.set_cons_zero])
            refine wpAnyH_take (i := 14) (v := ?_) rfl (by kernel_rfl) (by kernel_rfl) (by kernel_rfl) (fun _ _ _ h => h) (Or.inl ⟨by kernel_rfl, ?h14⟩) hHeld ?_
            case h14 =>
              intro w' hSw
              (try dsimp only at hSw)
              go_simp
              (try with_reducible rfl)
            (try simp only [Act.put]); (try simp only [List.setIfInBounds_toArray]); (try simp only [List.set_cons_succ]); (try simp only [List.set_cons_zero])
            refine wpAnyH_ready (rs := [15]) (by kernel_rfl) (by simp) ?_
            refine AllReadyH.cons rfl (fun K_ hK => ?_) (AllReadyH.nil)
            go_simp
            refine hK.out _ _ hHeld (fun hHeld => ?_)
            clear hK K_
            (try simp only [Act.put]); (try simp only [List.setIfInBounds_toArray]); (try simp only [List.set_cons_succ]); (try simp only [List.set_cons_zero])
            refine wpAnyH_done (by kernel_rfl) ?_ _
            have hs9 := hHeld
            rw [HBS.out] at hs9
            have S7 := Lib.hid hs9
            clear hHeld hs9 K0 K1 K2 K3 K4 K5 K6 HBS
            go_wp2_with fail
            go_roundw
            case rel => exact ⟨i + 1, K ++ oneK (sndR R s[i]), by omega, by omega, by go_num, rfl, HK2.out, S7.out.alloc _⟩
            case measure => simp [intOf]; omega
      · have h62 : ¬ (K.size : Int) < 6 := by omega
        have hin2 : (i : Int) < (s.size : Int) := by omega
        have hv : K = ⟨V.toArray⟩ := by rw [← HV.out]; exact keyI_end H.out.1 (.inr (by have := H.out.1.2.2; omega))
        have HV2 := Lib.hid hv
        clear hv
        go_wp2_with fail
        go_ret
        exact ⟨by rw [HV2.out]; rfl, H.out.2.bel⟩
    · have hin2 : ¬ (i : Int) < (s.size : Int) := by omega
      have hv : K = ⟨V.toArray⟩ := by rw [← HV.out]; exact keyI_end H.out.1 (.inl (by omega))
      have HV2 := Lib.hid hv
      clear hv
      go_wp2_with fail
      go_ret
      exact ⟨by rw [HV2.out]; rfl, H.out.2.bel⟩
end Go.Proofs.YtkdflgaahhnigaaGreat
