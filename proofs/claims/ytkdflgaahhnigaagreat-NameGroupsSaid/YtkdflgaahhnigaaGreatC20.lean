/- Tables of bools of the call's own; the joining of links, cell by cell. The reference's Linked. The reference's Groups. -/
import Derived.Test.YtkdflgaahhnigaaGreatC10
import Derived.Test.YtkdflgaahhnigaaGreatC19
import Derived.Test.YtkdflgaahhnigaaGreatC17
set_option linter.unusedVariables false
set_option linter.unusedSimpArgs false
namespace Go.Proofs.YtkdflgaahhnigaaGreat
open Go.RowKit Go.Shelf

def boolsOwn (W : World) (B : Nat) (u : Value) (r : List Bool) : Prop := W.ownsRow B 4 1 u r.length (boolsV r)
/-- while it is built -/
def TabB (W : World) (B : Nat) (e : TypeId) (v : Value) (tab : List (List Bool)) : Prop :=
  ∃ vs : List Value, W.ownsRow B e 1 v tab.length vs ∧ (∀ (i : Nat) (r : List Bool), tab[i]? = some r → ∃ u : Value, vs[i]? = some u ∧ boolsOwn W B u r ∧ (∀ j : Nat, v.ownBlock = some j → u.ownBlock ≠ some j)) ∧
    (∀ (i k : Nat) (u u' : Value) (j : Nat), vs[i]? = some u → vs[k]? = some u' → u.ownBlock = some j → u'.ownBlock = some j → i = k)
theorem TabB.nil (W : World) (B : Nat) (e : TypeId) : TabB W B e (.slice none 0 0) [] := ⟨[], World.ownsRow_nil _ _ _ _, fun i r h => by simp at h, fun i k u u' j h => by simp at h⟩
theorem TabB.snoc {wo W W' : World} {B : Nat} {e : TypeId} {v v' u : Value} {tab : List (List Bool)} {r : List Bool} {vs : List Value}
    (h1 : wo.ownsRow B e 1 v tab.length vs) (h2 : ∀ (i : Nat) (r : List Bool), tab[i]? = some r → ∃ u : Value, vs[i]? = some u ∧ boolsOwn wo B u r ∧ (∀ j : Nat, v.ownBlock = some j → u.ownBlock ≠ some j))
    (h3 : ∀ (i k : Nat) (u u' : Value) (j : Nat), vs[i]? = some u → vs[k]? = some u' → u.ownBlock = some j → u'.ownBlock = some j → i = k)
    (hb : Below wo.heap.size wo W) (hB : B ≤ wo.heap.size) (hu : W.ownsRow wo.heap.size 4 1 u r.length (boolsV r))
    (hown : W'.ownsRow B e 1 v' (tab.length + 1) (vs ++ [u])) (hg : W.grownBy W' v.ownBlock) (hat : v'.ownBlock = v.ownBlock ∨ v'.ownBlock = some W.heap.size) : TabB W' B e v' (tab ++ [r]) := by
  have hvl : ∀ j, v.ownBlock = some j → j < wo.heap.size := fun j e => (h1.lt j e).2
  have hkeep : ∀ u r, boolsOwn W B u r → (∀ j, v.ownBlock = some j → u.ownBlock ≠ some j) → boolsOwn W' B u r ∧ (∀ j, v'.ownBlock = some j → u.ownBlock ≠ some j) := by
    intro u r hu hn
    refine ⟨hu.kept hg ?_, fun j e h => ?_⟩
    · cases hb : u.ownBlock with
      | none => exact .inl rfl
      | some k => exact .inr (fun e => hn k e.symm hb)
    · rcases hat with e2 | e2
      · exact hn j (e2 ▸ e) h
      · rw [e2] at e
        cases e
        have := (hu.lt _ h).2
        omega
  have hl : vs.length = tab.length := by simpa using h1.1
  have hrows : ∀ (i : Nat) (u : Value), vs[i]? = some u → ∀ j, u.ownBlock = some j → j < wo.heap.size := fun i u hi j hj => by
    have hil := (List.getElem?_eq_some_iff.1 hi).1
    obtain ⟨u', k1, k2, _⟩ := h2 i _ (List.getElem?_eq_getElem (by omega))
    rw [hi] at k1
    cases k1
    exact (k2.lt j hj).2
  refine ⟨vs ++ [u], by simpa using hown, fun i r' e => ?_, fun i k x x' j hi hk hx hx' => ?_⟩
  · rw [List.getElem?_append] at e
    split at e
    · obtain ⟨u', k1, k2, k3⟩ := h2 i r' e
      obtain ⟨q1, q2⟩ := hkeep u' r' (row_below k2 hb) k3
      exact ⟨u', by rw [List.getElem?_append_left (by omega)]; exact k1, q1, q2⟩
    · have hi : i = tab.length := by
        have := (List.getElem?_eq_some_iff.1 e).1
        simp at this
        omega
      subst hi
      simp at e
      subst e
      obtain ⟨q1, q2⟩ := hkeep u r (hu.mono hB) (fun j e e2 => by have := hvl j e; have := (hu.lt j e2).1; omega)
      exact ⟨u, by rw [← hl]; simp, q1, q2⟩
  · rw [List.getElem?_append] at hi hk
    split at hi
    · split at hk
      · exact h3 i k x x' j hi hk hx hx'
      · have hkl := (List.getElem?_eq_some_iff.1 hk).1
        simp at hkl
        have hk0 : k - vs.length = 0 := by omega
        rw [hk0] at hk
        simp at hk
        subst hk
        have := hrows i x hi j hx
        have := (hu.lt j hx').1
        omega
    · have hil := (List.getElem?_eq_some_iff.1 hi).1
      simp at hil
      have hi0 : i - vs.length = 0 := by omega
      rw [hi0] at hi
      simp at hi
      subst hi
      split at hk
      · have := hrows k x' hk j hx'
        have := (hu.lt j hx).1
        omega
      · have hkl := (List.getElem?_eq_some_iff.1 hk).1
        simp at hkl
        omega
/-- a table of n rows of n bools: g its block, q i the row i's -/
structure BT (W : World) (B : Nat) (a : Option Addr) (g n : Nat) (q c : Nat → Nat) (M : Nat → Nat → Bool) : Prop where
  adr : 0 < n → a = some ⟨g, 0, none⟩
  lt : 0 < n → g < W.heap.size
  lo : 0 < n → B ≤ g
  top : ∀ i, i < n → W.cell? ⟨g, i, none⟩ = some (.slice (some ⟨q i, 0, none⟩) n (c i))
  row : ∀ i, i < n → W.ownsRow B 4 1 (.slice (some ⟨q i, 0, none⟩) n (c i)) n (boolsV ((List.range n).map (M i)))
  ne : ∀ i, i < n → q i ≠ g
  inj : ∀ i k, i < n → k < n → q i = q k → i = k
section
variable {W W' : World} {B g n : Nat} {a : Option Addr} {q c : Nat → Nat} {M M' : Nat → Nat → Bool}
theorem BT.congr (h : BT W B a g n q c M) (hM : ∀ i k, i < n → k < n → M i k = M' i k) : BT W B a g n q c M' :=
  ⟨h.adr, h.lt, h.lo, h.top, fun i hi => by
    have e : (List.range n).map (M' i) = (List.range n).map (M i) := List.map_congr_left fun k hk => (hM i k hi (List.mem_range.1 hk)).symm
    rw [e]; exact h.row i hi, h.ne, h.inj⟩
theorem BT.below (h : BT W B a g n q c M) (hb : Below W.heap.size W W') : BT W' B a g n q c M :=
  ⟨h.adr, fun h0 => Nat.lt_of_lt_of_le (h.lt h0) hb.size, h.lo, fun i hi => (hb.cell (p := ⟨g, i, none⟩) (h.lt (by omega))).trans (h.top i hi), fun i hi => row_below (h.row i hi) hb, h.ne, h.inj⟩
theorem BT.cell (h : BT W B a g n q c M) {i k : Nat} (hi : i < n) (hk : k < n) : W.cell? ⟨q i, k, none⟩ = some (.bool (M i k)) := by
  rw [(h.row i hi).cellAt k (by omega), boolsV, List.getElem?_map, List.getElem?_map, List.getElem?_range hk]; rfl
theorem BT.frozen (h : BT W B a g n q c M) {i k : Nat} (hi : i < n) : W.frozen? ⟨q i, k, none⟩ = false := (h.row i hi).frozenAt k
/-- one cell turned -/
def upB (M : Nat → Nat → Bool) (i k : Nat) (b : Bool) : Nat → Nat → Bool := fun i' k' => if i' = i ∧ k' = k then b else M i' k'
theorem BT.set (h : BT W B a g n q c M) {i k : Nat} (hi : i < n) (hk : k < n) (b : Bool) : BT (W.setCell ⟨q i, k, none⟩ (.bool b)) B a g n q c (upB M i k b) := by
  obtain ⟨d1, d2⟩ := (h.row i hi).stored k (.bool b)
  refine ⟨h.adr, fun h0 => Nat.lt_of_lt_of_le (h.lt h0) d2.size, h.lo, fun i' hi' => ?_, fun i' hi' => ?_, h.ne, h.inj⟩
  · exact (World.cell?_of_block (d2.block g (h.lt (by omega)) (by simpa using (h.ne i hi).symm))).trans (h.top i' hi')
  · by_cases e : i' = i
    · subst e
      rw [boolsV_set] at d1
      have : (List.range n).map (upB M i' k b i') = ((List.range n).map (M i')).set k b := by
        apply List.ext_getElem?
        intro x
        rw [List.getElem?_set]
        by_cases hx : x < n
        · rw [List.getElem?_map, List.getElem?_range hx, List.length_map, List.length_range, List.getElem?_map, List.getElem?_range hx]
          by_cases hkx : k = x
          · subst hkx; simp [upB, hk]
          · rw [if_neg hkx]; simp [upB, Ne.symm hkx]
        · rw [if_neg (by omega)]
          simp [List.getElem?_eq_none, hx]
      rw [this]; exact d1
    · have h2 := (h.row i' hi').kept d2 (.inr fun e2 => e (h.inj i' i hi' hi (by simpa [Value.ownBlock] using e2)))
      have : (List.range n).map (upB M i k b i') = (List.range n).map (M i') := List.map_congr_left fun x hx => by simp [upB, e]
      rw [this]; exact h2
theorem BT.set_below (h : BT W B a g n q c M) {i k : Nat} (hi : i < n) (b : Bool) : Below B W (W.setCell ⟨q i, k, none⟩ (.bool b)) :=
  (Below.refl B W).setCell (h.row i hi |>.lt (q i) rfl).1 _
theorem TabB.bt {e : TypeId} {v : Value} {tab : List (List Bool)} (h : TabB W B e v tab) (ht : tab = (List.range n).map fun i => (List.range n).map (M i)) :
    ∃ a g cap q c, v = .slice a n cap ∧ BT W B a g n q c M := by
  obtain ⟨vs, h1, h2, h3⟩ := h
  have hl : tab.length = n := by rw [ht]; simp
  rw [hl] at h1
  rcases Nat.eq_zero_or_pos n with h0 | h0
  · subst h0
    obtain ⟨a, cap, rfl⟩ : ∃ a cap, v = .slice a 0 cap := by
      rcases Joins.ownsRow_forms h1 with ⟨rfl, _⟩ | ⟨g, cap, rfl⟩
      · exact ⟨_, _, rfl⟩
      · exact ⟨_, _, rfl⟩
    exact ⟨a, 0, cap, id, id, rfl, ⟨fun h => absurd h (by omega), fun h => absurd h (by omega), fun h => absurd h (by omega), fun i hi => absurd hi (by omega), fun i hi => absurd hi (by omega), fun i hi => absurd hi (by omega), fun i k hi => absurd hi (by omega)⟩⟩
  · obtain ⟨g, cap, rfl⟩ := Joins.ownsRow_form h1 h0
    have hrow : ∀ i, ∃ p : Nat × Nat, i < n → vs[i]? = some (.slice (some ⟨p.1, 0, none⟩) n p.2) ∧ W.ownsRow B 4 1 (.slice (some ⟨p.1, 0, none⟩) n p.2) n (boolsV ((List.range n).map (M i))) ∧ p.1 ≠ g := by
      intro i
      by_cases hi : i < n
      · have hti : tab[i]? = some ((List.range n).map (M i)) := by rw [ht, List.getElem?_map, List.getElem?_range hi]; rfl
        obtain ⟨u, k1, k2, k3⟩ := h2 i _ hti
        unfold boolsOwn at k2
        rw [show ((List.range n).map (M i)).length = n by simp] at k2
        obtain ⟨qi, ci, rfl⟩ := Joins.ownsRow_form k2 h0
        exact ⟨(qi, ci), fun _ => ⟨k1, k2, fun e => k3 g rfl (by simp [Value.ownBlock]; exact e)⟩⟩
      · exact ⟨(0, 0), fun h => absurd h hi⟩
    obtain ⟨p, hp⟩ := Classical.axiomOfChoice hrow
    refine ⟨_, g, cap, fun i => (p i).1, fun i => (p i).2, rfl, fun _ => rfl, fun _ => (h1.lt g rfl).2, fun _ => (h1.lt g rfl).1, fun i hi => ?_, fun i hi => (hp i hi).2.1, fun i hi => (hp i hi).2.2, fun i k hi hk e => ?_⟩
    · rw [h1.cellAt i (by omega)]; exact (hp i hi).1
    · exact h3 i k _ _ (p i).1 (hp i hi).1 (hp k hk).1 rfl (by simp only [Value.ownBlock]; rw [e])
end
/-- cells up to (i, k) have been joined over j -/
def mxJ (r : Nat → Nat → Bool) (j i k : Nat) : Nat → Nat → Bool := fun i' k' => if i' < i ∨ (i' = i ∧ k' < k) then Nm.wj r (j + 1) i' k' else Nm.wj r j i' k'
theorem mxJ_00 (r : Nat → Nat → Bool) (j : Nat) : mxJ r j 0 0 = Nm.wj r j := by
  funext i k; unfold mxJ; rw [if_neg (by omega)]
theorem mxJ_ik (r : Nat → Nat → Bool) (j i k : Nat) : mxJ r j i k i k = Nm.wj r j i k := by unfold mxJ; rw [if_neg (by omega)]
theorem mxJ_ij (r : Nat → Nat → Bool) (j i k : Nat) : mxJ r j i k i j = Nm.wj r j i j := by
  unfold mxJ; split
  · exact Nm.wj_col j i
  · rfl
theorem mxJ_jk (r : Nat → Nat → Bool) (j i k : Nat) : mxJ r j i k j k = Nm.wj r j j k := by
  unfold mxJ; split
  · exact Nm.wj_row j k
  · rfl
theorem mxJ_up (r : Nat → Nat → Bool) (j i k : Nat) (b : Bool) (hb : b = Nm.wj r (j + 1) i k) : upB (mxJ r j i k) i k b = mxJ r j i (k + 1) := by
  funext i' k'
  unfold upB mxJ
  by_cases e : i' = i ∧ k' = k
  · obtain ⟨rfl, rfl⟩ := e
    rw [if_pos ⟨rfl, rfl⟩, if_pos (by omega), hb]
  · rw [if_neg e]
    by_cases h : i' < i ∨ i' = i ∧ k' < k
    · rw [if_pos h, if_pos (by omega)]
    · rw [if_neg h, if_neg (by omega)]
theorem mxJ_same (r : Nat → Nat → Bool) (j i k : Nat) (h : Nm.wj r (j + 1) i k = Nm.wj r j i k) : mxJ r j i k = mxJ r j i (k + 1) := by
  rw [← mxJ_up r j i k _ rfl]
  funext i' k'
  unfold upB
  by_cases e : i' = i ∧ k' = k
  · obtain ⟨rfl, rfl⟩ := e
    rw [if_pos ⟨rfl, rfl⟩, mxJ_ik, h]
  · rw [if_neg e]
theorem mxJ_row (r : Nat → Nat → Bool) (j i n : Nat) (i' k' : Nat) (hk : k' < n) : mxJ r j i n i' k' = mxJ r j (i + 1) 0 i' k' := by
  unfold mxJ
  by_cases h : i' < i ∨ i' = i ∧ k' < n
  · rw [if_pos h, if_pos (by omega)]
  · rw [if_neg h, if_neg (by omega)]
theorem mxJ_all (r : Nat → Nat → Bool) (j n : Nat) (i' k' : Nat) (hi : i' < n) : mxJ r j n 0 i' k' = mxJ r (j + 1) 0 0 i' k' := by
  rw [mxJ_00]; unfold mxJ; rw [if_pos (.inl hi)]
/-- the members of a group so far; whether none is before i -/
def firB (c : Nat → Nat → Bool) (i k : Nat) : Bool := (List.range k).all fun k' => !c i k' || decide (i ≤ k')
theorem firB_succ (c : Nat → Nat → Bool) (i k : Nat) : firB c i (k + 1) = (firB c i k && (!c i k || decide (i ≤ k))) := by
  unfold firB; rw [List.range_succ, List.all_append]; simp
theorem firB_end (c : Nat → Nat → Bool) {i n : Nat} (h : i ≤ n) : firB c i n = (List.range i).all fun k => !c i k := by
  rw [Bool.eq_iff_iff]
  unfold firB
  simp only [List.all_eq_true, List.mem_range, Bool.or_eq_true, Bool.not_eq_true', decide_eq_true_eq]
  constructor
  · intro h2 k hk
    rcases h2 k (by omega) with h3 | h3
    · exact h3
    · omega
  · intro h2 k hk
    rcases Nat.lt_or_ge k i with h3 | h3
    · exact .inl (h2 k h3)
    · exact .inr h3
/-- the groups of the first i names -/
def clsK (c : Nat → Nat → Bool) (n i : Nat) : List (List Nat) := ((List.range i).filter fun i => (List.range i).all fun k => !c i k).map fun i => (List.range n).filter (c i)
theorem clsK_succ (c : Nat → Nat → Bool) {n i : Nat} (h : i ≤ n) : clsK c n (i + 1) = if firB c i n then clsK c n i ++ [(List.range n).filter (c i)] else clsK c n i := by
  rw [firB_end c h]
  unfold clsK
  rw [List.range_succ, List.filter_append, List.map_append]
  cases hc : (List.range i).all fun k => !c i k <;> simp [hc]
theorem clsK_all (c : Nat → Nat → Bool) (n : Nat) : clsK c n n = Nm.classes c n := rfl
theorem clsK_len (c : Nat → Nat → Bool) (n i : Nat) : (clsK c n i).length ≤ i := by
  unfold clsK
  rw [List.length_map]
  have := List.length_filter_le (fun i => (List.range i).all fun k => !c i k) (List.range i)
  rwa [List.length_range] at this
theorem filt_snoc (c : Nat → Bool) (k : Nat) : (List.range (k + 1)).filter c = if c k then (List.range k).filter c ++ [k] else (List.range k).filter c := by
  rw [List.range_succ, List.filter_append]
  cases h : c k <;> simp [h]
theorem filt_len (c : Nat → Bool) (k : Nat) : ((List.range k).filter c).length ≤ k := by
  have := List.length_filter_le c (List.range k)
  rwa [List.length_range] at this
end Go.Proofs.YtkdflgaahhnigaaGreat

namespace Go.Proofs.YtkdflgaahhnigaaGreat
open Go.RowKit Go.Shelf

theorem tInfo116 : (Tryz.prog.info? 116).map (fun i => (i.zero, i.size, i.bytes)) = some (some (.slice none 0 0), 1, 24) := by kernel_rfl
theorem boolsV_snoc (f : Nat → Bool) (k : Nat) : boolsV ((List.range k).map f) ++ [.bool (f k)] = boolsV ((List.range (k + 1)).map f) := by simp [boolsV, List.range_succ]
/-- what the joining of two links reads: the rules, where the rows lie -/
def TP (w : World) (rc : Array Value) (gb m : Nat) (q c : Nat → Nat) (W : World) : Prop := KS w [(w.heap.size, rc, 24)] W ∧ ∀ i, i < m → W.cell? ⟨gb, i, none⟩ = some (.slice (some ⟨q i, 0, none⟩) m (c i))
theorem TP.put {w W : World} {rc : Array Value} {gb m : Nat} {b : Option Addr} {q c : Nat → Nat} {M : Nat → Nat → Bool} (h : KS w [(w.heap.size, rc, 24)] W) (hb : BT W (w.heap.size + 1) b gb m q c M) {i k : Nat} (hi : i < m) (hk : k < m) (v : Bool) : TP w rc gb m q c (W.setCell ⟨q i, k, none⟩ (.bool v)) := by
  have h1 := ((hb.row i hi).lt (q i) rfl).1
  refine ⟨h.setOff (a := ⟨q i, k, none⟩) (by show w.heap.size ≤ q i; omega) (fun x hx => ?_) _, (hb.set hi hk v).top⟩
  simp only [List.mem_singleton] at hx
  subst hx
  show w.heap.size ≠ q i
  omega
def LnkP (w : World) (m : Nat) (M : Nat → Nat → Bool) (e : Ending) (w' : World) : Prop := ∃ b gb cap q c', e = .returned (.slice b m cap) ∧ BT w' (w.heap.size + 1) b gb m q c' M ∧ Below w.heap.size w w'
set_option maxRecDepth 100000 in
set_option maxHeartbeats 8000000 in
theorem Linked75 (a : Option Addr) (g o c n : Nat) (R : RB) (w : World) (hN : R.cls.length = n) (hk : SK w a g o R.cls) (hg : Good R) (ht : Thn R) (an : Option Addr) (gn on cn m : Nat) (ys : List ByteArray) (hkn : SKn w an gn on cn m ys) (hm : m ≤ 12) (hn : NmsOk ys) (L : Nat) : Calls Tryz.prog 75 #[rulesV a n c R.soft R.al R.ot R.sk R.ss R.db, .slice an m cn, .int .i64 (L : Int)] w (LnkP w m (wjR R ys L)) := by
  have HKN := Lib.hid hkn
  have HMM := Lib.hid hkn.1
  have HNM := Lib.hid hn
  have C24 := Lib.hid (fun W (x y : ByteArray) (hx : x.size ≤ 12) (hy : y.size ≤ 12) (hW : Below w.heap.size w W) => rCost24 a g o c n R W hN (hk.below hW) hg ht x y hx hy)
  have HRC := Lib.hid (fun (i k : Nat) (x y : ByteArray) (hi : ys[i]? = some x) (hk : ys[k]? = some y) => rT_cost (R := R) hi hk L)
  obtain ⟨r, hr⟩ : ∃ r, r = rT (tabL R ys ys) L := ⟨_, rfl⟩
  have HWJ := Lib.hid (show wjR R ys L = Nm.wj r m from by rw [hr, ← hkn.1]; rfl)
  rw [← hr] at HRC
  have s0 := (KS.start w).new (rulesC a n c R.soft R.al R.ot R.sk R.ss R.db) 24
  have S0 := Lib.hid s0
  obtain ⟨kb0_0, kb0_1, kb0_2, kb0_3, kb0_4, kb0_5, kb0_6⟩ := (s0.blkAt 0 rfl).c7
  clear s0 hk hN hg ht hkn hn hr
  go_enter Tryz.func75, Tryz.ntmps75
  go_wp2_with fail
  clear kb0_0 kb0_1 kb0_2 kb0_3 kb0_4 kb0_5 kb0_6
  go_loopw [7, 8] (fun y7 y8 wr => ∃ (i : Nat), i ≤ m ∧ y8 = .int .i64 (i : Int) ∧ Hid (TabB wr (w.heap.size + 1) 116 y7 ((List.range i).map fun i => (List.range m).map (r i)) ∧ KS w [(w.heap.size, rulesC a n c R.soft R.al R.ot R.sk R.ss R.db, 24)] wr)) (fun _ y8 _ => m - (intOf y8).toNat)
  case atStart => exact ⟨0, Nat.zero_le _, rfl, TabB.nil _ _ _, S0.out⟩
  case round =>
    clear S0
    obtain ⟨i, hi, rfl, H⟩ := hrel
    obtain ⟨wo, hwo⟩ : ∃ wo, wo = wr := ⟨_, rfl⟩
    subst hwo
    by_cases him : i < m
    · have hne : ys ≠ [] := by rintro rfl; have := HMM.out; simp at this; omega
      have e1 := HKN.out.2.1.1 hne
      subst e1
      obtain ⟨x, hx⟩ : ∃ x, ys[i]? = some x := ⟨ys[i]'(by rw [HMM.out]; exact him), by simp⟩
      have hx12 := (HNM.out x (List.mem_of_getElem? hx)).1
      have HX := Lib.hid hx
      have pi0 : (0 : Int) ≤ (i : Int) := by omega
      have pi1 : (i : Int) < (m : Int) := by omega
      have hszo := H.out.2.lt 0 rfl
      clear hne hx
      go_wp2_with fail
      go_loopw [9, 10] (fun y9 y10 wr => ∃ (k : Nat), k ≤ m ∧ y10 = .int .i64 (k : Int) ∧ Hid (wr.ownsRow wo.heap.size 4 1 y9 k (boolsV ((List.range k).map (r i))) ∧ Below wo.heap.size wo wr)) (fun _ y10 _ => m - (intOf y10).toNat)
      case atStart => exact ⟨0, Nat.zero_le _, rfl, World.ownsRow_nil _ _ _ _, Below.refl _ _⟩
      case round =>
        obtain ⟨k, hk, rfl, HI⟩ := hrel
        have HKS := Lib.hid (H.out.2.below HI.out.2)
        by_cases hkm : k < m
        · obtain ⟨y, hy⟩ : ∃ y, ys[k]? = some y := ⟨ys[k]'(by rw [HMM.out]; exact hkm), by simp⟩
          have hy12 := (HNM.out y (List.mem_of_getElem? hy)).1
          have HY := Lib.hid hy
          have CC := Lib.hid (fun W (hW : Below w.heap.size w W) => C24.out W x y hx12 hy12 hW)
          have hrt := HRC.out i k x y HX.out hy
          have HBS' := Lib.hid (boolsV_snoc (r i) k)
          rw [hrt] at HBS'
          generalize cR R x y 0 0 = cv at *
          have pk0 : (0 : Int) ≤ (k : Int) := by omega
          have pk1 : (k : Int) < (m : Int) := by omega
          obtain ⟨i0, hi0, hz0, hz1, hz2⟩ := info_parts tInfo4
          have HI4 := Lib.hid (And.intro hi0 (And.intro hz0 (And.intro hz1 hz2)))
          clear hy hrt hi0 hz0 hz1 hz2
          go_wp2_with fail
          obtain ⟨BS, hBS⟩ : ∃ BS : List (Nat × Array Value × TypeId), BS = [(w.heap.size, rulesC a n c R.soft R.al R.ot R.sk R.ss R.db, 24)] := ⟨_, rfl⟩
          have hS : KS w BS wr.drew := by rw [hBS]; exact HKS.out.drew
          have K0 : ∀ W, KS w BS W → W.cell? ⟨w.heap.size, 0, none⟩ = some (.slice a n c) := fun W h => by rw [hBS] at h; exact (h.blkAt 0 rfl).cell 0
          have K1 : ∀ W, KS w BS W → W.cell? ⟨w.heap.size, 1, none⟩ = some (.string R.soft) := fun W h => by rw [hBS] at h; exact (h.blkAt 0 rfl).cell 1
          have K2 : ∀ W, KS w BS W → W.cell? ⟨w.heap.size, 2, none⟩ = some (.int .i64 R.al) := fun W h => by rw [hBS] at h; exact (h.blkAt 0 rfl).cell 2
          have K3 : ∀ W, KS w BS W → W.cell? ⟨w.heap.size, 3, none⟩ = some (.int .i64 R.ot) := fun W h => by rw [hBS] at h; exact (h.blkAt 0 rfl).cell 3
          have K4 : ∀ W, KS w BS W → W.cell? ⟨w.heap.size, 4, none⟩ = some (.int .i64 R.sk) := fun W h => by rw [hBS] at h; exact (h.blkAt 0 rfl).cell 4
          have K5 : ∀ W, KS w BS W → W.cell? ⟨w.heap.size, 5, none⟩ = some (.int .i64 R.ss) := fun W h => by rw [hBS] at h; exact (h.blkAt 0 rfl).cell 5
          have K6 : ∀ W, KS w BS W → W.cell? ⟨w.heap.size, 6, none⟩ = some (.int .i64 R.db) := fun W h => by rw [hBS] at h; exact (h.blkAt 0 rfl).cell 6
          have HBS := Lib.hid hBS
          clear hBS
          have L0 : ∀ W, KS w BS W → W.cell? ⟨gn, on + i, none⟩ = some (.string x) := fun W h => (HKN.out.below h.bel).2.1.2.1 i x HX.out
          have L1 : ∀ W, KS w BS W → W.cell? ⟨gn, on + k, none⟩ = some (.string y) := fun W h => (HKN.out.below h.bel).2.1.2.1 k y HY.out
          refine wp_region_held_drew (S := KS w BS) (by kernel_rfl) hS (fun hHeld => ?_)
          clear hS
          refine wpAnyH_take (i := 0) (v := ?_) rfl (by kernel_rfl) (by kernel_rfl) (by kernel_rfl) (fun _ _ _ h => h) (Or.inl ⟨by rfl, ?h0⟩) hHeld ?_
          case h0 =>
            intro w' hSw
            (try dsimp only at hSw)
            go_simp
            (try with_reducible rfl)
          (try simp only [Act.put]); (try simp only [List.setIfInBounds_toArray]); (try simp only [List.set_cons_succ]); (try simp only [List.set_cons_zero])
          refine wpAnyH_take (i := 1) (v := ?_) rfl (by kernel_rfl) (by kernel_rfl) (by kernel_rfl) (fun _ _ _ h => h) (Or.inl ⟨by rfl, ?h1⟩) hHeld ?_
          case h1 =>
            intro w' hSw
            (try dsimp only at hSw)
            go_simp
            (try with_reducible rfl)
          (try simp only [Act.put]); (try simp only [List.setIfInBounds_toArray]); (try simp only [List.set_cons_succ]); (try simp only [List.set_cons_zero])
          refine wpAnyH_take (i := 2) (v := ?_) rfl (by kernel_rfl) (by kernel_rfl) (by kernel_rfl) (fun _ _ _ h => h) (Or.inl ⟨by rfl, ?h2⟩) hHeld ?_
          case h2 =>
            intro w' hSw
            (try dsimp only at hSw)
            go_simp
            (try with_reducible rfl)
          (try simp only [Act.put]); (try simp only [List.setIfInBounds_toArray]); (try simp only [List.set_cons_succ]); (try simp only [List.set_cons_zero])
          refine wpAnyH_take (i := 3) (v := ?_) rfl (by kernel_rfl) (by kernel_rfl) (by kernel_rfl) (fun _ _ _ h => h) (Or.inl ⟨by rfl, ?h3⟩) hHeld ?_
          case h3 =>
            intro w' hSw
            (try dsimp only at hSw)
            go_simp
            (try with_reducible rfl)
          (try simp only [Act.put]); (try simp only [List.setIfInBounds_toArray]); (try simp only [List.set_cons_succ]); (try simp only [List.set_cons_zero])
          refine wpAnyH_take (i := 4) (v := ?_) rfl (by kernel_rfl) (by kernel_rfl) (by kernel_rfl) (fun _ _ _ h => h) (Or.inl ⟨by rfl, ?h4⟩) hHeld ?_
          case h4 =>
            intro w' hSw
            (try dsimp only at hSw)
            go_simp
            (try with_reducible rfl)
          (try simp only [Act.put]); (try simp only [List.setIfInBounds_toArray]); (try simp only [List.set_cons_succ]); (try simp only [List.set_cons_zero])
          refine wpAnyH_take (i := 5) (v := ?_) rfl (by kernel_rfl) (by kernel_rfl) (by kernel_rfl) (fun _ _ _ h => h) (Or.inl ⟨by rfl, ?h5⟩) hHeld ?_
          case h5 =>
            intro w' hSw
            (try dsimp only at hSw)
            go_simp
            (try with_reducible rfl)
          (try simp only [Act.put]); (try simp only [List.setIfInBounds_toArray]); (try simp only [List.set_cons_succ]); (try simp only [List.set_cons_zero])
          refine wpAnyH_take (i := 6) (v := ?_) rfl (by kernel_rfl) (by kernel_rfl) (by kernel_rfl) (fun _ _ _ h => h) (Or.inl ⟨by rfl, ?h6⟩) hHeld ?_
          case h6 =>
            intro w' hSw
            (try dsimp only at hSw)
            go_simp
            (try with_reducible rfl)
          (try simp only [Act.put]); (try simp only [List.setIfInBounds_toArray]); (try simp only [List.set_cons_succ]); (try simp only [List.set_cons_zero])
          refine wpAnyH_take (i := 7) (v := ?_) rfl (by kernel_rfl) (by kernel_rfl) (by kernel_rfl) (fun _ _ _ h => h) (Or.inl ⟨by rfl, ?h7⟩) hHeld ?_
          case h7 =>
            intro w' hSw
            (try dsimp only at hSw)
            go_simp
            (try with_reducible rfl)
          (try simp only [Act.put]); (try simp only [List.setIfInBounds_toArray]); (try simp only [List.set_cons_succ]); (try simp only [List.set_cons_zero])
          refine wpAnyH_take (i := 8) (v := ?_) rfl (by kernel_rfl) (by kernel_rfl) (by kernel_rfl) (fun _ _ _ h => h) (Or.inl ⟨by rfl, ?h8⟩) hHeld ?_
          case h8 =>
            intro w' hSw
            (try dsimp only at hSw)
            go_simp
            (try with_reducible rfl)
          (try simp only [Act.put]); (try simp only [List.setIfInBounds_toArray]); (try simp only [List.set_cons_succ]); (try simp only [List.set_cons_zero])
          refine wpAnyH_take (i := 9) (v := ?_) rfl (by kernel_rfl) (by kernel_rfl) (by kernel_rfl) (fun _ _ _ h => h) (Or.inl ⟨by rfl, ?h9⟩) hHeld ?_
          case h9 =>
            intro w' hSw
            (try dsimp only at hSw)
            go_simp
            (try with_reducible rfl)
          (try simp only [Act.put]); (try simp only [List.setIfInBounds_toArray]); (try simp only [List.set_cons_succ]); (try simp only [List.set_cons_zero])
          refine wpAnyH_take (i := 11) (v := ?_) rfl (by kernel_rfl) (by kernel_rfl) (by kernel_rfl) (fun _ _ _ h => h) (Or.inl ⟨by rfl, ?h11⟩) hHeld ?_
          case h11 =>
            intro w' hSw
            (try dsimp only at hSw)
            go_simp
            (try with_reducible rfl)
          (try simp only [Act.put]); (try simp only [List.setIfInBounds_toArray]); (try simp only [List.set_cons_succ]); (try simp only [List.set_cons_zero])
          refine wpAnyH_ready (rs := [10]) (by kernel_rfl) (by simp) ?_
          refine AllReadyH.cons rfl (fun K hK => ?_) (AllReadyH.nil)
          go_simp
          (refine (CC.out _ hHeld.bel).mono ?_)
          rintro e w5 ⟨rfl, hb⟩
          have hb2 := (Below.refl _ wr).drew.trans hb
          have HO5 := Lib.hid (row_below HI.out.1 hb2)
          have HB5 := Lib.hid (HI.out.2.trans (hb2.mono HI.out.2.size))
          have hS2 := hHeld.below hb
          clear hb hb2
          refine hK.out _ _ hS2 (fun hHeld => ?_)
          clear hK K hS2
          (try simp only [Act.put]); (try simp only [List.setIfInBounds_toArray]); (try simp only [List.set_cons_succ]); (try simp only [List.set_cons_zero])
          refine wpAnyH_take (i := 12) (v := ?_) rfl (by kernel_rfl) (by kernel_rfl) (by kernel_rfl) (fun _ _ _ h => h) (Or.inl ⟨by rfl, ?h12⟩) hHeld ?_
          case h12 =>
            intro w' hSw
            (try dsimp only at hSw)
            go_simp
            (try with_reducible rfl)
          (try simp only [Act.put]); (try simp only [List.setIfInBounds_toArray]); (try simp only [List.set_cons_succ]); (try simp only [List.set_cons_zero])
          refine wpAnyH_ready (rs := [13]) (by kernel_rfl) (by simp) ?_
          refine AllReadyH.cons rfl (fun K hK => ?_) (AllReadyH.nil)
          go_simp
          have HNB := Lib.hid (Blk.new w5 #[.bool (decide (cv ≤ L))] 4)
          refine hK.out _ _ (hHeld.alloc _) (fun hHeld => ?_)
          clear hK K
          (try simp only [Act.put]); (try simp only [List.setIfInBounds_toArray]); (try simp only [List.set_cons_succ]); (try simp only [List.set_cons_zero])
          refine wpAnyH_ready (rs := [14]) (by kernel_rfl) (by simp) ?_
          refine AllReadyH.cons rfl (fun K hK => ?_) (AllReadyH.nil)
          refine step_append_own rfl _ _ 116 rfl wo.heap.size 4 i0 _ 1 1 Tryz.underlying116 HI4.out.1 HI4.out.2.1 HI4.out.2.2.1 HI4.out.2.2.2 rfl (by decide) _ k _ rfl (HO5.out.alloc _) ⟨w5.heap.size, 0, none⟩ 1 1 [.bool (decide (cv ≤ L))] rfl rfl (news_one (HNB.out.cell 0)) (by intro u hu; simp at hu; subst hu; rfl) (by unfold maxLen; omega) (by omega) (by have := HB5.out.size; simp; omega) ?_
          intro v' w7 hown hgr _
          have HO7 := Lib.hid hown
          have HB7 := Lib.hid ((HB5.out.alloc HB5.out.size (.cells #[.bool (decide (cv ≤ L))] 4)).grown hgr (by have := HB5.out.size; simp; omega) (fun r e => (HO5.out.lt r e).1))
          have hS3 : KS w BS w7 := by rw [HBS.out]; have h := hHeld; rw [HBS.out] at h; exact KS1_rowg h hgr hszo (fun r e => (HO5.out.lt r e).1)
          clear hown hgr
          refine hK.out _ _ hS3 (fun hHeld => ?_)
          clear hK K hS3
          (try simp only [Act.put]); (try simp only [List.setIfInBounds_toArray]); (try simp only [List.set_cons_succ]); (try simp only [List.set_cons_zero])
          refine wpAnyH_ready (rs := [15]) (by kernel_rfl) (by simp) ?_
          refine AllReadyH.cons rfl (fun K hK => ?_) (AllReadyH.nil)
          go_simp
          refine hK.out _ _ hHeld (fun hHeld => ?_)
          clear hK K
          (try simp only [Act.put]); (try simp only [List.setIfInBounds_toArray]); (try simp only [List.set_cons_succ]); (try simp only [List.set_cons_zero])
          refine wpAnyH_done (by kernel_rfl) ?_ _
          clear hHeld K0 K1 K2 K3 K4 K5 K6 L0 L1 HBS
          go_wp2_with fail
          go_roundw
          case rel => exact ⟨k + 1, by omega, by go_num, by rw [← HBS'.out]; exact HO7.out, HB7.out⟩
          case measure => simp [intOf]; omega
        · obtain rfl : k = m := by omega
          have pk1 : ¬ (k : Int) < (k : Int) := by omega
          obtain ⟨gu, cu, rfl⟩ := Joins.ownsRow_form HI.out.1 (by omega)
          obtain ⟨vs, h1, h2, h3⟩ := H.out.1
          have HTS := Lib.hid (show (List.range (i + 1)).map (fun i => (List.range k).map (r i)) = (List.range i).map (fun i => (List.range k).map (r i)) ++ [(List.range k).map (r i)] by simp [List.range_succ])
          obtain ⟨tab, htab⟩ : ∃ tab, tab = (List.range i).map fun i => (List.range k).map (r i) := ⟨_, rfl⟩
          have htl : tab.length = i := by rw [htab]; simp
          rw [← htab] at h1 h2 HTS
          have H1 := Lib.hid h1
          have H2 := Lib.hid h2
          have H3 := Lib.hid h3
          have HTL := Lib.hid htl
          rw [htl] at h1
          have HO1 := Lib.hid (row_below h1 HI.out.2)
          obtain ⟨i0, hi0, hz0, hz1, hz2⟩ := info_parts tInfo116
          have hszr := HI.out.2.size
          clear h1 h2 h3 htab htl
          go_wp2_with (at_builtin; refine wpList_append_own_at _ rfl _ _ 114 rfl (w.heap.size + 1) 116 i0 (.slice none 0 0) 1 24 Tryz.underlying114 hi0 hz0 hz1 hz2 rfl (by decide) _ _ _ rfl (HO1.out.alloc _) ⟨wr.heap.size, 0, none⟩ 1 1 [.slice (some ⟨gu, 0, none⟩) k cu] rfl rfl (cell_one_new _ _ _) (by simp [Value.oneCell']) (by unfold maxLen; omega) (by omega) (by simp; omega) ?_; intro v' w9 hown' hgrow _ hat; have HO9 := Lib.hid hown'; have HG9 := Lib.hid hgrow; have HAT := Lib.hid hat; clear hown' hgrow hat)
          go_roundw
          case rel =>
            have hal := (Below.refl wr.heap.size wr).alloc (Nat.le_refl _) (.cells #[.slice (some ⟨gu, 0, none⟩) k cu] 116)
            refine ⟨i + 1, by omega, by go_num, ?_, KS1_rowg (HKS.out.below hal) HG9.out (Nat.lt_succ_self _) (fun r e => (HO1.out.lt r e).1)⟩
            rw [HTS.out]
            exact TabB.snoc H1.out H2.out H3.out (HI.out.2.trans (hal.mono HI.out.2.size)) (by omega) (by rw [List.length_map, List.length_range]; exact HI.out.1.alloc _) (by rw [HTL.out]; exact HO9.out) HG9.out HAT.out
          case measure => simp [intOf]; omega
    · obtain rfl : i = m := by omega
      have pim : ¬ (i : Int) < (i : Int) := by omega
      obtain ⟨b, gb, cap, q, c', rfl, hbt⟩ := TabB.bt H.out.1 rfl
      have S3 := Lib.hid (show KS w [(w.heap.size, rulesC a n c R.soft R.al R.ot R.sk R.ss R.db, 24)] wo ∧ BT wo (w.heap.size + 1) b gb i q c' (Nm.wj r 0) from ⟨H.out.2, hbt⟩)
      clear H hbt
      go_wp2_with fail
      go_loopw [11] (fun y11 wr => ∃ (j : Nat), j ≤ i ∧ y11 = .int .i64 (j : Int) ∧ Hid (KS w [(w.heap.size, rulesC a n c R.soft R.al R.ot R.sk R.ss R.db, 24)] wr ∧ BT wr (w.heap.size + 1) b gb i q c' (Nm.wj r j))) (fun y11 _ => i - (intOf y11).toNat)
      case atStart => exact ⟨0, Nat.zero_le _, rfl, S3.out⟩
      case round =>
        clear S3
        obtain ⟨j, hj, rfl, H⟩ := hrel
        by_cases hjm : j < i
        · have S4 := Lib.hid (show KS w [(w.heap.size, rulesC a n c R.soft R.al R.ot R.sk R.ss R.db, 24)] wr ∧ BT wr (w.heap.size + 1) b gb i q c' (mxJ r j 0 0) from ⟨H.out.1, by rw [mxJ_00]; exact H.out.2⟩)
          have eb := H.out.2.adr (by omega)
          subst eb
          have pj0 : (0 : Int) ≤ (j : Int) := by omega
          have pj1 : (j : Int) < (i : Int) := by omega
          clear H
          go_wp2_with fail
          go_loopw [12] (fun y12 wr => ∃ (p : Nat), p ≤ i ∧ y12 = .int .i64 (p : Int) ∧ Hid (KS w [(w.heap.size, rulesC a n c R.soft R.al R.ot R.sk R.ss R.db, 24)] wr ∧ BT wr (w.heap.size + 1) (some ⟨gb, 0, none⟩) gb i q c' (mxJ r j p 0))) (fun y12 _ => i - (intOf y12).toNat)
          case atStart => exact ⟨0, Nat.zero_le _, rfl, S4.out⟩
          case round =>
            clear S4
            obtain ⟨p, hp, rfl, H⟩ := hrel
            by_cases hpm : p < i
            · have pp0 : (0 : Int) ≤ (p : Int) := by omega
              have pp1 : (p : Int) < (i : Int) := by omega
              go_wp2_with fail
              go_loopw [13] (fun y13 wr => ∃ (k : Nat), k ≤ i ∧ y13 = .int .i64 (k : Int) ∧ Hid (KS w [(w.heap.size, rulesC a n c R.soft R.al R.ot R.sk R.ss R.db, 24)] wr ∧ BT wr (w.heap.size + 1) (some ⟨gb, 0, none⟩) gb i q c' (mxJ r j p k))) (fun y13 _ => i - (intOf y13).toNat)
              case atStart => exact ⟨0, Nat.zero_le _, rfl, H.out⟩
              case round =>
                clear H
                obtain ⟨k, hk, rfl, H⟩ := hrel
                by_cases hkm : k < i
                · have pk0 : (0 : Int) ≤ (k : Int) := by omega
                  have pk1 : (k : Int) < (i : Int) := by omega
                  have kc1 := H.out.2.cell hpm hkm
                  have kc2 := H.out.2.cell hpm hjm
                  have kc3 := H.out.2.cell hjm hkm
                  have kcf : wr.frozen? ⟨q p, k, none⟩ = false := H.out.2.frozen hpm
                  rw [mxJ_ik] at kc1
                  rw [mxJ_ij] at kc2
                  rw [mxJ_jk] at kc3
                  have HUP := Lib.hid (mxJ_up r j p k)
                  have HWS := Lib.hid (show Nm.wj r (j + 1) p k = (Nm.wj r j p k || (Nm.wj r j p j && Nm.wj r j j k)) from rfl)
                  have HBD := Lib.hid (show KS w [(w.heap.size, rulesC a n c R.soft R.al R.ot R.sk R.ss R.db, 24)] wr.drew ∧ BT wr.drew (w.heap.size + 1) (some ⟨gb, 0, none⟩) gb i q c' (mxJ r j p k) from ⟨H.out.1.drew, H.out.2.below (Below.refl _ _).drew⟩)
                  generalize Nm.wj r j p k = b1 at *
                  generalize Nm.wj r j p j = b2 at *
                  generalize Nm.wj r j j k = b3 at *
                  have hS : TP w (rulesC a n c R.soft R.al R.ot R.sk R.ss R.db) gb i q c' wr.drew := ⟨HBD.out.1, HBD.out.2.top⟩
                  have T0 : ∀ W, TP w (rulesC a n c R.soft R.al R.ot R.sk R.ss R.db) gb i q c' W → W.cell? ⟨gb, p, none⟩ = some (.slice (some ⟨q p, 0, none⟩) i (c' p)) := fun W h => h.2 p hpm
                  have T1 : ∀ W, TP w (rulesC a n c R.soft R.al R.ot R.sk R.ss R.db) gb i q c' W → W.cell? ⟨gb, j, none⟩ = some (.slice (some ⟨q j, 0, none⟩) i (c' j)) := fun W h => h.2 j hjm
                  cases b1 with
                  | true =>
                    go_wp2_with fail
                    refine wp_region_held_drew (S := TP w (rulesC a n c R.soft R.al R.ot R.sk R.ss R.db) gb i q c') (by kernel_rfl) hS (fun hHeld => ?_)
                    clear hS
                    refine wpAnyH_take (i := 0) (v := ?_) rfl (by kernel_rfl) (by kernel_rfl) (by kernel_rfl) (fun _ _ _ h => h) (Or.inl ⟨by rfl, ?h0⟩) hHeld ?_
                    case h0 =>
                      intro w' hSw
                      (try dsimp only at hSw)
                      go_simp
                      (try with_reducible rfl)
                    (try simp only [Act.put]); (try simp only [List.setIfInBounds_toArray]); (try simp only [List.set_cons_succ]); (try simp only [List.set_cons_zero])
                    refine wpAnyH_take (i := 1) (v := ?_) rfl (by kernel_rfl) (by kernel_rfl) (by kernel_rfl) (fun _ _ _ h => h) (Or.inl ⟨by rfl, ?h1⟩) hHeld ?_
                    case h1 =>
                      intro w' hSw
                      (try dsimp only at hSw)
                      go_simp
                      (try with_reducible rfl)
                    (try simp only [Act.put]); (try simp only [List.setIfInBounds_toArray]); (try simp only [List.set_cons_succ]); (try simp only [List.set_cons_zero])
                    refine wpAnyH_take (i := 2) (v := ?_) rfl (by kernel_rfl) (by kernel_rfl) (by kernel_rfl) (fun _ _ _ h => h) (Or.inl ⟨by rfl, ?h2⟩) hHeld ?_
                    case h2 =>
                      intro w' hSw
                      (try dsimp only at hSw)
                      go_simp
                      (try with_reducible rfl)
                    (try simp only [Act.put]); (try simp only [List.setIfInBounds_toArray]); (try simp only [List.set_cons_succ]); (try simp only [List.set_cons_zero])
                    refine wpAnyH_take (i := 3) (v := ?_) rfl (by kernel_rfl) (by kernel_rfl) (by kernel_rfl) (fun _ _ _ h => h) (Or.inl ⟨by rfl, ?h3⟩) hHeld ?_
                    case h3 =>
                      intro w' hSw
                      (try dsimp only at hSw)
                      go_simp
                      (try with_reducible rfl)
                    (try simp only [Act.put]); (try simp only [List.setIfInBounds_toArray]); (try simp only [List.set_cons_succ]); (try simp only [List.set_cons_zero])
                    refine wpAnyH_take (i := 4) (v := ?_) rfl (by kernel_rfl) (by kernel_rfl) (by kernel_rfl) (fun _ _ _ h => h) (Or.inl ⟨by rfl, ?h4⟩) hHeld ?_
                    case h4 =>
                      intro w' hSw
                      (try dsimp only at hSw)
                      go_simp
                      (try with_reducible rfl)
                    (try simp only [Act.put]); (try simp only [List.setIfInBounds_toArray]); (try simp only [List.set_cons_succ]); (try simp only [List.set_cons_zero])
                    refine wpAnyH_take (i := 5) (v := ?_) rfl (by kernel_rfl) (by kernel_rfl) (by kernel_rfl) (fun _ _ _ h => h) (Or.inl ⟨by rfl, ?h5⟩) hHeld ?_
                    case h5 =>
                      intro w' hSw
                      (try dsimp only at hSw)
                      go_simp
                      (try with_reducible rfl)
                    (try simp only [Act.put]); (try simp only [List.setIfInBounds_toArray]); (try simp only [List.set_cons_succ]); (try simp only [List.set_cons_zero])
                    refine wpAnyH_take (i := 6) (v := ?_) rfl (by kernel_rfl) (by kernel_rfl) (by kernel_rfl) (fun _ _ _ h => h) (Or.inl ⟨by rfl, ?h6⟩) hHeld ?_
                    case h6 =>
                      intro w' hSw
                      (try dsimp only at hSw)
                      go_simp
                      (try with_reducible rfl)
                    (try simp only [Act.put]); (try simp only [List.setIfInBounds_toArray]); (try simp only [List.set_cons_succ]); (try simp only [List.set_cons_zero])
                    refine wpAnyH_take (i := 7) (v := ?_) rfl (by kernel_rfl) (by kernel_rfl) (by kernel_rfl) (fun _ _ _ h => h) (Or.inl ⟨by rfl, ?h7⟩) hHeld ?_
                    case h7 =>
                      intro w' hSw
                      (try dsimp only at hSw)
                      go_simp
                      (try with_reducible rfl)
                    (try simp only [Act.put]); (try simp only [List.setIfInBounds_toArray]); (try simp only [List.set_cons_succ]); (try simp only [List.set_cons_zero])
                    refine wpAnyH_take (i := 8) (v := ?_) rfl (by kernel_rfl) (by kernel_rfl) (by kernel_rfl) (fun _ _ _ h => h) (Or.inl ⟨by rfl, ?h8⟩) hHeld ?_
                    case h8 =>
                      intro w' hSw
                      (try dsimp only at hSw)
                      go_simp
                      (try with_reducible rfl)
                    (try simp only [Act.put]); (try simp only [List.setIfInBounds_toArray]); (try simp only [List.set_cons_succ]); (try simp only [List.set_cons_zero])
                    refine wpAnyH_take (i := 9) (v := ?_) rfl (by kernel_rfl) (by kernel_rfl) (by kernel_rfl) (fun _ _ _ h => h) (Or.inl ⟨by rfl, ?h9⟩) hHeld ?_
                    case h9 =>
                      intro w' hSw
                      (try dsimp only at hSw)
                      go_simp
                      (try with_reducible rfl)
                    (try simp only [Act.put]); (try simp only [List.setIfInBounds_toArray]); (try simp only [List.set_cons_succ]); (try simp only [List.set_cons_zero])
                    refine wpAnyH_take (i := 10) (v := ?_) rfl (by kernel_rfl) (by kernel_rfl) (by kernel_rfl) (fun _ _ _ h => h) (Or.inl ⟨by rfl, ?h10⟩) hHeld ?_
                    case h10 =>
                      intro w' hSw
                      (try dsimp only at hSw)
                      go_simp
                      (try with_reducible rfl)
                    (try simp only [Act.put]); (try simp only [List.setIfInBounds_toArray]); (try simp only [List.set_cons_succ]); (try simp only [List.set_cons_zero])
                    refine wpAnyH_ready (rs := [11]) (by kernel_rfl) (by simp) ?_
                    refine AllReadyH.cons rfl (fun K hK => ?_) (AllReadyH.nil)
                    go_simp
                    refine hK.out _ _ hHeld (fun hHeld => ?_)
                    clear hK K
                    (try simp only [Act.put]); (try simp only [List.setIfInBounds_toArray]); (try simp only [List.set_cons_succ]); (try simp only [List.set_cons_zero])
                    refine wpAnyH_take (i := 12) (v := ?_) rfl (by kernel_rfl) (by kernel_rfl) (by kernel_rfl) (fun _ _ _ h => h) (Or.inl ⟨by rfl, ?h12⟩) hHeld ?_
                    case h12 =>
                      intro w' hSw
                      (try dsimp only at hSw)
                      go_simp
                      (try with_reducible rfl)
                    (try simp only [Act.put]); (try simp only [List.setIfInBounds_toArray]); (try simp only [List.set_cons_succ]); (try simp only [List.set_cons_zero])
                    refine wpAnyH_take (i := 13) (v := undef) rfl (by kernel_rfl) (by kernel_rfl) (by kernel_rfl) (fun _ _ _ h => h) (Or.inr ⟨by kernel_rfl, rfl⟩) hHeld ?_
                    (try simp only [Act.put]); (try simp only [List.setIfInBounds_toArray]); (try simp only [List.set_cons_succ]); (try simp only [List.set_cons_zero])
                    refine wpAnyH_take (i := 14) (v := undef) rfl (by kernel_rfl) (by kernel_rfl) (by kernel_rfl) (fun _ _ _ h => h) (Or.inr ⟨by kernel_rfl, rfl⟩) hHeld ?_
                    (try simp only [Act.put]); (try simp only [List.setIfInBounds_toArray]); (try simp only [List.set_cons_succ]); (try simp only [List.set_cons_zero])
                    refine wpAnyH_take (i := 15) (v := undef) rfl (by kernel_rfl) (by kernel_rfl) (by kernel_rfl) (fun _ _ _ h => h) (Or.inr ⟨by kernel_rfl, rfl⟩) hHeld ?_
                    (try simp only [Act.put]); (try simp only [List.setIfInBounds_toArray]); (try simp only [List.set_cons_succ]); (try simp only [List.set_cons_zero])
                    refine wpAnyH_take (i := 16) (v := undef) rfl (by kernel_rfl) (by kernel_rfl) (by kernel_rfl) (fun _ _ _ h => h) (Or.inr ⟨by kernel_rfl, rfl⟩) hHeld ?_
                    (try simp only [Act.put]); (try simp only [List.setIfInBounds_toArray]); (try simp only [List.set_cons_succ]); (try simp only [List.set_cons_zero])
                    refine wpAnyH_take (i := 17) (v := undef) rfl (by kernel_rfl) (by kernel_rfl) (by kernel_rfl) (fun _ _ _ h => h) (Or.inr ⟨by kernel_rfl, rfl⟩) hHeld ?_
                    (try simp only [Act.put]); (try simp only [List.setIfInBounds_toArray]); (try simp only [List.set_cons_succ]); (try simp only [List.set_cons_zero])
                    refine wpAnyH_take (i := 18) (v := undef) rfl (by kernel_rfl) (by kernel_rfl) (by kernel_rfl) (fun _ _ _ h => h) (Or.inr ⟨by kernel_rfl, rfl⟩) hHeld ?_
                    (try simp only [Act.put]); (try simp only [List.setIfInBounds_toArray]); (try simp only [List.set_cons_succ]); (try simp only [List.set_cons_zero])
                    refine wpAnyH_take (i := 19) (v := undef) rfl (by kernel_rfl) (by kernel_rfl) (by kernel_rfl) (fun _ _ _ h => h) (Or.inr ⟨by kernel_rfl, rfl⟩) hHeld ?_
                    (try simp only [Act.put]); (try simp only [List.setIfInBounds_toArray]); (try simp only [List.set_cons_succ]); (try simp only [List.set_cons_zero])
                    refine wpAnyH_take (i := 20) (v := undef) rfl (by kernel_rfl) (by kernel_rfl) (by kernel_rfl) (fun _ _ _ h => h) (Or.inr ⟨by kernel_rfl, rfl⟩) hHeld ?_
                    (try simp only [Act.put]); (try simp only [List.setIfInBounds_toArray]); (try simp only [List.set_cons_succ]); (try simp only [List.set_cons_zero])
                    refine wpAnyH_take (i := 21) (v := undef) rfl (by kernel_rfl) (by kernel_rfl) (by kernel_rfl) (fun _ _ _ h => h) (Or.inr ⟨by kernel_rfl, rfl⟩) hHeld ?_
                    (try simp only [Act.put]); (try simp only [List.setIfInBounds_toArray]); (try simp only [List.set_cons_succ]); (try simp only [List.set_cons_zero])
                    refine wpAnyH_take (i := 22) (v := undef) rfl (by kernel_rfl) (by kernel_rfl) (by kernel_rfl) (fun _ _ _ h => h) (Or.inr ⟨by kernel_rfl, rfl⟩) hHeld ?_
                    (try simp only [Act.put]); (try simp only [List.setIfInBounds_toArray]); (try simp only [List.set_cons_succ]); (try simp only [List.set_cons_zero])
                    refine wpAnyH_take (i := 23) (v := undef) rfl (by kernel_rfl) (by kernel_rfl) (by kernel_rfl) (fun _ _ _ h => h) (Or.inr ⟨by kernel_rfl, rfl⟩) hHeld ?_
                    (try simp only [Act.put]); (try simp only [List.setIfInBounds_toArray]); (try simp only [List.set_cons_succ]); (try simp only [List.set_cons_zero])
                    refine wpAnyH_take (i := 24) (v := undef) rfl (by kernel_rfl) (by kernel_rfl) (by kernel_rfl) (fun _ _ _ h => h) (Or.inr ⟨by kernel_rfl, rfl⟩) hHeld ?_
                    (try simp only [Act.put]); (try simp only [List.setIfInBounds_toArray]); (try simp only [List.set_cons_succ]); (try simp only [List.set_cons_zero])
                    refine wpAnyH_take (i := 25) (v := undef) rfl (by kernel_rfl) (by kernel_rfl) (by kernel_rfl) (fun _ _ _ h => h) (Or.inr ⟨by kernel_rfl, rfl⟩) hHeld ?_
                    (try simp only [Act.put]); (try simp only [List.setIfInBounds_toArray]); (try simp only [List.set_cons_succ]); (try simp only [List.set_cons_zero])
                    refine wpAnyH_take (i := 26) (v := undef) rfl (by kernel_rfl) (by kernel_rfl) (by kernel_rfl) (fun _ _ _ h => h) (Or.inr ⟨by kernel_rfl, rfl⟩) hHeld ?_
                    (try simp only [Act.put]); (try simp only [List.setIfInBounds_toArray]); (try simp only [List.set_cons_succ]); (try simp only [List.set_cons_zero])
                    refine wpAnyH_take (i := 27) (v := undef) rfl (by kernel_rfl) (by kernel_rfl) (by kernel_rfl) (fun _ _ _ h => h) (Or.inr ⟨by kernel_rfl, rfl⟩) hHeld ?_
                    (try simp only [Act.put]); (try simp only [List.setIfInBounds_toArray]); (try simp only [List.set_cons_succ]); (try simp only [List.set_cons_zero])
                    refine wpAnyH_take (i := 28) (v := undef) rfl (by kernel_rfl) (by kernel_rfl) (by kernel_rfl) (fun _ _ _ h => h) (Or.inr ⟨by kernel_rfl, rfl⟩) hHeld ?_
                    (try simp only [Act.put]); (try simp only [List.setIfInBounds_toArray]); (try simp only [List.set_cons_succ]); (try simp only [List.set_cons_zero])
                    refine wpAnyH_take (i := 29) (v := ?_) rfl (by kernel_rfl) (by kernel_rfl) (by kernel_rfl) (fun _ _ _ h => h) (Or.inl ⟨by rfl, ?h29⟩) hHeld ?_
                    case h29 =>
                      intro w' hSw
                      (try dsimp only at hSw)
                      go_simp
                      (try with_reducible rfl)
                    (try simp only [Act.put]); (try simp only [List.setIfInBounds_toArray]); (try simp only [List.set_cons_succ]); (try simp only [List.set_cons_zero])
                    refine wpAnyH_take (i := 30) (v := ?_) rfl (by kernel_rfl) (by kernel_rfl) (by kernel_rfl) (fun _ _ _ h => h) (Or.inl ⟨by rfl, ?h30⟩) hHeld ?_
                    case h30 =>
                      intro w' hSw
                      (try dsimp only at hSw)
                      go_simp
                      (try with_reducible rfl)
                    (try simp only [Act.put]); (try simp only [List.setIfInBounds_toArray]); (try simp only [List.set_cons_succ]); (try simp only [List.set_cons_zero])
                    refine wpAnyH_ready (rs := [31]) (by kernel_rfl) (by simp) ?_
                    refine AllReadyH.cons rfl (fun K hK => ?_) (AllReadyH.nil)
                    go_simp
                    refine hK.out _ _ (TP.put HBD.out.1 HBD.out.2 hpm hkm true) (fun hHeld => ?_)
                    clear hK K
                    (try simp only [Act.put]); (try simp only [List.setIfInBounds_toArray]); (try simp only [List.set_cons_succ]); (try simp only [List.set_cons_zero])
                    refine wpAnyH_done (by kernel_rfl) ?_ _
                    clear hHeld T0 T1 kc1 kc2 kc3 kcf
                    have S9 := Lib.hid (show KS w [(w.heap.size, rulesC a n c R.soft R.al R.ot R.sk R.ss R.db, 24)] (wr.drew.setCell ⟨q p, k, none⟩ (.bool true)) ∧ BT (wr.drew.setCell ⟨q p, k, none⟩ (.bool true)) (w.heap.size + 1) (some ⟨gb, 0, none⟩) gb i q c' (mxJ r j p (k + 1)) from ⟨(TP.put HBD.out.1 HBD.out.2 hpm hkm true).1, by rw [← HUP.out true (by rw [HWS.out]; rfl)]; exact HBD.out.2.set hpm hkm true⟩)
                    clear HBD H
                    go_wp2_with fail
                    go_roundw
                    case rel => exact ⟨k + 1, by omega, by go_num, S9.out⟩
                    case measure => simp [intOf]; omega
                  | false =>
                    cases b2 with
                    | false =>
                      go_wp2_with fail
                      refine wp_region_held_drew (S := TP w (rulesC a n c R.soft R.al R.ot R.sk R.ss R.db) gb i q c') (by kernel_rfl) hS (fun hHeld => ?_)
                      clear hS
                      refine wpAnyH_take (i := 0) (v := ?_) rfl (by kernel_rfl) (by kernel_rfl) (by kernel_rfl) (fun _ _ _ h => h) (Or.inl ⟨by rfl, ?h0⟩) hHeld ?_
                      case h0 =>
                        intro w' hSw
                        (try dsimp only at hSw)
                        go_simp
                        (try with_reducible rfl)
                      (try simp only [Act.put]); (try simp only [List.setIfInBounds_toArray]); (try simp only [List.set_cons_succ]); (try simp only [List.set_cons_zero])
                      refine wpAnyH_take (i := 1) (v := ?_) rfl (by kernel_rfl) (by kernel_rfl) (by kernel_rfl) (fun _ _ _ h => h) (Or.inl ⟨by rfl, ?h1⟩) hHeld ?_
                      case h1 =>
                        intro w' hSw
                        (try dsimp only at hSw)
                        go_simp
                        (try with_reducible rfl)
                      (try simp only [Act.put]); (try simp only [List.setIfInBounds_toArray]); (try simp only [List.set_cons_succ]); (try simp only [List.set_cons_zero])
                      refine wpAnyH_take (i := 2) (v := ?_) rfl (by kernel_rfl) (by kernel_rfl) (by kernel_rfl) (fun _ _ _ h => h) (Or.inl ⟨by rfl, ?h2⟩) hHeld ?_
                      case h2 =>
                        intro w' hSw
                        (try dsimp only at hSw)
                        go_simp
                        (try with_reducible rfl)
                      (try simp only [Act.put]); (try simp only [List.setIfInBounds_toArray]); (try simp only [List.set_cons_succ]); (try simp only [List.set_cons_zero])
                      refine wpAnyH_take (i := 3) (v := ?_) rfl (by kernel_rfl) (by kernel_rfl) (by kernel_rfl) (fun _ _ _ h => h) (Or.inl ⟨by rfl, ?h3⟩) hHeld ?_
                      case h3 =>
                        intro w' hSw
                        (try dsimp only at hSw)
                        go_simp
                        (try with_reducible rfl)
                      (try simp only [Act.put]); (try simp only [List.setIfInBounds_toArray]); (try simp only [List.set_cons_succ]); (try simp only [List.set_cons_zero])
                      refine wpAnyH_take (i := 4) (v := ?_) rfl (by kernel_rfl) (by kernel_rfl) (by kernel_rfl) (fun _ _ _ h => h) (Or.inl ⟨by rfl, ?h4⟩) hHeld ?_
                      case h4 =>
                        intro w' hSw
                        (try dsimp only at hSw)
                        go_simp
                        (try with_reducible rfl)
                      (try simp only [Act.put]); (try simp only [List.setIfInBounds_toArray]); (try simp only [List.set_cons_succ]); (try simp only [List.set_cons_zero])
                      refine wpAnyH_take (i := 5) (v := ?_) rfl (by kernel_rfl) (by kernel_rfl) (by kernel_rfl) (fun _ _ _ h => h) (Or.inl ⟨by rfl, ?h5⟩) hHeld ?_
                      case h5 =>
                        intro w' hSw
                        (try dsimp only at hSw)
                        go_simp
                        (try with_reducible rfl)
                      (try simp only [Act.put]); (try simp only [List.setIfInBounds_toArray]); (try simp only [List.set_cons_succ]); (try simp only [List.set_cons_zero])
                      refine wpAnyH_take (i := 6) (v := ?_) rfl (by kernel_rfl) (by kernel_rfl) (by kernel_rfl) (fun _ _ _ h => h) (Or.inl ⟨by rfl, ?h6⟩) hHeld ?_
                      case h6 =>
                        intro w' hSw
                        (try dsimp only at hSw)
                        go_simp
                        (try with_reducible rfl)
                      (try simp only [Act.put]); (try simp only [List.setIfInBounds_toArray]); (try simp only [List.set_cons_succ]); (try simp only [List.set_cons_zero])
                      refine wpAnyH_take (i := 7) (v := ?_) rfl (by kernel_rfl) (by kernel_rfl) (by kernel_rfl) (fun _ _ _ h => h) (Or.inl ⟨by rfl, ?h7⟩) hHeld ?_
                      case h7 =>
                        intro w' hSw
                        (try dsimp only at hSw)
                        go_simp
                        (try with_reducible rfl)
                      (try simp only [Act.put]); (try simp only [List.setIfInBounds_toArray]); (try simp only [List.set_cons_succ]); (try simp only [List.set_cons_zero])
                      refine wpAnyH_take (i := 8) (v := ?_) rfl (by kernel_rfl) (by kernel_rfl) (by kernel_rfl) (fun _ _ _ h => h) (Or.inl ⟨by rfl, ?h8⟩) hHeld ?_
                      case h8 =>
                        intro w' hSw
                        (try dsimp only at hSw)
                        go_simp
                        (try with_reducible rfl)
                      (try simp only [Act.put]); (try simp only [List.setIfInBounds_toArray]); (try simp only [List.set_cons_succ]); (try simp only [List.set_cons_zero])
                      refine wpAnyH_take (i := 9) (v := ?_) rfl (by kernel_rfl) (by kernel_rfl) (by kernel_rfl) (fun _ _ _ h => h) (Or.inl ⟨by rfl, ?h9⟩) hHeld ?_
                      case h9 =>
                        intro w' hSw
                        (try dsimp only at hSw)
                        go_simp
                        (try with_reducible rfl)
                      (try simp only [Act.put]); (try simp only [List.setIfInBounds_toArray]); (try simp only [List.set_cons_succ]); (try simp only [List.set_cons_zero])
                      refine wpAnyH_take (i := 10) (v := ?_) rfl (by kernel_rfl) (by kernel_rfl) (by kernel_rfl) (fun _ _ _ h => h) (Or.inl ⟨by rfl, ?h10⟩) hHeld ?_
                      case h10 =>
                        intro w' hSw
                        (try dsimp only at hSw)
                        go_simp
                        (try with_reducible rfl)
                      (try simp only [Act.put]); (try simp only [List.setIfInBounds_toArray]); (try simp only [List.set_cons_succ]); (try simp only [List.set_cons_zero])
                      refine wpAnyH_ready (rs := [11]) (by kernel_rfl) (by simp) ?_
                      refine AllReadyH.cons rfl (fun K hK => ?_) (AllReadyH.nil)
                      go_simp
                      refine hK.out _ _ hHeld (fun hHeld => ?_)
                      clear hK K
                      (try simp only [Act.put]); (try simp only [List.setIfInBounds_toArray]); (try simp only [List.set_cons_succ]); (try simp only [List.set_cons_zero])
                      refine wpAnyH_take (i := 12) (v := ?_) rfl (by kernel_rfl) (by kernel_rfl) (by kernel_rfl) (fun _ _ _ h => h) (Or.inl ⟨by rfl, ?h12⟩) hHeld ?_
                      case h12 =>
                        intro w' hSw
                        (try dsimp only at hSw)
                        go_simp
                        (try with_reducible rfl)
                      (try simp only [Act.put]); (try simp only [List.setIfInBounds_toArray]); (try simp only [List.set_cons_succ]); (try simp only [List.set_cons_zero])
                      refine wpAnyH_take (i := 13) (v := ?_) rfl (by kernel_rfl) (by kernel_rfl) (by kernel_rfl) (fun _ _ _ h => h) (Or.inl ⟨by kernel_rfl, ?h13⟩) hHeld ?_
                      case h13 =>
                        intro w' hSw
                        (try dsimp only at hSw)
                        go_simp
                        (try with_reducible rfl)
                      (try simp only [Act.put]); (try simp only [List.setIfInBounds_toArray]); (try simp only [List.set_cons_succ]); (try simp only [List.set_cons_zero])
                      refine wpAnyH_take (i := 14) (v := ?_) rfl (by kernel_rfl) (by kernel_rfl) (by kernel_rfl) (fun _ _ _ h => h) (Or.inl ⟨by kernel_rfl, ?h14⟩) hHeld ?_
                      case h14 =>
                        intro w' hSw
                        (try dsimp only at hSw)
                        go_simp
                        (try with_reducible rfl)
                      (try simp only [Act.put]); (try simp only [List.setIfInBounds_toArray]); (try simp only [List.set_cons_succ]); (try simp only [List.set_cons_zero])
                      refine wpAnyH_take (i := 15) (v := ?_) rfl (by kernel_rfl) (by kernel_rfl) (by kernel_rfl) (fun _ _ _ h => h) (Or.inl ⟨by kernel_rfl, ?h15⟩) hHeld ?_
                      case h15 =>
                        intro w' hSw
                        (try dsimp only at hSw)
                        go_simp
                        (try with_reducible rfl)
                      (try simp only [Act.put]); (try simp only [List.setIfInBounds_toArray]); (try simp only [List.set_cons_succ]); (try simp only [List.set_cons_zero])
                      refine wpAnyH_take (i := 16) (v := ?_) rfl (by kernel_rfl) (by kernel_rfl) (by kernel_rfl) (fun _ _ _ h => h) (Or.inl ⟨by kernel_rfl, ?h16⟩) hHeld ?_
                      case h16 =>
                        intro w' hSw
                        (try dsimp only at hSw)
                        go_simp
                        (try with_reducible rfl)
                      (try simp only [Act.put]); (try simp only [List.setIfInBounds_toArray]); (try simp only [List.set_cons_succ]); (try simp only [List.set_cons_zero])
                      refine wpAnyH_take (i := 17) (v := ?_) rfl (by kernel_rfl) (by kernel_rfl) (by kernel_rfl) (fun _ _ _ h => h) (Or.inl ⟨by kernel_rfl, ?h17⟩) hHeld ?_
                      case h17 =>
                        intro w' hSw
                        (try dsimp only at hSw)
                        go_simp
                        (try with_reducible rfl)
                      (try simp only [Act.put]); (try simp only [List.setIfInBounds_toArray]); (try simp only [List.set_cons_succ]); (try simp only [List.set_cons_zero])
                      refine wpAnyH_take (i := 18) (v := ?_) rfl (by kernel_rfl) (by kernel_rfl) (by kernel_rfl) (fun _ _ _ h => h) (Or.inl ⟨by kernel_rfl, ?h18⟩) hHeld ?_
                      case h18 =>
                        intro w' hSw
                        (try dsimp only at hSw)
                        go_simp
                        (try with_reducible rfl)
                      (try simp only [Act.put]); (try simp only [List.setIfInBounds_toArray]); (try simp only [List.set_cons_succ]); (try simp only [List.set_cons_zero])
                      refine wpAnyH_ready (rs := [19]) (by kernel_rfl) (by simp) ?_
                      refine AllReadyH.cons rfl (fun K hK => ?_) (AllReadyH.nil)
                      go_simp
                      refine hK.out _ _ hHeld (fun hHeld => ?_)
                      clear hK K
                      (try simp only [Act.put]); (try simp only [List.setIfInBounds_toArray]); (try simp only [List.set_cons_succ]); (try simp only [List.set_cons_zero])
                      refine wpAnyH_take (i := 20) (v := ?_) rfl (by kernel_rfl) (by kernel_rfl) (by kernel_rfl) (fun _ _ _ h => h) (Or.inl ⟨by kernel_rfl, ?h20⟩) hHeld ?_
                      case h20 =>
                        intro w' hSw
                        (try dsimp only at hSw)
                        go_simp
                        (try with_reducible rfl)
                      (try simp only [Act.put]); (try simp only [List.setIfInBounds_toArray]); (try simp only [List.set_cons_succ]); (try simp only [List.set_cons_zero])
                      refine wpAnyH_take (i := 21) (v := undef) rfl (by kernel_rfl) (by kernel_rfl) (by kernel_rfl) (fun _ _ _ h => h) (Or.inr ⟨by kernel_rfl, rfl⟩) hHeld ?_
                      (try simp only [Act.put]); (try simp only [List.setIfInBounds_toArray]); (try simp only [List.set_cons_succ]); (try simp only [List.set_cons_zero])
                      refine wpAnyH_take (i := 22) (v := undef) rfl (by kernel_rfl) (by kernel_rfl) (by kernel_rfl) (fun _ _ _ h => h) (Or.inr ⟨by kernel_rfl, rfl⟩) hHeld ?_
                      (try simp only [Act.put]); (try simp only [List.setIfInBounds_toArray]); (try simp only [List.set_cons_succ]); (try simp only [List.set_cons_zero])
                      refine wpAnyH_take (i := 23) (v := undef) rfl (by kernel_rfl) (by kernel_rfl) (by kernel_rfl) (fun _ _ _ h => h) (Or.inr ⟨by kernel_rfl, rfl⟩) hHeld ?_
                      (try simp only [Act.put]); (try simp only [List.setIfInBounds_toArray]); (try simp only [List.set_cons_succ]); (try simp only [List.set_cons_zero])
                      refine wpAnyH_take (i := 24) (v := undef) rfl (by kernel_rfl) (by kernel_rfl) (by kernel_rfl) (fun _ _ _ h => h) (Or.inr ⟨by kernel_rfl, rfl⟩) hHeld ?_
                      (try simp only [Act.put]); (try simp only [List.setIfInBounds_toArray]); (try simp only [List.set_cons_succ]); (try simp only [List.set_cons_zero])
                      refine wpAnyH_take (i := 25) (v := undef) rfl (by kernel_rfl) (by kernel_rfl) (by kernel_rfl) (fun _ _ _ h => h) (Or.inr ⟨by kernel_rfl, rfl⟩) hHeld ?_
                      (try simp only [Act.put]); (try simp only [List.setIfInBounds_toArray]); (try simp only [List.set_cons_succ]); (try simp only [List.set_cons_zero])
                      refine wpAnyH_take (i := 26) (v := undef) rfl (by kernel_rfl) (by kernel_rfl) (by kernel_rfl) (fun _ _ _ h => h) (Or.inr ⟨by kernel_rfl, rfl⟩) hHeld ?_
                      (try simp only [Act.put]); (try simp only [List.setIfInBounds_toArray]); (try simp only [List.set_cons_succ]); (try simp only [List.set_cons_zero])
                      refine wpAnyH_take (i := 27) (v := undef) rfl (by kernel_rfl) (by kernel_rfl) (by kernel_rfl) (fun _ _ _ h => h) (Or.inr ⟨by kernel_rfl, rfl⟩) hHeld ?_
                      (try simp only [Act.put]); (try simp only [List.setIfInBounds_toArray]); (try simp only [List.set_cons_succ]); (try simp only [List.set_cons_zero])
                      refine wpAnyH_take (i := 28) (v := ?_) rfl (by kernel_rfl) (by kernel_rfl) (by kernel_rfl) (fun _ _ _ h => h) (Or.inl ⟨by kernel_rfl, ?h28⟩) hHeld ?_
                      case h28 =>
                        intro w' hSw
                        (try dsimp only at hSw)
                        go_simp
                        (try with_reducible rfl)
                      (try simp only [Act.put]); (try simp only [List.setIfInBounds_toArray]); (try simp only [List.set_cons_succ]); (try simp only [List.set_cons_zero])
                      refine wpAnyH_take (i := 29) (v := ?_) rfl (by kernel_rfl) (by kernel_rfl) (by kernel_rfl) (fun _ _ _ h => h) (Or.inl ⟨by rfl, ?h29⟩) hHeld ?_
                      case h29 =>
                        intro w' hSw
                        (try dsimp only at hSw)
                        go_simp
                        (try with_reducible rfl)
                      (try simp only [Act.put]); (try simp only [List.setIfInBounds_toArray]); (try simp only [List.set_cons_succ]); (try simp only [List.set_cons_zero])
                      refine wpAnyH_take (i := 30) (v := ?_) rfl (by kernel_rfl) (by kernel_rfl) (by kernel_rfl) (fun _ _ _ h => h) (Or.inl ⟨by rfl, ?h30⟩) hHeld ?_
                      case h30 =>
                        intro w' hSw
                        (try dsimp only at hSw)
                        go_simp
                        (try with_reducible rfl)
                      (try simp only [Act.put]); (try simp only [List.setIfInBounds_toArray]); (try simp only [List.set_cons_succ]); (try simp only [List.set_cons_zero])
                      refine wpAnyH_ready (rs := [31]) (by kernel_rfl) (by simp) ?_
                      refine AllReadyH.cons rfl (fun K hK => ?_) (AllReadyH.nil)
                      go_simp
                      refine hK.out _ _ (TP.put HBD.out.1 HBD.out.2 hpm hkm false) (fun hHeld => ?_)
                      clear hK K
                      (try simp only [Act.put]); (try simp only [List.setIfInBounds_toArray]); (try simp only [List.set_cons_succ]); (try simp only [List.set_cons_zero])
                      refine wpAnyH_done (by kernel_rfl) ?_ _
                      clear hHeld T0 T1 kc1 kc2 kc3 kcf
                      have S9 := Lib.hid (show KS w [(w.heap.size, rulesC a n c R.soft R.al R.ot R.sk R.ss R.db, 24)] (wr.drew.setCell ⟨q p, k, none⟩ (.bool false)) ∧ BT (wr.drew.setCell ⟨q p, k, none⟩ (.bool false)) (w.heap.size + 1) (some ⟨gb, 0, none⟩) gb i q c' (mxJ r j p (k + 1)) from ⟨(TP.put HBD.out.1 HBD.out.2 hpm hkm false).1, by rw [← HUP.out false (by rw [HWS.out]; rfl)]; exact HBD.out.2.set hpm hkm false⟩)
                      clear HBD H
                      go_wp2_with fail
                      go_roundw
                      case rel => exact ⟨k + 1, by omega, by go_num, S9.out⟩
                      case measure => simp [intOf]; omega
                    | true =>
                      go_wp2_with fail
                      refine wp_region_held_drew (S := TP w (rulesC a n c R.soft R.al R.ot R.sk R.ss R.db) gb i q c') (by kernel_rfl) hS (fun hHeld => ?_)
                      clear hS
                      refine wpAnyH_take (i := 0) (v := ?_) rfl (by kernel_rfl) (by kernel_rfl) (by kernel_rfl) (fun _ _ _ h => h) (Or.inl ⟨by rfl, ?h0⟩) hHeld ?_
                      case h0 =>
                        intro w' hSw
                        (try dsimp only at hSw)
                        go_simp
                        (try with_reducible rfl)
                      (try simp only [Act.put]); (try simp only [List.setIfInBounds_toArray]); (try simp only [List.set_cons_succ]); (try simp only [List.set_cons_zero])
                      refine wpAnyH_take (i := 1) (v := ?_) rfl (by kernel_rfl) (by kernel_rfl) (by kernel_rfl) (fun _ _ _ h => h) (Or.inl ⟨by rfl, ?h1⟩) hHeld ?_
                      case h1 =>
                        intro w' hSw
                        (try dsimp only at hSw)
                        go_simp
                        (try with_reducible rfl)
                      (try simp only [Act.put]); (try simp only [List.setIfInBounds_toArray]); (try simp only [List.set_cons_succ]); (try simp only [List.set_cons_zero])
                      refine wpAnyH_take (i := 2) (v := ?_) rfl (by kernel_rfl) (by kernel_rfl) (by kernel_rfl) (fun _ _ _ h => h) (Or.inl ⟨by rfl, ?h2⟩) hHeld ?_
                      case h2 =>
                        intro w' hSw
                        (try dsimp only at hSw)
                        go_simp
                        (try with_reducible rfl)
                      (try simp only [Act.put]); (try simp only [List.setIfInBounds_toArray]); (try simp only [List.set_cons_succ]); (try simp only [List.set_cons_zero])
                      refine wpAnyH_take (i := 3) (v := ?_) rfl (by kernel_rfl) (by kernel_rfl) (by kernel_rfl) (fun _ _ _ h => h) (Or.inl ⟨by rfl, ?h3⟩) hHeld ?_
                      case h3 =>
                        intro w' hSw
                        (try dsimp only at hSw)
                        go_simp
                        (try with_reducible rfl)
                      (try simp only [Act.put]); (try simp only [List.setIfInBounds_toArray]); (try simp only [List.set_cons_succ]); (try simp only [List.set_cons_zero])
                      refine wpAnyH_take (i := 4) (v := ?_) rfl (by kernel_rfl) (by kernel_rfl) (by kernel_rfl) (fun _ _ _ h => h) (Or.inl ⟨by rfl, ?h4⟩) hHeld ?_
                      case h4 =>
                        intro w' hSw
                        (try dsimp only at hSw)
                        go_simp
                        (try with_reducible rfl)
                      (try simp only [Act.put]); (try simp only [List.setIfInBounds_toArray]); (try simp only [List.set_cons_succ]); (try simp only [List.set_cons_zero])
                      refine wpAnyH_take (i := 5) (v := ?_) rfl (by kernel_rfl) (by kernel_rfl) (by kernel_rfl) (fun _ _ _ h => h) (Or.inl ⟨by rfl, ?h5⟩) hHeld ?_
                      case h5 =>
                        intro w' hSw
                        (try dsimp only at hSw)
                        go_simp
                        (try with_reducible rfl)
                      (try simp only [Act.put]); (try simp only [List.setIfInBounds_toArray]); (try simp only [List.set_cons_succ]); (try simp only [List.set_cons_zero])
                      refine wpAnyH_take (i := 6) (v := ?_) rfl (by kernel_rfl) (by kernel_rfl) (by kernel_rfl) (fun _ _ _ h => h) (Or.inl ⟨by rfl, ?h6⟩) hHeld ?_
                      case h6 =>
                        intro w' hSw
                        (try dsimp only at hSw)
                        go_simp
                        (try with_reducible rfl)
                      (try simp only [Act.put]); (try simp only [List.setIfInBounds_toArray]); (try simp only [List.set_cons_succ]); (try simp only [List.set_cons_zero])
                      refine wpAnyH_take (i := 7) (v := ?_) rfl (by kernel_rfl) (by kernel_rfl) (by kernel_rfl) (fun _ _ _ h => h) (Or.inl ⟨by rfl, ?h7⟩) hHeld ?_
                      case h7 =>
                        intro w' hSw
                        (try dsimp only at hSw)
                        go_simp
                        (try with_reducible rfl)
                      (try simp only [Act.put]); (try simp only [List.setIfInBounds_toArray]); (try simp only [List.set_cons_succ]); (try simp only [List.set_cons_zero])
                      refine wpAnyH_take (i := 8) (v := ?_) rfl (by kernel_rfl) (by kernel_rfl) (by kernel_rfl) (fun _ _ _ h => h) (Or.inl ⟨by rfl, ?h8⟩) hHeld ?_
                      case h8 =>
                        intro w' hSw
                        (try dsimp only at hSw)
                        go_simp
                        (try with_reducible rfl)
                      (try simp only [Act.put]); (try simp only [List.setIfInBounds_toArray]); (try simp only [List.set_cons_succ]); (try simp only [List.set_cons_zero])
                      refine wpAnyH_take (i := 9) (v := ?_) rfl (by kernel_rfl) (by kernel_rfl) (by kernel_rfl) (fun _ _ _ h => h) (Or.inl ⟨by rfl, ?h9⟩) hHeld ?_
                      case h9 =>
                        intro w' hSw
                        (try dsimp only at hSw)
                        go_simp
                        (try with_reducible rfl)
                      (try simp only [Act.put]); (try simp only [List.setIfInBounds_toArray]); (try simp only [List.set_cons_succ]); (try simp only [List.set_cons_zero])
                      refine wpAnyH_take (i := 10) (v := ?_) rfl (by kernel_rfl) (by kernel_rfl) (by kernel_rfl) (fun _ _ _ h => h) (Or.inl ⟨by rfl, ?h10⟩) hHeld ?_
                      case h10 =>
                        intro w' hSw
                        (try dsimp only at hSw)
                        go_simp
                        (try with_reducible rfl)
                      (try simp only [Act.put]); (try simp only [List.setIfInBounds_toArray]); (try simp only [List.set_cons_succ]); (try simp only [List.set_cons_zero])
                      refine wpAnyH_ready (rs := [11]) (by kernel_rfl) (by simp) ?_
                      refine AllReadyH.cons rfl (fun K hK => ?_) (AllReadyH.nil)
                      go_simp
                      refine hK.out _ _ hHeld (fun hHeld => ?_)
                      clear hK K
                      (try simp only [Act.put]); (try simp only [List.setIfInBounds_toArray]); (try simp only [List.set_cons_succ]); (try simp only [List.set_cons_zero])
                      refine wpAnyH_take (i := 12) (v := ?_) rfl (by kernel_rfl) (by kernel_rfl) (by kernel_rfl) (fun _ _ _ h => h) (Or.inl ⟨by rfl, ?h12⟩) hHeld ?_
                      case h12 =>
                        intro w' hSw
                        (try dsimp only at hSw)
                        go_simp
                        (try with_reducible rfl)
                      (try simp only [Act.put]); (try simp only [List.setIfInBounds_toArray]); (try simp only [List.set_cons_succ]); (try simp only [List.set_cons_zero])
                      refine wpAnyH_take (i := 13) (v := ?_) rfl (by kernel_rfl) (by kernel_rfl) (by kernel_rfl) (fun _ _ _ h => h) (Or.inl ⟨by kernel_rfl, ?h13⟩) hHeld ?_
                      case h13 =>
                        intro w' hSw
                        (try dsimp only at hSw)
                        go_simp
                        (try with_reducible rfl)
                      (try simp only [Act.put]); (try simp only [List.setIfInBounds_toArray]); (try simp only [List.set_cons_succ]); (try simp only [List.set_cons_zero])
                      refine wpAnyH_take (i := 14) (v := ?_) rfl (by kernel_rfl) (by kernel_rfl) (by kernel_rfl) (fun _ _ _ h => h) (Or.inl ⟨by kernel_rfl, ?h14⟩) hHeld ?_
                      case h14 =>
                        intro w' hSw
                        (try dsimp only at hSw)
                        go_simp
                        (try with_reducible rfl)
                      (try simp only [Act.put]); (try simp only [List.setIfInBounds_toArray]); (try simp only [List.set_cons_succ]); (try simp only [List.set_cons_zero])
                      refine wpAnyH_take (i := 15) (v := ?_) rfl (by kernel_rfl) (by kernel_rfl) (by kernel_rfl) (fun _ _ _ h => h) (Or.inl ⟨by kernel_rfl, ?h15⟩) hHeld ?_
                      case h15 =>
                        intro w' hSw
                        (try dsimp only at hSw)
                        go_simp
                        (try with_reducible rfl)
                      (try simp only [Act.put]); (try simp only [List.setIfInBounds_toArray]); (try simp only [List.set_cons_succ]); (try simp only [List.set_cons_zero])
                      refine wpAnyH_take (i := 16) (v := ?_) rfl (by kernel_rfl) (by kernel_rfl) (by kernel_rfl) (fun _ _ _ h => h) (Or.inl ⟨by kernel_rfl, ?h16⟩) hHeld ?_
                      case h16 =>
                        intro w' hSw
                        (try dsimp only at hSw)
                        go_simp
                        (try with_reducible rfl)
                      (try simp only [Act.put]); (try simp only [List.setIfInBounds_toArray]); (try simp only [List.set_cons_succ]); (try simp only [List.set_cons_zero])
                      refine wpAnyH_take (i := 17) (v := ?_) rfl (by kernel_rfl) (by kernel_rfl) (by kernel_rfl) (fun _ _ _ h => h) (Or.inl ⟨by kernel_rfl, ?h17⟩) hHeld ?_
                      case h17 =>
                        intro w' hSw
                        (try dsimp only at hSw)
                        go_simp
                        (try with_reducible rfl)
                      (try simp only [Act.put]); (try simp only [List.setIfInBounds_toArray]); (try simp only [List.set_cons_succ]); (try simp only [List.set_cons_zero])
                      refine wpAnyH_take (i := 18) (v := ?_) rfl (by kernel_rfl) (by kernel_rfl) (by kernel_rfl) (fun _ _ _ h => h) (Or.inl ⟨by kernel_rfl, ?h18⟩) hHeld ?_
                      case h18 =>
                        intro w' hSw
                        (try dsimp only at hSw)
                        go_simp
                        (try with_reducible rfl)
                      (try simp only [Act.put]); (try simp only [List.setIfInBounds_toArray]); (try simp only [List.set_cons_succ]); (try simp only [List.set_cons_zero])
                      refine wpAnyH_ready (rs := [19]) (by kernel_rfl) (by simp) ?_
                      refine AllReadyH.cons rfl (fun K hK => ?_) (AllReadyH.nil)
                      go_simp
                      refine hK.out _ _ hHeld (fun hHeld => ?_)
                      clear hK K
                      (try simp only [Act.put]); (try simp only [List.setIfInBounds_toArray]); (try simp only [List.set_cons_succ]); (try simp only [List.set_cons_zero])
                      refine wpAnyH_take (i := 20) (v := ?_) rfl (by kernel_rfl) (by kernel_rfl) (by kernel_rfl) (fun _ _ _ h => h) (Or.inl ⟨by kernel_rfl, ?h20⟩) hHeld ?_
                      case h20 =>
                        intro w' hSw
                        (try dsimp only at hSw)
                        go_simp
                        (try with_reducible rfl)
                      (try simp only [Act.put]); (try simp only [List.setIfInBounds_toArray]); (try simp only [List.set_cons_succ]); (try simp only [List.set_cons_zero])
                      refine wpAnyH_take (i := 21) (v := ?_) rfl (by kernel_rfl) (by kernel_rfl) (by kernel_rfl) (fun _ _ _ h => h) (Or.inl ⟨by kernel_rfl, ?h21⟩) hHeld ?_
                      case h21 =>
                        intro w' hSw
                        (try dsimp only at hSw)
                        go_simp
                        (try with_reducible rfl)
                      (try simp only [Act.put]); (try simp only [List.setIfInBounds_toArray]); (try simp only [List.set_cons_succ]); (try simp only [List.set_cons_zero])
                      refine wpAnyH_take (i := 22) (v := ?_) rfl (by kernel_rfl) (by kernel_rfl) (by kernel_rfl) (fun _ _ _ h => h) (Or.inl ⟨by kernel_rfl, ?h22⟩) hHeld ?_
                      case h22 =>
                        intro w' hSw
                        (try dsimp only at hSw)
                        go_simp
                        (try with_reducible rfl)
                      (try simp only [Act.put]); (try simp only [List.setIfInBounds_toArray]); (try simp only [List.set_cons_succ]); (try simp only [List.set_cons_zero])
                      refine wpAnyH_take (i := 23) (v := ?_) rfl (by kernel_rfl) (by kernel_rfl) (by kernel_rfl) (fun _ _ _ h => h) (Or.inl ⟨by kernel_rfl, ?h23⟩) hHeld ?_
                      case h23 =>
                        intro w' hSw
                        (try dsimp only at hSw)
                        go_simp
                        (try with_reducible rfl)
                      (try simp only [Act.put]); (try simp only [List.setIfInBounds_toArray]); (try simp only [List.set_cons_succ]); (try simp only [List.set_cons_zero])
                      refine wpAnyH_take (i := 24) (v := ?_) rfl (by kernel_rfl) (by kernel_rfl) (by kernel_rfl) (fun _ _ _ h => h) (Or.inl ⟨by kernel_rfl, ?h24⟩) hHeld ?_
                      case h24 =>
                        intro w' hSw
                        (try dsimp only at hSw)
                        go_simp
                        (try with_reducible rfl)
                      (try simp only [Act.put]); (try simp only [List.setIfInBounds_toArray]); (try simp only [List.set_cons_succ]); (try simp only [List.set_cons_zero])
                      refine wpAnyH_take (i := 25) (v := ?_) rfl (by kernel_rfl) (by kernel_rfl) (by kernel_rfl) (fun _ _ _ h => h) (Or.inl ⟨by kernel_rfl, ?h25⟩) hHeld ?_
                      case h25 =>
                        intro w' hSw
                        (try dsimp only at hSw)
                        go_simp
                        (try with_reducible rfl)
                      (try simp only [Act.put]); (try simp only [List.setIfInBounds_toArray]); (try simp only [List.set_cons_succ]); (try simp only [List.set_cons_zero])
                      refine wpAnyH_take (i := 26) (v := ?_) rfl (by kernel_rfl) (by kernel_rfl) (by kernel_rfl) (fun _ _ _ h => h) (Or.inl ⟨by kernel_rfl, ?h26⟩) hHeld ?_
                      case h26 =>
                        intro w' hSw
                        (try dsimp only at hSw)
                        go_simp
                        (try with_reducible rfl)
                      (try simp only [Act.put]); (try simp only [List.setIfInBounds_toArray]); (try simp only [List.set_cons_succ]); (try simp only [List.set_cons_zero])
                      refine wpAnyH_ready (rs := [27]) (by kernel_rfl) (by simp) ?_
                      refine AllReadyH.cons rfl (fun K hK => ?_) (AllReadyH.nil)
                      go_simp
                      refine hK.out _ _ hHeld (fun hHeld => ?_)
                      clear hK K
                      (try simp only [Act.put]); (try simp only [List.setIfInBounds_toArray]); (try simp only [List.set_cons_succ]); (try simp only [List.set_cons_zero])
                      refine wpAnyH_take (i := 28) (v := ?_) rfl (by kernel_rfl) (by kernel_rfl) (by kernel_rfl) (fun _ _ _ h => h) (Or.inl ⟨by kernel_rfl, ?h28⟩) hHeld ?_
                      case h28 =>
                        intro w' hSw
                        (try dsimp only at hSw)
                        go_simp
                        (try with_reducible rfl)
                      (try simp only [Act.put]); (try simp only [List.setIfInBounds_toArray]); (try simp only [List.set_cons_succ]); (try simp only [List.set_cons_zero])
                      refine wpAnyH_take (i := 29) (v := ?_) rfl (by kernel_rfl) (by kernel_rfl) (by kernel_rfl) (fun _ _ _ h => h) (Or.inl ⟨by rfl, ?h29⟩) hHeld ?_
                      case h29 =>
                        intro w' hSw
                        (try dsimp only at hSw)
                        go_simp
                        (try with_reducible rfl)
                      (try simp only [Act.put]); (try simp only [List.setIfInBounds_toArray]); (try simp only [List.set_cons_succ]); (try simp only [List.set_cons_zero])
                      refine wpAnyH_take (i := 30) (v := ?_) rfl (by kernel_rfl) (by kernel_rfl) (by kernel_rfl) (fun _ _ _ h => h) (Or.inl ⟨by rfl, ?h30⟩) hHeld ?_
                      case h30 =>
                        intro w' hSw
                        (try dsimp only at hSw)
                        go_simp
                        (try with_reducible rfl)
                      (try simp only [Act.put]); (try simp only [List.setIfInBounds_toArray]); (try simp only [List.set_cons_succ]); (try simp only [List.set_cons_zero])
                      refine wpAnyH_ready (rs := [31]) (by kernel_rfl) (by simp) ?_
                      refine AllReadyH.cons rfl (fun K hK => ?_) (AllReadyH.nil)
                      go_simp
                      refine hK.out _ _ (TP.put HBD.out.1 HBD.out.2 hpm hkm b3) (fun hHeld => ?_)
                      clear hK K
                      (try simp only [Act.put]); (try simp only [List.setIfInBounds_toArray]); (try simp only [List.set_cons_succ]); (try simp only [List.set_cons_zero])
                      refine wpAnyH_done (by kernel_rfl) ?_ _
                      clear hHeld T0 T1 kc1 kc2 kc3 kcf
                      have S9 := Lib.hid (show KS w [(w.heap.size, rulesC a n c R.soft R.al R.ot R.sk R.ss R.db, 24)] (wr.drew.setCell ⟨q p, k, none⟩ (.bool b3)) ∧ BT (wr.drew.setCell ⟨q p, k, none⟩ (.bool b3)) (w.heap.size + 1) (some ⟨gb, 0, none⟩) gb i q c' (mxJ r j p (k + 1)) from ⟨(TP.put HBD.out.1 HBD.out.2 hpm hkm b3).1, by rw [← HUP.out b3 (by rw [HWS.out]; simp)]; exact HBD.out.2.set hpm hkm b3⟩)
                      clear HBD H
                      go_wp2_with fail
                      go_roundw
                      case rel => exact ⟨k + 1, by omega, by go_num, S9.out⟩
                      case measure => simp [intOf]; omega
                · obtain rfl : k = i := by omega
                  have pk1 : ¬ (k : Int) < (k : Int) := by omega
                  have S9 := Lib.hid (show KS w [(w.heap.size, rulesC a n c R.soft R.al R.ot R.sk R.ss R.db, 24)] wr ∧ BT wr (w.heap.size + 1) (some ⟨gb, 0, none⟩) gb k q c' (mxJ r j (p + 1) 0) from ⟨H.out.1, H.out.2.congr fun i' k' _ hk' => mxJ_row r j p k i' k' hk'⟩)
                  clear H
                  go_wp2_with fail
                  go_roundw
                  case rel => exact ⟨p + 1, by omega, by go_num, S9.out⟩
                  case measure => simp [intOf]; omega
            · obtain rfl : p = i := by omega
              have pk1 : ¬ (p : Int) < (p : Int) := by omega
              have S9 := Lib.hid (show KS w [(w.heap.size, rulesC a n c R.soft R.al R.ot R.sk R.ss R.db, 24)] wr ∧ BT wr (w.heap.size + 1) (some ⟨gb, 0, none⟩) gb p q c' (Nm.wj r (j + 1)) from ⟨H.out.1, by rw [← mxJ_00]; exact H.out.2.congr fun i' k' hi' _ => mxJ_all r j p i' k' hi'⟩)
              clear H
              go_wp2_with fail
              go_roundw
              case rel => exact ⟨j + 1, by omega, by go_num, S9.out⟩
              case measure => simp [intOf]; omega
        · obtain rfl : j = i := by omega
          have pk1 : ¬ (j : Int) < (j : Int) := by omega
          go_wp2_with fail
          go_ret
          unfold LnkP
          exact ⟨b, gb, cap, q, c', rfl, by rw [HWJ.out]; exact H.out.2, H.out.1.bel⟩
end Go.Proofs.YtkdflgaahhnigaaGreat

namespace Go.Proofs.YtkdflgaahhnigaaGreat
open Go.RowKit Go.Shelf

set_option maxRecDepth 100000 in
set_option maxHeartbeats 8000000 in
theorem Groups35 (a : Option Addr) (g o c n : Nat) (R : RB) (w : World) (hN : R.cls.length = n) (hk : SK w a g o R.cls) (hg : Good R) (ht : Thn R) (an : Option Addr) (gn on cn m : Nat) (ys : List ByteArray) (hkn : SKn w an gn on cn m ys) (hm : m ≤ 12) (hn : NmsOk ys) (L : Nat) : Calls Tryz.prog 35 #[rulesV a n c R.soft R.al R.ot R.sk R.ss R.db, .slice an m cn, .int .i64 (L : Int)] w fun e w' => ∃ v, e = .returned v ∧ TabK w' (w.heap.size + 1) v (grpL R ys L) ∧ Below w.heap.size w w' := by
  have C75 := Lib.hid (fun W (hW : Below w.heap.size w W) => Linked75 a g o c n R W hN (hk.below hW) hg ht an gn on cn m ys (hkn.below hW) hm hn L)
  have HGC := Lib.hid (show grpL R ys L = clsK (wjR R ys L) m m from by rw [grpL_classes, hkn.1]; rfl)
  generalize wjR R ys L = cc at *
  have s0 := (KS.start w).new (rulesC a n c R.soft R.al R.ot R.sk R.ss R.db) 24
  have S0 := Lib.hid s0
  obtain ⟨kb0_0, kb0_1, kb0_2, kb0_3, kb0_4, kb0_5, kb0_6⟩ := (s0.blkAt 0 rfl).c7
  clear s0 hk hN hg ht hkn hn
  go_enter Tryz.func35, Tryz.ntmps35
  go_wp2_with fail
  refine (C75.out _ S0.out.bel).mono ?_
  rintro e w1 ⟨b, gb, cap, q, c', rfl, hbt, hb⟩
  have HBT := Lib.hid hbt
  have S1 := Lib.hid (S0.out.below hb)
  have hsz1 := S1.out.lt 0 rfl
  clear hbt hb kb0_0 kb0_1 kb0_2 kb0_3 kb0_4 kb0_5 kb0_6
  go_wp2_with fail
  go_loopw [8, 9] (fun y8 y9 wr => ∃ (i : Nat), i ≤ m ∧ y9 = .int .i64 (i : Int) ∧ Hid (TabK wr w1.heap.size y8 (clsK cc m i) ∧ Below w1.heap.size w1 wr)) (fun _ y9 _ => m - (intOf y9).toNat)
  case atStart => exact ⟨0, Nat.zero_le _, rfl, ⟨[], World.ownsRow_nil _ _ _ _, fun i r e => by simp [clsK] at e⟩, Below.refl _ _⟩
  case round =>
    obtain ⟨i, hi, rfl, H⟩ := hrel
    obtain ⟨wo, hwo⟩ : ∃ wo, wo = wr := ⟨_, rfl⟩
    subst hwo
    by_cases him : i < m
    · have eb := HBT.out.adr (by omega)
      subst eb
      have pi0 : (0 : Int) ≤ (i : Int) := by omega
      have pi1 : (i : Int) < (m : Int) := by omega
      have hbo : w1.heap.size ≤ wo.heap.size := H.out.2.size
      go_wp2_with fail
      go_loopw [10, 11, 12] (fun y10 y11 y12 wr => ∃ (k : Nat) (bf : Bool), k ≤ m ∧ y12 = .int .i64 (k : Int) ∧ y10 = .bool bf ∧ Hid (bf = firB cc i k ∧ wr.ownsRow wo.heap.size 3 1 y11 ((List.range k).filter (cc i)).length (natsV ((List.range k).filter (cc i))) ∧ Below wo.heap.size wo wr)) (fun _ _ y12 _ => m - (intOf y12).toNat)
      case atStart => exact ⟨0, true, Nat.zero_le _, rfl, rfl, rfl, World.ownsRow_nil _ _ _ _, Below.refl _ _⟩
      case round =>
        obtain ⟨k, bf, hk, rfl, rfl, HI⟩ := hrel
        by_cases hkm : k < m
        · have hbw := HBT.out.below (H.out.2.trans (HI.out.2.2.mono hbo))
          have kt := hbw.top i him
          have kc := hbw.cell him hkm
          have pk0 : (0 : Int) ≤ (k : Int) := by omega
          have pk1 : (k : Int) < (m : Int) := by omega
          have hfl := filt_len (cc i) k
          have HFS := Lib.hid (filt_snoc (cc i) k)
          have HFI := Lib.hid (firB_succ cc i k)
          generalize (List.range k).filter (cc i) = fl at *
          clear hbw
          cases hc : cc i k with
          | false =>
            rw [hc] at kc HFS HFI
            have S9 := Lib.hid (show bf = firB cc i (k + 1) ∧ wr.ownsRow wo.heap.size 3 1 u11 ((List.range (k + 1)).filter (cc i)).length (natsV ((List.range (k + 1)).filter (cc i))) ∧ Below wo.heap.size wo wr from ⟨by rw [HFI.out, ← HI.out.1]; simp, by rw [HFS.out, if_neg (by simp)]; exact HI.out.2.1, HI.out.2.2⟩)
            clear HI hc
            go_wp2_with fail
            go_roundw
            case rel => exact ⟨k + 1, bf, by omega, by go_num, rfl, S9.out⟩
            case measure => simp [intOf]; omega
          | true =>
            rw [hc] at kc HFS HFI
            obtain ⟨i0, hi0, hz0, hz1, hz2⟩ := info_parts tInfo3
            have HNB := Lib.hid (Blk.new wr #[.int .i64 (k : Int)] 3)
            clear hc
            cases bf with
            | false =>
              go_wp2_with (at_builtin; refine wpList_append_own_at _ rfl _ _ 41 rfl wo.heap.size 3 i0 _ 1 8 Tryz.underlying41 hi0 hz0 hz1 hz2 rfl (by decide) _ _ _ rfl (HI.out.2.1.alloc _) ⟨wr.heap.size, 0, none⟩ 1 1 [.int .i64 (k : Int)] rfl rfl (news_one (HNB.out.cell 0)) (by intro u hu; simp at hu; subst hu; rfl) (by unfold maxLen; omega) (by omega) (by have := HI.out.2.2.size; simp; omega) ?_; intro v' w7 hown hgr _ _; have HO7 := Lib.hid hown; have HG7 := Lib.hid hgr; clear hown hgr)
              have S9 := Lib.hid (show false = firB cc i (k + 1) ∧ w7.ownsRow wo.heap.size 3 1 v' ((List.range (k + 1)).filter (cc i)).length (natsV ((List.range (k + 1)).filter (cc i))) ∧ Below wo.heap.size wo w7 from ⟨by rw [HFI.out, ← HI.out.1]; simp, by rw [HFS.out, if_pos rfl, ← natsV_snoc, List.length_append]; exact HO7.out, (HI.out.2.2.alloc HI.out.2.2.size (.cells #[.int .i64 (k : Int)] 3)).grown HG7.out (by have := HI.out.2.2.size; simp; omega) (fun r e => (HI.out.2.1.lt r e).1)⟩)
              clear HO7 HG7
              go_wp2_with fail
              go_roundw
              case rel => exact ⟨k + 1, false, by omega, by go_num, rfl, S9.out⟩
              case measure => simp [intOf]; omega
            | true =>
              by_cases hik : i ≤ k
              · have pik : (i : Int) ≤ (k : Int) := by omega
                go_wp2_with (at_builtin; refine wpList_append_own_at _ rfl _ _ 41 rfl wo.heap.size 3 i0 _ 1 8 Tryz.underlying41 hi0 hz0 hz1 hz2 rfl (by decide) _ _ _ rfl (HI.out.2.1.alloc _) ⟨wr.heap.size, 0, none⟩ 1 1 [.int .i64 (k : Int)] rfl rfl (news_one (HNB.out.cell 0)) (by intro u hu; simp at hu; subst hu; rfl) (by unfold maxLen; omega) (by omega) (by have := HI.out.2.2.size; simp; omega) ?_; intro v' w7 hown hgr _ _; have HO7 := Lib.hid hown; have HG7 := Lib.hid hgr; clear hown hgr)
                have S9 := Lib.hid (show true = firB cc i (k + 1) ∧ w7.ownsRow wo.heap.size 3 1 v' ((List.range (k + 1)).filter (cc i)).length (natsV ((List.range (k + 1)).filter (cc i))) ∧ Below wo.heap.size wo w7 from ⟨by rw [HFI.out, ← HI.out.1]; simp; omega, by rw [HFS.out, if_pos rfl, ← natsV_snoc, List.length_append]; exact HO7.out, (HI.out.2.2.alloc HI.out.2.2.size (.cells #[.int .i64 (k : Int)] 3)).grown HG7.out (by have := HI.out.2.2.size; simp; omega) (fun r e => (HI.out.2.1.lt r e).1)⟩)
                clear HO7 HG7
                go_wp2_with fail
                go_roundw
                case rel => exact ⟨k + 1, true, by omega, by go_num, rfl, S9.out⟩
                case measure => simp [intOf]; omega
              · have pik : ¬ (i : Int) ≤ (k : Int) := by omega
                go_wp2_with (at_builtin; refine wpList_append_own_at _ rfl _ _ 41 rfl wo.heap.size 3 i0 _ 1 8 Tryz.underlying41 hi0 hz0 hz1 hz2 rfl (by decide) _ _ _ rfl (HI.out.2.1.alloc _) ⟨wr.heap.size, 0, none⟩ 1 1 [.int .i64 (k : Int)] rfl rfl (news_one (HNB.out.cell 0)) (by intro u hu; simp at hu; subst hu; rfl) (by unfold maxLen; omega) (by omega) (by have := HI.out.2.2.size; simp; omega) ?_; intro v' w7 hown hgr _ _; have HO7 := Lib.hid hown; have HG7 := Lib.hid hgr; clear hown hgr)
                have S9 := Lib.hid (show false = firB cc i (k + 1) ∧ w7.ownsRow wo.heap.size 3 1 v' ((List.range (k + 1)).filter (cc i)).length (natsV ((List.range (k + 1)).filter (cc i))) ∧ Below wo.heap.size wo w7 from ⟨by rw [HFI.out, ← HI.out.1]; simp; omega, by rw [HFS.out, if_pos rfl, ← natsV_snoc, List.length_append]; exact HO7.out, (HI.out.2.2.alloc HI.out.2.2.size (.cells #[.int .i64 (k : Int)] 3)).grown HG7.out (by have := HI.out.2.2.size; simp; omega) (fun r e => (HI.out.2.1.lt r e).1)⟩)
                clear HO7 HG7
                go_wp2_with fail
                go_roundw
                case rel => exact ⟨k + 1, false, by omega, by go_num, rfl, S9.out⟩
                case measure => simp [intOf]; omega
        · obtain rfl : k = m := by omega
          have pk1 : ¬ (k : Int) < (k : Int) := by omega
          have HCS := Lib.hid (clsK_succ cc hi)
          rw [← HI.out.1] at HCS
          cases bf with
          | false =>
            have S9 := Lib.hid (show TabK wr w1.heap.size u8 (clsK cc k (i + 1)) ∧ Below w1.heap.size w1 wr from ⟨by rw [HCS.out, if_neg (by simp)]; exact H.out.1.below HI.out.2.2, H.out.2.trans (HI.out.2.2.mono hbo)⟩)
            clear HI H
            go_wp2_with fail
            go_roundw
            case rel => exact ⟨i + 1, by omega, by go_num, S9.out⟩
            case measure => simp [intOf]; omega
          | true =>
            obtain ⟨xa, xg, xc, rfl, _⟩ := ik_own HI.out.2.1
            obtain ⟨vs, h1, h2⟩ := H.out.1
            have H1 := Lib.hid h1
            have H2 := Lib.hid h2
            have hcl := clsK_len cc k i
            have HO1 := Lib.hid (row_below h1 HI.out.2.2)
            obtain ⟨i0, hi0, hz0, hz1, hz2⟩ := info_parts tInfo41
            have hszr := HI.out.2.2.size
            clear h1 h2
            generalize (List.range k).filter (cc i) = fl at *
            go_wp2_with (at_builtin; refine wpList_append_own_at _ rfl _ _ 53 rfl w1.heap.size 41 i0 (.slice none 0 0) 1 24 Tryz.underlying53 hi0 hz0 hz1 hz2 rfl (by decide) _ _ _ rfl (HO1.out.alloc _) ⟨wr.heap.size, 0, none⟩ 1 1 [.slice xa fl.length xc] rfl rfl (cell_one_new _ _ _) (by simp [Value.oneCell']) (by unfold maxLen; omega) (by omega) (by simp; omega) ?_; intro v' w9 hown' hgrow _ hat; have HO9 := Lib.hid hown'; have HG9 := Lib.hid hgrow; have HAT := Lib.hid hat; clear hown' hgrow hat)
            go_roundw
            case rel =>
              have hal := (Below.refl wr.heap.size wr).alloc (Nat.le_refl _) (.cells #[.slice xa fl.length xc] 41)
              have hbl := HI.out.2.2.trans (hal.mono HI.out.2.2.size)
              refine ⟨i + 1, by omega, by go_num, ?_, (H.out.2.trans (hbl.mono hbo)).grown HG9.out (by have := H.out.2.size; simp; omega) (fun j e => (H1.out.lt j e).1)⟩
              rw [HCS.out, if_pos rfl]
              refine tab_snoc (W := wr.alloc _) (HO1.out.alloc _) (fun j r e => ?_) ((show natsOwn wr w1.heap.size (.slice xa fl.length xc) fl from HI.out.2.1.mono hbo).alloc _) (fun j e e2 => ?_) HO9.out HG9.out HAT.out
              · obtain ⟨u', q1, q2, q3⟩ := H2.out j r e
                exact ⟨u', q1, row_below q2 hbl, q3⟩
              · have := (H1.out.lt j e).2
                have := (HI.out.2.1.lt j e2).1
                omega
            case measure => simp [intOf]; omega
    · obtain rfl : i = m := by omega
      have pim : ¬ (i : Int) < (i : Int) := by omega
      go_wp2_with fail
      go_ret
      obtain ⟨vs, q1, q2⟩ := H.out.1
      refine ⟨_, rfl, ?_, S1.out.bel.trans (H.out.2.mono (by omega))⟩
      rw [HGC.out]
      exact ⟨vs, q1.mono (by omega), fun i r e => by obtain ⟨u, p1, p2, p3⟩ := q2 i r e; exact ⟨u, p1, p2.mono (by omega), p3⟩⟩
end Go.Proofs.YtkdflgaahhnigaaGreat
