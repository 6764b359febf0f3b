/- TopSounds: what it calls, in its own words. -/
import Derived.Test.YtdfebccmjbocjaaGreatDoorTa
import Derived.Test.YtdfebccmjbocjaaGreatDoorWb
import Derived.Test.YtdfebccmjbocjaaGreatDoorWc
import Derived.Test.YtdfebccmjbocjaaGreatDoorWg
import Derived.Test.YtdfebccmjbocjaaGreatDoorWi
import Derived.Test.YtdfebccmjbocjaaGreatDoorYi
import Derived.Test.YtdfebccmjbocjaaGreatDoorNaG3
set_option linter.unusedVariables false
set_option linter.unusedSimpArgs false
namespace Go.Proofs.YtdfebccmjbocjaaGreatDoor
open Go.RowKit Go.Shelf
theorem info9 : (Tryz.prog.info? 9).map (fun i => (i.zero, i.size, i.bytes)) = some (some (.string ⟨#[]⟩), 1, 16) := by kernel_rfl
/-- the key of a name -/
def kyB (R : Na.RB) (s : ByteArray) : ByteArray := ⟨(Na.keyR R s.data.toList).toArray⟩
theorem kyB_ok {R : Na.RB} {s x : ByteArray} (h : Na.OKv R s x) : kyB R x = kyB R s := by unfold kyB; rw [h.2.2]
theorem key_top (a : Option Addr) (g o c n : Nat) (R : Na.RB) (w : World) (hN : R.cls.length = n) (hk : Na.SK w a g o R.cls) (hc : n ≤ c) (ht : Na.Thn R) (hg : Na.Good R) (s : ByteArray) (hs : Na.spB s = true) (h12 : s.size ≤ 12) :
    Calls Tryz.prog 9 #[Na.rulesV a n c R.soft R.al R.ot R.sk R.ss R.db, .string s] w fun e w' => e = .returned (.tuple #[.string (kyB R s), .int .i64 0]) ∧ Below w.heap.size w w' :=
  Na.Key_good a g o c n R w hN hk hc ht s (by omega) (Na.chkN_intro hg (fun u hu => by simp at hu; subst hu; exact ⟨h12, hs⟩))
def strV (l : List ByteArray) : List Value := l.map Value.string
/-- an own row of names -/
def OwnT (W : World) (B : Nat) (v : Value) (l : List ByteArray) : Prop := W.ownsRow B 9 1 v l.length (strV l)
theorem OwnT.form {W : World} {B : Nat} {v : Value} {l : List ByteArray} (h : OwnT W B v l) : ∃ (a : Option Addr) (c : Nat), v = .slice a l.length c := by
  rcases Joins.ownsRow_forms h with ⟨hv, h0⟩ | ⟨g, c, hv⟩
  · rw [h0]; exact ⟨_, _, hv⟩
  · exact ⟨_, _, hv⟩
theorem OwnT.cell {W : World} {B n : Nat} {l : List ByteArray} {g c : Nat} (h : OwnT W B (.slice (some ⟨g, 0, none⟩) n c) l) {i : Nat} {s : ByteArray} (hi : l[i]? = some s) : W.cell? ⟨g, i, none⟩ = some (.string s) := by
  have hl := (List.getElem?_eq_some_iff.1 hi).1
  rcases h with ⟨h0, ⟨hv, _⟩ | ⟨g', cap, cur, hv, hB, hg, hcap, hm, hsz, htk⟩⟩
  · cases hv
  · cases hv
    rw [Blk.cell (show Blk W g cur 9 from hg) i, ← Array.getElem?_toList]
    have e : (cur.toList.take (l.length * 1))[i]? = cur.toList[i]? := by rw [List.getElem?_take, if_pos (by omega)]
    rw [← e, htk]
    unfold strV
    rw [List.getElem?_map, hi]; rfl
theorem own_cell1 {W : World} {B n m g c i : Nat} {e : TypeId} {xs : List Value} {v : Value} (h : W.ownsRow B e 1 (.slice (some ⟨g, 0, none⟩) n c) m xs) (hi : xs[i]? = some v) : W.cell? ⟨g, i, none⟩ = some v := by
  have hl := (List.getElem?_eq_some_iff.1 hi).1
  rcases h with ⟨h0, ⟨hv, _⟩ | ⟨g', cap, cur, hv, hB, hg, hcap, hm, hsz, htk⟩⟩
  · cases hv
  · cases hv
    rw [Blk.cell (show Blk W g cur e from hg) i, ← Array.getElem?_toList]
    have e2 : (cur.toList.take (n * 1))[i]? = cur.toList[i]? := by rw [List.getElem?_take, if_pos (by omega)]
    rw [← e2, htk, hi]
theorem OwnN.cell1 {W : World} {B n g c i : Nat} {of : List Nat} (h : OwnN W B (.slice (some ⟨g, 0, none⟩) n c) of) (hi : i < of.length) : W.cell? ⟨g, i, none⟩ = some (.int .i64 ((ofF of i : Nat) : Int)) :=
  own_cell1 h (by unfold natV; rw [List.getElem?_map, ofF_get hi]; rfl)
/-- the first one with a key -/
def fstK (ks : List ByteArray) (k : ByteArray) : Nat := ks.findIdx fun x => decide (x = k)
theorem fstK_eq {ks : List ByteArray} {k : ByteArray} {p : Nat} (hp : ks[p]? = some k) (hlt : ∀ j, j < p → ks[j]? ≠ some k) : fstK ks k = p := by
  have hpl := List.getElem?_eq_some_iff.1 hp
  have hlt2 : fstK ks k < ks.length := List.findIdx_lt_length_of_exists ⟨k, List.mem_of_getElem? hp, decide_eq_true rfl⟩
  have hat : decide (ks[fstK ks k] = k) = true := List.findIdx_getElem (w := hlt2)
  rcases Nat.lt_trichotomy (fstK ks k) p with h | h | h
  · exact absurd (by rw [List.getElem?_eq_getElem hlt2, of_decide_eq_true hat]) (hlt _ h)
  · exact h
  · have h2 : ¬ decide (ks[p]'hpl.1 = k) = true := Bool.eq_false_iff.1 (List.not_of_lt_findIdx h)
    exact absurd (decide_eq_true hpl.2) h2
theorem fstK_le {ks : List ByteArray} {k : ByteArray} {p : Nat} (hp : ks[p]? = some k) : fstK ks k ≤ p := by
  have hpl := List.getElem?_eq_some_iff.1 hp
  rcases Nat.lt_or_ge p (fstK ks k) with h | h
  · have h2 : ¬ decide (ks[p]'hpl.1 = k) = true := Bool.eq_false_iff.1 (List.not_of_lt_findIdx h)
    exact absurd (decide_eq_true hpl.2) h2
  · exact h
/-- the number of a person's key -/
def keyN (R : Na.RB) (l : List ByteArray) (q : Nat) : Nat := fstK (l.map (kyB R)) (kyB R (l.getD (q % l.length) ⟨#[]⟩))
theorem keyN_lt {R : Na.RB} {l : List ByteArray} (h : 0 < l.length) (q : Nat) : keyN R l q ≤ q % l.length := by
  apply fstK_le
  have ht := Nat.mod_lt q h
  rw [List.getElem?_map, List.getD_eq_getElem?_getD, List.getElem?_eq_getElem ht]; rfl
theorem census_s (e s a : Loc) (es : List Ent) (sm ap : List (Nat × Nat)) (om nu : Nat × Nat) (n : Nat) (hn : es.length = n) (w : World) (hE : SlE w e es) (hS : SlP w s sm) (hA : SlP w a ap) (h10 : n ≤ 10) (h10s : sm.length ≤ 10) (h10a : ap.length ≤ 10) :
    Calls Tryz.prog 14 #[.agg #[.slice e.a n e.c, .slice s.a sm.length s.c, .slice a.a ap.length a.c, .int .i64 (om.1 : Int), .int .i64 (om.2 : Int), .int .i64 (nu.1 : Int), .int .i64 (nu.2 : Int)]] w (CenPost es sm ap om nu w) := by
  subst hn
  exact Census_any e s a es sm ap om nu w hE hS hA h10 h10s h10a
theorem tab_form2 {W : World} {B P : Nat} {v : Value} {tab : List (List Nat)} (h : TabK W B v tab) (hP : tab.length = P) : ∃ (a : Option Addr) (c : Nat), v = .slice a P c := by
  subst hP
  obtain ⟨vs, h1, -⟩ := h
  rcases Joins.ownsRow_forms h1 with ⟨hv, h0⟩ | ⟨g, c, hv⟩
  · rw [h0]; exact ⟨_, _, hv⟩
  · exact ⟨_, _, hv⟩
theorem tog_s (e s a : Loc) (es : List Ent) (sm ap : List (Nat × Nat)) (om nu : Nat × Nat) (i k : Nat) (w : World) (hA : CenAt w e s a es sm ap) (hC : CenOk es sm ap om nu) (hT : ∀ m Lw, ReadOf es sm ap m Lw → consB om nu m Lw = true)
    (hs : s.a = none ∨ s.a = some ⟨s.b, s.o, none⟩) (ha : a.a = none ∨ a.a = some ⟨a.b, a.o, none⟩) (h5 : sm.length ≤ 5) (h5a : ap.length ≤ 5) (hp1 : i < es.length) (hp2 : k < es.length) (hne : i ≠ k) :
    Calls Tryz.prog 17 #[cenL e s a es sm ap om nu, .int .i64 (i : Int), .int .i64 (k : Int)] w (TogPost es sm ap om nu (i, k) w) :=
  Together_ok e s a es sm ap om nu (i, k) w hA hC hT hs ha h5 h5a hp1 hp2 hne
theorem own_len (of : List Nat) (r : List Nat) (h : r ∈ groupsL of) : r.length ≤ of.length := by
  rw [groups_eq] at h
  obtain ⟨p, _, rfl⟩ := List.mem_map.1 h
  unfold ownOf
  have := List.length_filter_le (fun i => ofF of i == p) (List.range of.length)
  rwa [List.length_range] at this
end Go.Proofs.YtdfebccmjbocjaaGreatDoor
