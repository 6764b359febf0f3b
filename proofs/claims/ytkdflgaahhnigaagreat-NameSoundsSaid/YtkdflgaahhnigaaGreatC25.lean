/- NameSounds: what keys do not change by. NameSounds: the names that have the same key. -/
import Derived.Test.YtkdflgaahhnigaaGreatC18
import Derived.Test.YtkdflgaahhnigaaGreatC12
set_option linter.unusedVariables false
set_option linter.unusedSimpArgs false
namespace Go.Proofs.YtkdflgaahhnigaaGreat
open Go.RowKit Go.Shelf

theorem sndF_mem {b : UInt8} {c : List UInt8} : ∀ (cs : List (List UInt8)), cs.flatten.Nodup → c ∈ cs → b ∈ c → sndF cs b = c.headD 0
  | [], _, h, _ => by cases h
  | d :: cs, hn, hc, hb => by
    rw [List.flatten_cons, List.nodup_append] at hn
    rw [sndF]
    by_cases hd : b ∈ d
    · rw [if_pos hd]
      rcases List.mem_cons.1 hc with rfl | hc
      · rfl
      · exact absurd rfl (hn.2.2 b hd b (List.mem_flatten.2 ⟨c, hc, hb⟩))
    · rw [if_neg hd]
      rcases List.mem_cons.1 hc with rfl | hc
      · exact absurd hb hd
      · exact sndF_mem cs hn.2.1 hc hb
theorem good_nodup {R : RB} (hg : Good R) : ((R.cls.map (·.data.toList)).flatten).Nodup := by
  have hr := hg.rul
  simp only [rulB, distB, Bool.and_eq_true, decide_eq_true_eq] at hr
  exact hr.1.1.1.2
theorem snd_in {R : RB} (hg : Good R) {cl : ByteArray} (hcl : cl ∈ R.cls) {b : UInt8} (hb : b ∈ cl.data.toList) : sndR R b = cl.data.toList.headD 0 := by
  rw [← sndF_snd hg]
  exact sndF_mem _ (good_nodup hg) (List.mem_map.2 ⟨cl, hcl, rfl⟩) hb
theorem snd_out {R : RB} (hg : Good R) {b : UInt8} (h : ∀ cl, cl ∈ R.cls → b ∉ cl.data.toList) : sndR R b = b := by
  rw [← sndF_snd hg]
  refine sndF_none _ fun c hc => ?_
  obtain ⟨cl, hcl, rfl⟩ := List.mem_map.1 hc
  exact h cl hcl
theorem cl_soft {R : RB} (hg : Good R) {cl : ByteArray} (hcl : cl ∈ R.cls) {b : UInt8} (hb : b ∈ cl.data.toList) : inS R.soft b = inS R.soft (cl.data.toList.headD 0) := by
  have hr := hg.rul
  simp only [rulB, Bool.and_eq_true, List.all_eq_true] at hr
  have he := hr.1.2 cl hcl
  simp only [evB, Bool.and_eq_true, List.all_eq_true, beq_iff_eq] at he
  exact he.2 b hb
theorem head_in {cl : ByteArray} {b : UInt8} (hb : b ∈ cl.data.toList) : cl.data.toList.headD 0 ∈ cl.data.toList := by
  cases h : cl.data.toList with
  | nil => rw [h] at hb; cases hb
  | cons x t => simp
theorem snd_cases {R : RB} (hg : Good R) (b : UInt8) : (∃ cl, cl ∈ R.cls ∧ b ∈ cl.data.toList ∧ sndR R b = cl.data.toList.headD 0) ∨ sndR R b = b := by
  by_cases h : ∀ cl, cl ∈ R.cls → b ∉ cl.data.toList
  · exact .inr (snd_out hg h)
  · left
    obtain ⟨cl, h2⟩ : ∃ cl, ¬ (cl ∈ R.cls → b ∉ cl.data.toList) := Classical.byContradiction fun hn => h fun cl => Classical.byContradiction fun hc => hn ⟨cl, hc⟩
    have hcl : cl ∈ R.cls := Classical.byContradiction fun hn => h2 fun hc => absurd hc hn
    have hb : b ∈ cl.data.toList := Classical.byContradiction fun hn => h2 fun _ => hn
    exact ⟨cl, hcl, hb, snd_in hg hcl hb⟩
theorem snd_idem {R : RB} (hg : Good R) (b : UInt8) : sndR R (sndR R b) = sndR R b := by
  rcases snd_cases hg b with ⟨cl, hcl, hb, e⟩ | e
  · rw [e]; exact snd_in hg hcl (head_in hb)
  · rw [e, e]
theorem snd_soft {R : RB} (hg : Good R) (b : UInt8) : inS R.soft (sndR R b) = inS R.soft b := by
  rcases snd_cases hg b with ⟨cl, hcl, hb, e⟩ | e
  · rw [e]; exact (cl_soft hg hcl hb).symm
  · rw [e]
theorem isL_snd {R : RB} (hg : Good R) {b : UInt8} (h : isL b = true) : isL (sndR R b) = true := by
  rcases snd_cases hg b with ⟨cl, hcl, hb, e⟩ | e
  · rw [e]
    have hr := hg.rul
    simp only [rulB, distB, Bool.and_eq_true, List.all_eq_true] at hr
    exact hr.1.1.1.1 _ (by unfold fl; rw [List.mem_flatten]; exact ⟨cl.data.toList, List.mem_map.2 ⟨cl, hcl, rfl⟩, head_in hb⟩)
  · rw [e]; exact h
/-- a key, further letters behind -/
theorem keyR_append (R : RB) (q : List UInt8) (hq : q ≠ []) : ∀ t : List UInt8, keyR R (q ++ t) = t.foldl (Nm.kst (sndR R) (inS R.soft)) (keyR R q)
  | [] => by simp
  | b :: t => by
    have h := keyR_append R (q ++ [b]) (by simp) t
    rw [List.append_assoc] at h
    rw [show q ++ b :: t = q ++ ([b] ++ t) from rfl, h, keyR_snoc, if_neg hq]; rfl
/-- the key behind q decides -/
theorem keyR_same (R : RB) {q q' : List UInt8} (h1 : q ≠ []) (h2 : q' ≠ []) (h : keyR R q = keyR R q') (t : List UInt8) : keyR R (q ++ t) = keyR R (q' ++ t) := by
  rw [keyR_append R q h1, keyR_append R q' h2, h]
theorem keyR_one (R : RB) (b : UInt8) : keyR R [b] = [sndR R b] := rfl
/-- a letter repeated -/
theorem keyR_twice (R : RB) (p : List UInt8) (b : UInt8) : keyR R (p ++ [b] ++ [b]) = keyR R (p ++ [b]) := by
  rw [keyR_snoc, if_neg (by simp)]
  by_cases hp : p = []
  · subst hp
    rw [List.nil_append, keyR_one]
    unfold Nm.kst
    rw [if_neg (by simp), if_pos (.inr rfl)]
  · rw [keyR_snoc, if_neg hp]
    exact Nm.kst_twice _ _
/-- a letter that sounds alike -/
theorem keyR_alike (R : RB) (p : List UInt8) {b x : UInt8} (h1 : sndR R x = sndR R b) (h2 : inS R.soft x = inS R.soft b) : keyR R (p ++ [x]) = keyR R (p ++ [b]) := by
  rw [keyR_snoc, keyR_snoc]
  by_cases hp : p = []
  · rw [if_pos hp, if_pos hp, h1]
  · rw [if_neg hp, if_neg hp]
    exact Nm.kst_congr _ h1 h2
/-- a letter of Soft inserted -/
theorem keyR_soft (R : RB) {p : List UInt8} (hp : p ≠ []) {z : UInt8} (h : inS R.soft z = true) : keyR R (p ++ [z]) = keyR R p := by
  rw [keyR_snoc, if_neg hp]
  exact Nm.kst_soft _ h
/-- a key's key -/
theorem keyR_keyR {R : RB} (hg : Good R) {l : List UInt8} (hl : l ≠ []) : keyR R (keyR R l) = keyR R l := by
  cases l with
  | nil => exact absurd rfl hl
  | cons a t =>
    have hp := keyR_pos R (a :: t) (by simp)
    cases e : keyR R (a :: t) with
    | nil => exact absurd e hp
    | cons k0 kt => exact Nm.key_key (snd_idem hg) (snd_soft hg) a t k0 kt e
theorem keyR_le6 (R : RB) : ∀ l : List UInt8, (keyR R l).length ≤ 6 := by
  intro l
  cases l with
  | nil => simp [keyR]
  | cons a t =>
    have h := keyR_append R [a] (by simp) t
    rw [List.singleton_append] at h
    rw [h, keyR_one]
    have : ∀ (t : List UInt8) (k : List UInt8), k.length ≤ 6 → (t.foldl (Nm.kst (sndR R) (inS R.soft)) k).length ≤ 6 := by
      intro t
      induction t with
      | nil => intro k hk; exact hk
      | cons b t ih => intro k hk; exact ih _ (Nm.kst_len _ _ hk)
    exact this t _ (by simp)
theorem keyR_isL {R : RB} (hg : Good R) : ∀ (t k : List UInt8), (∀ b, b ∈ t → isL b = true) → (∀ b, b ∈ k → isL b = true) → ∀ b, b ∈ t.foldl (Nm.kst (sndR R) (inS R.soft)) k → isL b = true
  | [], k, _, hk => hk
  | a :: t, k, ht, hk => by
    refine keyR_isL hg t _ (fun b hb => ht b (List.mem_cons_of_mem _ hb)) fun b hb => ?_
    unfold Nm.kst at hb
    split at hb
    · exact hk b hb
    · split at hb
      · exact hk b hb
      · rcases List.mem_append.1 hb with h | h
        · exact hk b h
        · simp at h; rw [h]; exact isL_snd hg (ht a (by simp))
theorem keyR_letters {R : RB} (hg : Good R) {l : List UInt8} (h : ∀ b, b ∈ l → isL b = true) : ∀ b, b ∈ keyR R l → isL b = true := by
  cases l with
  | nil => intro b hb; simp [keyR] at hb
  | cons a t =>
    have e := keyR_append R [a] (by simp) t
    rw [List.singleton_append] at e
    rw [e, keyR_one]
    exact keyR_isL hg t _ (fun b hb => h b (List.mem_cons_of_mem _ hb)) (fun b hb => by simp at hb; rw [hb]; exact isL_snd hg (h a (by simp)))
end Go.Proofs.YtkdflgaahhnigaaGreat

namespace Go.Proofs.YtkdflgaahhnigaaGreat
open Go.RowKit Go.Shelf

/-- a valid name with the key of x -/
def OKv (R : RB) (x z : ByteArray) : Prop := spB z = true ∧ z.size ≤ 12 ∧ keyR R z.data.toList = keyR R x.data.toList
theorem ex_take (x : ByteArray) (i : Nat) : (x.extract 0 i).data.toList = x.data.toList.take i := by simp
theorem ex_drop (x : ByteArray) (i : Nat) : (x.extract i x.size).data.toList = x.data.toList.drop i := by
  have e : (x.extract i x.size).data = x.data.extract i x.size := by simp
  rw [e, Array.toList_extract, List.extract_eq_take_drop, List.take_of_length_le]
  rw [List.length_drop]
  have h : x.data.toList.length = x.size := by simp
  omega
theorem sp_intro {z : ByteArray} (h0 : z.data.toList ≠ []) (h : ∀ b, b ∈ z.data.toList → isL b = true) : spB z = true := by
  unfold spB
  rw [Bool.and_eq_true, Bool.not_eq_true', List.all_eq_true]
  refine ⟨?_, h⟩
  cases e : z.data.toList with
  | nil => exact absurd e h0
  | cons a t => rfl
theorem sp_let {x : ByteArray} (h : spB x = true) : ∀ b, b ∈ x.data.toList → isL b = true := by
  unfold spB at h
  rw [Bool.and_eq_true, List.all_eq_true] at h
  exact h.2
theorem split3 {x : ByteArray} {i : Nat} (hi : i < x.size) : x.data.toList = x.data.toList.take i ++ [x[i]] ++ x.data.toList.drop (i + 1) := by
  rw [← take_snoc (get_u8 hi), List.take_append_drop]
theorem len_list (z : ByteArray) : z.data.toList.length = z.size := by simp
/-- a letter repeated -/
theorem v_twice {R : RB} {x : ByteArray} {i : Nat} (hsp : spB x = true) (h11 : x.size ≤ 11) (hi : i < x.size) : OKv R x (x.extract 0 (i + 1) ++ x.extract i x.size) := by
  have hl : (x.extract 0 (i + 1) ++ x.extract i x.size).data.toList = x.data.toList.take (i + 1) ++ x.data.toList.drop i := by rw [bytes_appK, ex_take, ex_drop]
  refine ⟨sp_intro ?_ ?_, ?_, ?_⟩
  · rw [hl, take_snoc (get_u8 hi)]; simp
  · rw [hl]
    intro b hb
    rcases List.mem_append.1 hb with h | h
    · exact sp_let hsp b (List.mem_of_mem_take h)
    · exact sp_let hsp b (List.mem_of_mem_drop h)
  · rw [← len_list, hl, List.length_append, List.length_take, List.length_drop, len_list]; omega
  · rw [hl]
    have hd : x.data.toList.drop i = [x[i]] ++ x.data.toList.drop (i + 1) := by
      rw [List.drop_eq_getElem_cons (by rw [len_list]; exact hi)]; rfl
    rw [hd, take_snoc (get_u8 hi), ← List.append_assoc]
    conv => rhs; rw [split3 hi]
    exact keyR_same R (by simp) (by simp) (keyR_twice R _ _) _
/-- a letter that sounds alike -/
theorem v_alike {R : RB} (hg : Good R) {x cl : ByteArray} {i : Nat} {y : UInt8} (hsp : spB x = true) (h12 : x.size ≤ 12) (hi : i < x.size) (hcl : cl ∈ R.cls) (hb : x[i] ∈ cl.data.toList) (hy : y ∈ cl.data.toList) : OKv R x (x.extract 0 i ++ oneK y ++ x.extract (i + 1) x.size) := by
  have hl : (x.extract 0 i ++ oneK y ++ x.extract (i + 1) x.size).data.toList = x.data.toList.take i ++ [y] ++ x.data.toList.drop (i + 1) := by rw [bytes_appK, bytes_appK, ex_take, ex_drop]; rfl
  have hyl : isL y = true := by
    have hr := hg.rul
    simp only [rulB, distB, Bool.and_eq_true, List.all_eq_true] at hr
    exact hr.1.1.1.1 _ (by unfold fl; rw [List.mem_flatten]; exact ⟨cl.data.toList, List.mem_map.2 ⟨cl, hcl, rfl⟩, hy⟩)
  refine ⟨sp_intro (by rw [hl]; simp) ?_, ?_, ?_⟩
  · rw [hl]
    intro b hb
    rcases List.mem_append.1 hb with h | h
    · rcases List.mem_append.1 h with h | h
      · exact sp_let hsp b (List.mem_of_mem_take h)
      · simp at h; rw [h]; exact hyl
    · exact sp_let hsp b (List.mem_of_mem_drop h)
  · rw [← len_list, hl, List.length_append, List.length_append, List.length_take, List.length_drop, len_list]; simp only [List.length_cons, List.length_nil]; omega
  · rw [hl]
    conv => rhs; rw [split3 hi]
    exact keyR_same R (by simp) (by simp) (keyR_alike R _ (by rw [snd_in hg hcl hy, snd_in hg hcl hb]) (by rw [cl_soft hg hcl hy, cl_soft hg hcl hb])) _
/-- a letter of Soft inserted -/
theorem v_soft {R : RB} (hg : Good R) {x : ByteArray} {i : Nat} {z : UInt8} (hsp : spB x = true) (h11 : x.size ≤ 11) (hi : i < x.size) (hz : z ∈ R.soft.data.toList) : OKv R x (x.extract 0 (i + 1) ++ oneK z ++ x.extract (i + 1) x.size) := by
  have hl : (x.extract 0 (i + 1) ++ oneK z ++ x.extract (i + 1) x.size).data.toList = x.data.toList.take (i + 1) ++ [z] ++ x.data.toList.drop (i + 1) := by rw [bytes_appK, bytes_appK, ex_take, ex_drop]; rfl
  have hzl : isL z = true := by
    have hr := hg.rul
    simp only [rulB, distB, Bool.and_eq_true, List.all_eq_true] at hr
    exact hr.1.1.2.1 z hz
  refine ⟨sp_intro (by rw [hl]; simp) ?_, ?_, ?_⟩
  · rw [hl]
    intro b hb
    rcases List.mem_append.1 hb with h | h
    · rcases List.mem_append.1 h with h | h
      · exact sp_let hsp b (List.mem_of_mem_take h)
      · simp at h; rw [h]; exact hzl
    · exact sp_let hsp b (List.mem_of_mem_drop h)
  · rw [← len_list, hl, List.length_append, List.length_append, List.length_take, List.length_drop, len_list]; simp only [List.length_cons, List.length_nil]; omega
  · rw [hl]
    have hne : x.data.toList.take (i + 1) ≠ [] := by rw [take_snoc (get_u8 hi)]; simp
    conv => rhs; rw [← List.take_append_drop (i + 1) x.data.toList]
    exact keyR_same R (by simp) hne (keyR_soft R hne (decide_eq_true hz)) _
end Go.Proofs.YtkdflgaahhnigaaGreat
