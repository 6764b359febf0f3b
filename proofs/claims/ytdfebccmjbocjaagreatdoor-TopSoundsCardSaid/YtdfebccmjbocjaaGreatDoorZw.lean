/- sheet: what read() holds between its steps. -/
import Derived.Test.YtdfebccmjbocjaaGreatDoorZu
import Derived.Test.YtdfebccmjbocjaaGreatDoorZp
set_option linter.unusedVariables false
set_option linter.unusedSimpArgs false
namespace Go.Proofs.YtdfebccmjbocjaaGreatDoor
open Go.RowKit Go.Shelf

theorem zero107 : cellsOk Tryz.zeroCells107.toList = true := by kernel_rfl
theorem wk_new (e s a : Value) (ol oh nl nh : Int) : WkC (((((((Tryz.zeroCells107.setIfInBounds 0 e).setIfInBounds 1 s).setIfInBounds 2 a).setIfInBounds 3 (.int .i64 ol)).setIfInBounds 4 (.int .i64 oh)).setIfInBounds 5 (.int .i64 nl)).setIfInBounds 6 (.int .i64 nh)) e s a ol oh nl nh (.slice none 0 0) (fun _ => false) (fun _ => 0) := by
  have h := zero107
  simp only [cellsOk, Bool.and_eq_true, beq_iff_eq] at h
  obtain ⟨h0, h1, h2, h3⟩ := h
  generalize Tryz.zeroCells107 = z at *
  have hsz : z.size = 2056 := by rw [← Array.length_toList]; exact h0
  refine ⟨by simp [hsz], ?_, ?_, ?_, ?_, ?_, ?_, ?_, ?_, fun j hj => ?_, fun j hj => ?_⟩
  · simp [Array.getElem?_setIfInBounds, hsz]
  · simp [Array.getElem?_setIfInBounds, hsz]
  · simp [Array.getElem?_setIfInBounds, hsz]
  · simp [Array.getElem?_setIfInBounds, hsz]
  · simp [Array.getElem?_setIfInBounds, hsz]
  · simp [Array.getElem?_setIfInBounds, hsz]
  · simp [Array.getElem?_setIfInBounds, hsz]
  · obtain ⟨v, hv, hp⟩ := all_get h1 (i := 0) (by rw [List.length_take, List.length_drop, h0]; omega)
    rw [List.getElem?_take_of_lt (by omega), List.getElem?_drop, Array.getElem?_toList] at hv
    have : v = .slice none 0 0 := by
      unfold isN at hp
      split at hp
      · rfl
      · cases hp
    subst this
    simp only [Array.getElem?_setIfInBounds]
    simpa using hv
  · obtain ⟨v, hv, hp⟩ := all_get h2 (i := j) (by rw [List.length_take, List.length_drop, h0]; omega)
    rw [List.getElem?_take_of_lt (by omega), List.getElem?_drop, Array.getElem?_toList] at hv
    have : v = .bool false := by
      unfold isF at hp
      split at hp
      · rfl
      · cases hp
    subst this
    simp only [Array.getElem?_setIfInBounds]
    rw [if_neg (by omega), if_neg (by omega), if_neg (by omega), if_neg (by omega), if_neg (by omega), if_neg (by omega), if_neg (by omega)]
    exact hv
  · obtain ⟨v, hv, hp⟩ := all_get h3 (i := j) (by rw [List.length_drop, h0]; omega)
    rw [List.getElem?_drop, Array.getElem?_toList] at hv
    have : v = .int .i64 0 := by
      unfold isZ at hp
      split at hp
      · rfl
      · cases hp
    subst this
    simp only [Array.getElem?_setIfInBounds]
    rw [if_neg (by omega), if_neg (by omega), if_neg (by omega), if_neg (by omega), if_neg (by omega), if_neg (by omega), if_neg (by omega)]
    exact hv
/-- between the steps of read(): the census' box, the work, the box of its pointer, the row of blocks -/
structure Rd (w : World) (B : Nat) (e s a : Value) (ol oh nl nh : Int) (v : Value) (l : List Nat) (one : Nat → Bool) (L : Nat → Nat) (W : World) : Prop where
  cen : Blk W B (cenA e s a ol oh nl nh) 54
  bp : Blk W (B + 2) #[.pointer (some ⟨B + 1, 0, none⟩)] 95
  wk : ∃ cs, Blk W (B + 1) cs 107 ∧ WkC cs e s a ol oh nl nh v one L
  row : OwnS W (B + 3) v l
  bel : Below B w W
section
variable {w W W' : World} {B : Nat} {e s a : Value} {ol oh nl nh : Int} {v : Value} {l : List Nat} {one : Nat → Bool} {L : Nat → Nat}
theorem Rd.size (h : Rd w B e s a ol oh nl nh v l one L W) : B + 3 ≤ W.heap.size := by have := h.bp.lt; omega
theorem Rd.below (h : Rd w B e s a ol oh nl nh v l one L W) (hb : Below W.heap.size W W') : Rd w B e s a ol oh nl nh v l one L W' :=
  ⟨h.cen.b hb, h.bp.b hb, by obtain ⟨cs, h1, h2⟩ := h.wk; exact ⟨cs, h1.b hb, h2⟩, h.row.kept (grownBy_below hb none) (by cases hv : v.ownBlock <;> simp), h.bel.trans (hb.mono (by have := h.size; omega))⟩
theorem Rd.drew (h : Rd w B e s a ol oh nl nh v l one L W) : Rd w B e s a ol oh nl nh v l one L W.drew := h.below (Below.refl _ _).drew
theorem Rd.alloc (h : Rd w B e s a ol oh nl nh v l one L W) (o : Obj) : Rd w B e s a ol oh nl nh v l one L (W.alloc o) := h.below ((Below.refl _ _).alloc (Nat.le_refl _) o)
theorem Rd.c7 (h : Rd w B e s a ol oh nl nh v l one L W) : W.cell? ⟨B + 1, 7, none⟩ = some v := by
  obtain ⟨cs, h1, h2⟩ := h.wk
  exact (h1.cell 7).trans h2.c7
theorem Rd.g (h : Rd w B e s a ol oh nl nh v l one L W) : B + 1 < W.heap.size := by have := h.size; omega
/-- the blocks that others may hold -/
theorem Rd.rowge (h : Rd w B e s a ol oh nl nh v l one L W) : ∀ r, v.ownBlock = some r → B + 3 ≤ r ∧ r < W.heap.size := fun r e => h.row.lt r e
theorem Rd.ks (h : Rd w w.heap.size e s a ol oh nl nh v l one L W) : KS w [(w.heap.size + 2, #[.pointer (some ⟨w.heap.size + 1, 0, none⟩)], 95)] W := ⟨fun x hx => by
  simp only [List.mem_cons, List.not_mem_nil, or_false] at hx
  subst hx; exact h.bp, h.bel⟩
/-- the row has grown, the work is as it was -/
theorem Rd.mid (h : Rd w B e s a ol oh nl nh v l one L W) (hg : W.grownBy W' v.ownBlock) : W'.cell? ⟨B + 1, 7, none⟩ = some v ∧ W'.frozen? ⟨B + 1, 7, none⟩ = false ∧ B + 1 < W'.heap.size ∧ Blk W' (B + 2) #[.pointer (some ⟨B + 1, 0, none⟩)] 95 ∧ Below B w W' := by
  have hr := h.rowge
  have hsz := h.size
  obtain ⟨cs, h1, h2⟩ := h.wk
  have k2 := h1.kept hg (fun e => by have := (hr _ e.symm).1; omega)
  exact ⟨(k2.cell 7).trans h2.c7, k2.frozen 7, k2.lt, h.bp.kept hg (fun e => by have := (hr _ e.symm).1; omega), h.bel.grown hg (by omega) (fun r e => by have := (hr r e).1; omega)⟩
/-- blocks appended to -/
theorem Rd.app (h : Rd w B e s a ol oh nl nh v l one L W) {v' : Value} {x : Nat} (ho : W'.ownsRow (B + 3) 109 1 v' (l.length + 1) (setsV l ++ [.int .u64 (x : Int)])) (hg : W.grownBy W' v.ownBlock) : Rd w B e s a ol oh nl nh v' (l ++ [x]) one L (W'.setCell ⟨B + 1, 7, none⟩ v') := by
  have hr := h.rowge
  have hsz := h.size
  obtain ⟨cs, h1, h2⟩ := h.wk
  have k0 := h.cen.kept hg (fun e => by have := (hr _ e.symm).1; omega)
  have k1 := h.bp.kept hg (fun e => by have := (hr _ e.symm).1; omega)
  have k2 := h1.kept hg (fun e => by have := (hr _ e.symm).1; omega)
  refine ⟨k0.other (by show B ≠ B + 1; omega) _, k1.other (by show B + 2 ≠ B + 1; omega) _, ⟨_, k2.set 7 v', h2.setB v'⟩, ?_, ?_⟩
  · have ho2 : OwnS W' (B + 3) v' (l ++ [x]) := by
      unfold OwnS
      rw [List.length_append]
      simpa [setsV] using ho
    exact (Kx.set (E := fun k => k = B + 1) (a := ⟨B + 1, 7, none⟩) rfl v').own ho2 (fun r e => by have := (ho2.lt r e).1; omega)
  · exact (h.bel.grown hg (by omega) (fun r e => by have := (hr r e).1; omega)).setCell (p := ⟨B + 1, 7, none⟩) (by show B ≤ B + 1; omega) v'
end
section
variable {w W W' : World} {B : Nat} {e s a : Value} {ol oh nl nh : Int} {v v' : Value} {l l' : List Nat} {one : Nat → Bool} {L : Nat → Nat}
/-- behind a join -/
theorem Rd.join (h : Rd w B e s a ol oh nl nh v l one L W) {gr : Nat} (hg : B + 3 ≤ gr) {cs : Array Value} (hC : WkC cs e s a ol oh nl nh v one L) (hk : Kx (fun k => k = B + 1 ∨ k = gr) W W') (hb : Blk W' (B + 1) (cs.setIfInBounds 7 v') 107) (ho : OwnS W' (B + 3) v' l') : Rd w B e s a ol oh nl nh v' l' one L W' :=
  ⟨hk.blk h.cen (by omega), hk.blk h.bp (by omega), ⟨_, hb, hC.setB v'⟩, ho, h.bel.trans (hk.bel (by have := h.size; omega) (fun k e => by omega))⟩
end
def blksTo (n : Nat) (sm : List (Nat × Nat)) (k : Nat) : List Nat := (sm.take k).foldl Sh.joinB ((List.range n).map fun i => 2 ^ i)
theorem blksTo_succ {n : Nat} {sm : List (Nat × Nat)} {k : Nat} {p : Nat × Nat} (h : sm[k]? = some p) : blksTo n sm (k + 1) = Sh.joinB (blksTo n sm k) p := by
  unfold blksTo
  rw [List.take_add_one, h, Option.toList_some, List.foldl_append]; rfl
theorem blksTo_cov {n : Nat} {sm : List (Nat × Nat)} (h : ∀ p ∈ sm, p.1 < n ∧ p.2 < n) (k : Nat) : Sh.Cov n (blksTo n sm k) := Sh.Cov.fold _ (Sh.Cov.start n) (fun p hp => h p (List.mem_of_mem_take hp))
theorem blksTo_all (n : Nat) (sm : List (Nat × Nat)) (k : Nat) (h : sm.length ≤ k) : blksTo n sm k = Sh.blocks n sm := by
  unfold blksTo; rw [List.take_of_length_le h]; rfl
theorem lsplit8 {l : List Value} {n : Nat} (h : l.length = n + 1) : ∃ v l2, l = v :: l2 ∧ l2.length = n := by
  cases l with
  | nil => cases h
  | cons v l2 => exact ⟨v, l2, rfl, by simpa using h⟩
theorem lelim8 {n : Nat} {Q : List Value → Prop} (h : ∀ v0 v1 v2 v3 v4 v5 v6 v7 (l : List Value), l.length = n → Q (v0 :: v1 :: v2 :: v3 :: v4 :: v5 :: v6 :: v7 :: l)) (l : List Value) (hl : l.length = n + 8) : Q l := by
  obtain ⟨v0, l0, e0, h0⟩ := lsplit8 hl
  obtain ⟨v1, l1, e1, h1⟩ := lsplit8 h0
  obtain ⟨v2, l2, e2, h2⟩ := lsplit8 h1
  obtain ⟨v3, l3, e3, h3⟩ := lsplit8 h2
  obtain ⟨v4, l4, e4, h4⟩ := lsplit8 h3
  obtain ⟨v5, l5, e5, h5⟩ := lsplit8 h4
  obtain ⟨v6, l6, e6, h6⟩ := lsplit8 h5
  obtain ⟨v7, l7, e7, h7⟩ := lsplit8 h6
  subst e7
  subst e6
  subst e5
  subst e4
  subst e3
  subst e2
  subst e1
  subst e0
  exact h v0 v1 v2 v3 v4 v5 v6 v7 l7 h7
set_option maxRecDepth 100000 in
theorem act115 {Q : Array Value → Prop} (h : ∀ v0 v1 v2 v3 v4 v5 v6 v7 v8 v9 v10 v11 v12 v13 v14 v15 v16 v17 v18 v19 v20 v21 v22 v23 v24 v25 v26 v27 v28 v29 v30 v31 v32 v33 v34 v35 v36 v37 v38 v39 v40 v41 v42 v43 v44 v45 v46 v47 v48 v49 v50 v51 v52 v53 v54 v55 v56 v57 v58 v59 v60 v61 v62 v63 v64 v65 v66 v67 v68 v69 v70 v71 v72 v73 v74 v75 v76 v77 v78 v79 v80 v81 v82 v83 v84 v85 v86 v87 v88 v89 v90 v91 v92 v93 v94 v95 v96 v97 v98 v99 v100 v101 v102 v103 v104 v105 v106 v107 v108 v109 v110 v111 v112 v113 v114 : Value, Q #[v0, v1, v2, v3, v4, v5, v6, v7, v8, v9, v10, v11, v12, v13, v14, v15, v16, v17, v18, v19, v20, v21, v22, v23, v24, v25, v26, v27, v28, v29, v30, v31, v32, v33, v34, v35, v36, v37, v38, v39, v40, v41, v42, v43, v44, v45, v46, v47, v48, v49, v50, v51, v52, v53, v54, v55, v56, v57, v58, v59, v60, v61, v62, v63, v64, v65, v66, v67, v68, v69, v70, v71, v72, v73, v74, v75, v76, v77, v78, v79, v80, v81, v82, v83, v84, v85, v86, v87, v88, v89, v90, v91, v92, v93, v94, v95, v96, v97, v98, v99, v100, v101, v102, v103, v104, v105, v106, v107, v108, v109, v110, v111, v112, v113, v114]) (tm : Array Value) (hs : tm.size = 115) : Q tm := by
  obtain ⟨l⟩ := tm
  have hl : l.length = 115 := hs
  refine lelim8 (n := 107) (Q := fun l => Q ⟨l⟩) (fun v0 v1 v2 v3 v4 v5 v6 v7 l h0 => ?_) l hl
  refine lelim8 (n := 99) (Q := fun l => Q ⟨v0 :: v1 :: v2 :: v3 :: v4 :: v5 :: v6 :: v7 :: l⟩) (fun v8 v9 v10 v11 v12 v13 v14 v15 l h1 => ?_) l h0
  refine lelim8 (n := 91) (Q := fun l => Q ⟨v0 :: v1 :: v2 :: v3 :: v4 :: v5 :: v6 :: v7 :: v8 :: v9 :: v10 :: v11 :: v12 :: v13 :: v14 :: v15 :: l⟩) (fun v16 v17 v18 v19 v20 v21 v22 v23 l h2 => ?_) l h1
  refine lelim8 (n := 83) (Q := fun l => Q ⟨v0 :: v1 :: v2 :: v3 :: v4 :: v5 :: v6 :: v7 :: v8 :: v9 :: v10 :: v11 :: v12 :: v13 :: v14 :: v15 :: v16 :: v17 :: v18 :: v19 :: v20 :: v21 :: v22 :: v23 :: l⟩) (fun v24 v25 v26 v27 v28 v29 v30 v31 l h3 => ?_) l h2
  refine lelim8 (n := 75) (Q := fun l => Q ⟨v0 :: v1 :: v2 :: v3 :: v4 :: v5 :: v6 :: v7 :: v8 :: v9 :: v10 :: v11 :: v12 :: v13 :: v14 :: v15 :: v16 :: v17 :: v18 :: v19 :: v20 :: v21 :: v22 :: v23 :: v24 :: v25 :: v26 :: v27 :: v28 :: v29 :: v30 :: v31 :: l⟩) (fun v32 v33 v34 v35 v36 v37 v38 v39 l h4 => ?_) l h3
  refine lelim8 (n := 67) (Q := fun l => Q ⟨v0 :: v1 :: v2 :: v3 :: v4 :: v5 :: v6 :: v7 :: v8 :: v9 :: v10 :: v11 :: v12 :: v13 :: v14 :: v15 :: v16 :: v17 :: v18 :: v19 :: v20 :: v21 :: v22 :: v23 :: v24 :: v25 :: v26 :: v27 :: v28 :: v29 :: v30 :: v31 :: v32 :: v33 :: v34 :: v35 :: v36 :: v37 :: v38 :: v39 :: l⟩) (fun v40 v41 v42 v43 v44 v45 v46 v47 l h5 => ?_) l h4
  refine lelim8 (n := 59) (Q := fun l => Q ⟨v0 :: v1 :: v2 :: v3 :: v4 :: v5 :: v6 :: v7 :: v8 :: v9 :: v10 :: v11 :: v12 :: v13 :: v14 :: v15 :: v16 :: v17 :: v18 :: v19 :: v20 :: v21 :: v22 :: v23 :: v24 :: v25 :: v26 :: v27 :: v28 :: v29 :: v30 :: v31 :: v32 :: v33 :: v34 :: v35 :: v36 :: v37 :: v38 :: v39 :: v40 :: v41 :: v42 :: v43 :: v44 :: v45 :: v46 :: v47 :: l⟩) (fun v48 v49 v50 v51 v52 v53 v54 v55 l h6 => ?_) l h5
  refine lelim8 (n := 51) (Q := fun l => Q ⟨v0 :: v1 :: v2 :: v3 :: v4 :: v5 :: v6 :: v7 :: v8 :: v9 :: v10 :: v11 :: v12 :: v13 :: v14 :: v15 :: v16 :: v17 :: v18 :: v19 :: v20 :: v21 :: v22 :: v23 :: v24 :: v25 :: v26 :: v27 :: v28 :: v29 :: v30 :: v31 :: v32 :: v33 :: v34 :: v35 :: v36 :: v37 :: v38 :: v39 :: v40 :: v41 :: v42 :: v43 :: v44 :: v45 :: v46 :: v47 :: v48 :: v49 :: v50 :: v51 :: v52 :: v53 :: v54 :: v55 :: l⟩) (fun v56 v57 v58 v59 v60 v61 v62 v63 l h7 => ?_) l h6
  refine lelim8 (n := 43) (Q := fun l => Q ⟨v0 :: v1 :: v2 :: v3 :: v4 :: v5 :: v6 :: v7 :: v8 :: v9 :: v10 :: v11 :: v12 :: v13 :: v14 :: v15 :: v16 :: v17 :: v18 :: v19 :: v20 :: v21 :: v22 :: v23 :: v24 :: v25 :: v26 :: v27 :: v28 :: v29 :: v30 :: v31 :: v32 :: v33 :: v34 :: v35 :: v36 :: v37 :: v38 :: v39 :: v40 :: v41 :: v42 :: v43 :: v44 :: v45 :: v46 :: v47 :: v48 :: v49 :: v50 :: v51 :: v52 :: v53 :: v54 :: v55 :: v56 :: v57 :: v58 :: v59 :: v60 :: v61 :: v62 :: v63 :: l⟩) (fun v64 v65 v66 v67 v68 v69 v70 v71 l h8 => ?_) l h7
  refine lelim8 (n := 35) (Q := fun l => Q ⟨v0 :: v1 :: v2 :: v3 :: v4 :: v5 :: v6 :: v7 :: v8 :: v9 :: v10 :: v11 :: v12 :: v13 :: v14 :: v15 :: v16 :: v17 :: v18 :: v19 :: v20 :: v21 :: v22 :: v23 :: v24 :: v25 :: v26 :: v27 :: v28 :: v29 :: v30 :: v31 :: v32 :: v33 :: v34 :: v35 :: v36 :: v37 :: v38 :: v39 :: v40 :: v41 :: v42 :: v43 :: v44 :: v45 :: v46 :: v47 :: v48 :: v49 :: v50 :: v51 :: v52 :: v53 :: v54 :: v55 :: v56 :: v57 :: v58 :: v59 :: v60 :: v61 :: v62 :: v63 :: v64 :: v65 :: v66 :: v67 :: v68 :: v69 :: v70 :: v71 :: l⟩) (fun v72 v73 v74 v75 v76 v77 v78 v79 l h9 => ?_) l h8
  refine lelim8 (n := 27) (Q := fun l => Q ⟨v0 :: v1 :: v2 :: v3 :: v4 :: v5 :: v6 :: v7 :: v8 :: v9 :: v10 :: v11 :: v12 :: v13 :: v14 :: v15 :: v16 :: v17 :: v18 :: v19 :: v20 :: v21 :: v22 :: v23 :: v24 :: v25 :: v26 :: v27 :: v28 :: v29 :: v30 :: v31 :: v32 :: v33 :: v34 :: v35 :: v36 :: v37 :: v38 :: v39 :: v40 :: v41 :: v42 :: v43 :: v44 :: v45 :: v46 :: v47 :: v48 :: v49 :: v50 :: v51 :: v52 :: v53 :: v54 :: v55 :: v56 :: v57 :: v58 :: v59 :: v60 :: v61 :: v62 :: v63 :: v64 :: v65 :: v66 :: v67 :: v68 :: v69 :: v70 :: v71 :: v72 :: v73 :: v74 :: v75 :: v76 :: v77 :: v78 :: v79 :: l⟩) (fun v80 v81 v82 v83 v84 v85 v86 v87 l h10 => ?_) l h9
  refine lelim8 (n := 19) (Q := fun l => Q ⟨v0 :: v1 :: v2 :: v3 :: v4 :: v5 :: v6 :: v7 :: v8 :: v9 :: v10 :: v11 :: v12 :: v13 :: v14 :: v15 :: v16 :: v17 :: v18 :: v19 :: v20 :: v21 :: v22 :: v23 :: v24 :: v25 :: v26 :: v27 :: v28 :: v29 :: v30 :: v31 :: v32 :: v33 :: v34 :: v35 :: v36 :: v37 :: v38 :: v39 :: v40 :: v41 :: v42 :: v43 :: v44 :: v45 :: v46 :: v47 :: v48 :: v49 :: v50 :: v51 :: v52 :: v53 :: v54 :: v55 :: v56 :: v57 :: v58 :: v59 :: v60 :: v61 :: v62 :: v63 :: v64 :: v65 :: v66 :: v67 :: v68 :: v69 :: v70 :: v71 :: v72 :: v73 :: v74 :: v75 :: v76 :: v77 :: v78 :: v79 :: v80 :: v81 :: v82 :: v83 :: v84 :: v85 :: v86 :: v87 :: l⟩) (fun v88 v89 v90 v91 v92 v93 v94 v95 l h11 => ?_) l h10
  refine lelim8 (n := 11) (Q := fun l => Q ⟨v0 :: v1 :: v2 :: v3 :: v4 :: v5 :: v6 :: v7 :: v8 :: v9 :: v10 :: v11 :: v12 :: v13 :: v14 :: v15 :: v16 :: v17 :: v18 :: v19 :: v20 :: v21 :: v22 :: v23 :: v24 :: v25 :: v26 :: v27 :: v28 :: v29 :: v30 :: v31 :: v32 :: v33 :: v34 :: v35 :: v36 :: v37 :: v38 :: v39 :: v40 :: v41 :: v42 :: v43 :: v44 :: v45 :: v46 :: v47 :: v48 :: v49 :: v50 :: v51 :: v52 :: v53 :: v54 :: v55 :: v56 :: v57 :: v58 :: v59 :: v60 :: v61 :: v62 :: v63 :: v64 :: v65 :: v66 :: v67 :: v68 :: v69 :: v70 :: v71 :: v72 :: v73 :: v74 :: v75 :: v76 :: v77 :: v78 :: v79 :: v80 :: v81 :: v82 :: v83 :: v84 :: v85 :: v86 :: v87 :: v88 :: v89 :: v90 :: v91 :: v92 :: v93 :: v94 :: v95 :: l⟩) (fun v96 v97 v98 v99 v100 v101 v102 v103 l h12 => ?_) l h11
  refine lelim8 (n := 3) (Q := fun l => Q ⟨v0 :: v1 :: v2 :: v3 :: v4 :: v5 :: v6 :: v7 :: v8 :: v9 :: v10 :: v11 :: v12 :: v13 :: v14 :: v15 :: v16 :: v17 :: v18 :: v19 :: v20 :: v21 :: v22 :: v23 :: v24 :: v25 :: v26 :: v27 :: v28 :: v29 :: v30 :: v31 :: v32 :: v33 :: v34 :: v35 :: v36 :: v37 :: v38 :: v39 :: v40 :: v41 :: v42 :: v43 :: v44 :: v45 :: v46 :: v47 :: v48 :: v49 :: v50 :: v51 :: v52 :: v53 :: v54 :: v55 :: v56 :: v57 :: v58 :: v59 :: v60 :: v61 :: v62 :: v63 :: v64 :: v65 :: v66 :: v67 :: v68 :: v69 :: v70 :: v71 :: v72 :: v73 :: v74 :: v75 :: v76 :: v77 :: v78 :: v79 :: v80 :: v81 :: v82 :: v83 :: v84 :: v85 :: v86 :: v87 :: v88 :: v89 :: v90 :: v91 :: v92 :: v93 :: v94 :: v95 :: v96 :: v97 :: v98 :: v99 :: v100 :: v101 :: v102 :: v103 :: l⟩) (fun v104 v105 v106 v107 v108 v109 v110 v111 l h13 => ?_) l h12
  obtain ⟨v112, l, rfl, k0⟩ := lsplit8 h13
  obtain ⟨v113, l, rfl, k1⟩ := lsplit8 k0
  obtain ⟨v114, l, rfl, k2⟩ := lsplit8 k1
  have e := List.eq_nil_of_length_eq_zero k2
  subst e
  exact h v0 v1 v2 v3 v4 v5 v6 v7 v8 v9 v10 v11 v12 v13 v14 v15 v16 v17 v18 v19 v20 v21 v22 v23 v24 v25 v26 v27 v28 v29 v30 v31 v32 v33 v34 v35 v36 v37 v38 v39 v40 v41 v42 v43 v44 v45 v46 v47 v48 v49 v50 v51 v52 v53 v54 v55 v56 v57 v58 v59 v60 v61 v62 v63 v64 v65 v66 v67 v68 v69 v70 v71 v72 v73 v74 v75 v76 v77 v78 v79 v80 v81 v82 v83 v84 v85 v86 v87 v88 v89 v90 v91 v92 v93 v94 v95 v96 v97 v98 v99 v100 v101 v102 v103 v104 v105 v106 v107 v108 v109 v110 v111 v112 v113 v114
theorem OwnS.val {W : World} {base : Nat} {v : Value} {l : List Nat} (h : OwnS W base v l) : ∃ (ad : Option Addr) (c : Nat), v = .slice ad l.length c ∧ (0 < l.length → ∃ gr, ad = some ⟨gr, 0, none⟩) := by
  rcases Joins.ownsRow_forms h with ⟨hv, h0⟩ | ⟨g, c, hv⟩
  · exact ⟨none, 0, by rw [hv, h0], fun hl => by omega⟩
  · exact ⟨_, c, hv, fun _ => ⟨g, rfl⟩⟩
theorem step_append_set {P : Program} {ops : Array Oper} {o : Oper} {a : Act} {w : World} {K : Act → World → Prop} {Q : Exit → Act → World → Prop} {E : Prop} (hgd : o.guard = none) (s x : Operand) (t : TypeId)
    (ho : o.op = .call { callee := .builtin .append, args := #[s, x], argTypes := #[t, t] })
    (base : Nat) (e : TypeId) (i : TypeInfo) (z : Value) (size bytes : Nat) (ht : P.underlying t = some (.slice e)) (hi : P.info? e = some i) (hz : i.zero = some z)
    (hsize : i.size = size) (hby : i.bytes = bytes) (hzs : z.cells.size = size) (hsz : 0 < size)
    (v : Value) (n : Nat) (xs : List Value) (hs : a.eval s = v) (hown : w.ownsRow base e size v n xs)
    (ad : Addr) (m c : Nat) (news : List Value) (hx : a.eval x = .slice (some ad) m c) (hl : news.length = m * size) (hnews : ∀ j u, news[j]? = some u → w.cell? (ad.add j) = some u) (h1 : ∀ u ∈ news, u.oneCell' = true)
    (h63 : n + m ≤ maxLen) (hbytes : (n + m) * bytes ≤ 140737488355328) (hbase : base ≤ w.heap.size)
    (h : ∀ v' w', w'.ownsRow base e size v' (n + m) (xs ++ news) → w.grownBy w' v.ownBlock → (v' = .slice none 0 0 ↔ v = .slice none 0 0 ∧ m = 0) → K (a.put o.dst v') w') :
    if Region.wanted o (yielded ops a.tmps) = true then Oper.wp P o a w K Q else E := by
  have hw : Region.wanted o (yielded ops a.tmps) = true := by simp [Region.wanted, hgd]
  rw [if_pos hw]
  exact wp_append_own w s x t ho base e i z size bytes ht hi hz hsize hby hzs hsz v n xs hs hown ad m c news hx hl hnews h1 h63 hbytes hbase h
end Go.Proofs.YtdfebccmjbocjaaGreatDoor
