/- NodeSizes: plain words. -/
import Derived.Test.YtnohhmopiflboaaNode37
set_option linter.unusedVariables false
set_option linter.unusedSimpArgs false
namespace Go.Proofs.Ytnohhmopiflboaa.Nod
open Go.RowKit Go.Proofs.Ytnohhmopiflboaa.Base Go.Proofs.Ytnohhmopiflboaa.Byt Go.Proofs.Ytnohhmopiflboaa.Rd Go.Proofs.Ytnohhmopiflboaa.App

theorem bad_false (a b : PB) : badPair a b = false ↔ Lib.compareBytes a b < 0 := by
  unfold badPair
  rw [decide_eq_false_iff_not]
  omega
theorem less_trans : ∀ (a b c : PB), Lib.compareBytes a b < 0 → Lib.compareBytes b c < 0 → Lib.compareBytes a c < 0
  | [], b, [], h1, h2 => by
    cases b with
    | nil => exact h1
    | cons y b => simp [Lib.compareBytes] at h2
  | [], _, z :: c, _, _ => by simp [Lib.compareBytes]
  | x :: a, [], c, h1, _ => by simp [Lib.compareBytes] at h1
  | x :: a, y :: b, [], _, h2 => by simp [Lib.compareBytes] at h2
  | x :: a, y :: b, z :: c, h1, h2 => by
    have ih := less_trans a b c
    simp only [Lib.compareBytes, UInt8.lt_iff_toNat_lt] at h1 h2 ⊢
    by_cases h3 : x.toNat < z.toNat
    · rw [if_pos h3]; decide
    · rw [if_neg h3]
      by_cases h4 : x.toNat < y.toNat
      · rw [if_pos h4] at h1
        by_cases h5 : y.toNat < z.toNat
        · omega
        · rw [if_neg h5] at h2
          by_cases h6 : z.toNat < y.toNat
          · rw [if_pos h6] at h2; omega
          · omega
      · rw [if_neg h4] at h1
        by_cases h7 : y.toNat < x.toNat
        · rw [if_pos h7] at h1; omega
        · rw [if_neg h7] at h1
          by_cases h5 : y.toNat < z.toNat
          · omega
          · rw [if_neg h5] at h2
            by_cases h6 : z.toNat < y.toNat
            · rw [if_pos h6] at h2; omega
            · rw [if_neg h6] at h2
              rw [if_neg (by omega)]
              exact ih h1 h2
theorem rising_out {ks : List PB} (h : risingB ks = true) (k : Nat) : risingB (ks.take k ++ ks.drop (k + 1)) = true := by
  rw [rising_true] at h ⊢
  intro i hi
  simp only [List.length_append, List.length_take, List.length_drop] at hi
  have get (j : Nat) : (ks.take k ++ ks.drop (k + 1)).getD j [] = if j < k then ks.getD j [] else ks.getD (j + 1) [] := by
    by_cases hj : j < k
    · rw [if_pos hj]
      by_cases hl : j < ks.length
      · simp only [List.getD]
        rw [List.getElem?_append_left (by rw [List.length_take]; omega), List.getElem?_take, if_pos hj]
      · simp only [List.getD]
        rw [List.getElem?_eq_none (by simp; omega), List.getElem?_eq_none (by omega)]
    · rw [if_neg hj]
      simp only [List.getD]
      by_cases hk : k ≤ ks.length
      · rw [List.getElem?_append_right (by rw [List.length_take]; omega), List.getElem?_drop, List.length_take, Nat.min_eq_left hk]
        congr 2
        omega
      · rw [List.getElem?_eq_none (by simp; omega), List.getElem?_eq_none (by omega)]
  rw [get i, get (i + 1)]
  by_cases h1 : i + 1 < k
  · rw [if_pos (by omega), if_pos h1]
    exact h i (by omega)
  · rw [if_neg h1]
    by_cases h2 : i < k
    · rw [if_pos h2]
      rw [bad_false]
      have a1 := (bad_false _ _).1 (h i (by omega))
      have a2 := (bad_false _ _).1 (h (i + 1) (by omega))
      exact less_trans _ _ _ a1 a2
    · rw [if_neg h2]
      exact h (i + 1) (by omega)
def outOf (x : PNode) (k : Nat) : PNode := leafOf (x.2.1.take k ++ x.2.1.drop (k + 1))
theorem sizes {x : PNode} (h : checkN x = 0) (hs : Sane x) (hx : x.1 = true) (k : Nat) (hk : k < x.2.1.length) :
    wrap64 (nodeSz (outOf x k)) = wrap64 (wrap64 (nodeSz x) - cellSz x.2.1[k]) ∧ (1 < x.2.1.length → checkN (outOf x k) = 0) ∧ (x.2.1.length = 1 → checkN (outOf x k) = 3) := by
  obtain ⟨hf, hw⟩ := checkN_zero h
  have hr := leaf_right hf hx
  have hmem : ∀ c ∈ x.2.1.take k ++ x.2.1.drop (k + 1), cellOk c = true := fun c hc => by
    rcases List.mem_append.1 hc with hc | hc
    · exact hr.cells c (List.mem_of_mem_take hc)
    · exact hr.cells c (List.mem_of_mem_drop hc)
  have hsum := sum_small (l := x.2.1.map cellSz) (fun y hy => by
    obtain ⟨c, hc, rfl⟩ := List.mem_map.1 hy
    exact csz_small (hr.cells c hc))
  have hsb := sum_small (l := (x.2.1.take k ++ x.2.1.drop (k + 1)).map cellSz) (fun y hy => by
    obtain ⟨c, hc, rfl⟩ := List.mem_map.1 hy
    exact csz_small (hmem c hc))
  have hc := csz_small (hr.cells _ (List.getElem_mem hk))
  have hsplit : sumI (x.2.1.map cellSz) = sumI ((x.2.1.take k ++ x.2.1.drop (k + 1)).map cellSz) + cellSz x.2.1[k] := by
    have e : x.2.1 = x.2.1.take k ++ (x.2.1[k] :: x.2.1.drop (k + 1)) := by rw [← List.drop_eq_getElem_cons hk, List.take_append_drop]
    have e2 : sumI (x.2.1.map cellSz) = sumI ((x.2.1.take k ++ (x.2.1[k] :: x.2.1.drop (k + 1))).map cellSz) := by rw [← e]
    rw [e2]
    simp only [List.map_append, List.map_cons, sumI_append]
    simp only [sumI, List.foldr_cons]
    omega
  have hb := hs.cells
  simp only [reachBytes, List.length_map] at hb hsum
  have hn : nodeSz x = 3 + sumI (x.2.1.map cellSz) := by simp [nodeSz, hx]
  have hw2 : wrap64 (nodeSz x) = nodeSz x := by unfold wrap64; omega
  simp only [List.length_map, List.length_append, List.length_take, List.length_drop] at hsb
  have hno : nodeSz (outOf x k) = 3 + sumI ((x.2.1.take k ++ x.2.1.drop (k + 1)).map cellSz) := by simp [nodeSz, outOf, leafOf]
  refine ⟨by rw [hw2, hn, hno, hsplit]; congr 1; omega, fun h1 => ?_, fun h1 => ?_⟩
  · exact (check_leaf hmem (by simp only [List.length_append, List.length_take, List.length_drop]; omega) (by rw [List.map_append, List.map_take, List.map_drop]; exact rising_out hr.rising k) (by omega)).1
  · have e : x.2.1.take k ++ x.2.1.drop (k + 1) = [] := by
      apply List.length_eq_zero_iff.1
      simp only [List.length_append, List.length_take, List.length_drop]
      omega
    unfold outOf
    rw [e]
    exact e_check

theorem cells4_append (a b : List PV) : cells4 (a ++ b) = cells4 a ++ cells4 b := by
  induction a with
  | nil => rfl
  | cons p a ih => simp [cells4, ih]
theorem cells4_split (ps : List PV) (k : Nat) : cells4 ps = cells4 (ps.take k) ++ cells4 (ps.drop k) := by
  rw [← cells4_append, List.take_append_drop]
theorem cells4_one {ps : List PV} (h : ∀ p ∈ ps, p.1.oneCell' = true ∧ p.2.1.oneCell' = true) : ∀ u ∈ cells4 ps, u.oneCell' = true := by
  induction ps with
  | nil => intro u hu; cases hu
  | cons p ps ih =>
    intro u hu
    simp only [cells4, List.mem_cons] at hu
    rcases hu with rfl | rfl | rfl | rfl | hu
    · exact (h p (by simp)).1
    · exact (h p (by simp)).2
    · rfl
    · rfl
    · exact ih (fun q hq => h q (by simp [hq])) u hu
theorem own_one {w : World} {B : Nat} {v : Value} {xs : PB} (h : OwnB w B v xs) : v.oneCell' = true := by
  obtain ⟨A, c, rfl⟩ := own_form h
  rfl
theorem ps_one {T : TypeId} {W : World} {B : Nat} {v : Value} {xs : List PCell} {ps : List PV} (h : OwnCells T W B v xs ps) : ∀ p ∈ ps, p.1.oneCell' = true ∧ p.2.1.oneCell' = true := fun p hp => by
  obtain ⟨j, hj, rfl⟩ := List.getElem_of_mem hp
  have := h.cell j (by rw [← h.len]; exact hj) hj
  exact ⟨own_one this.1, own_one this.2.1⟩
/-- The cells of a row of the call's own, where they lie. -/
theorem own_cells_at {T : TypeId} {W : World} {B b o n c : Nat} {xs : List PCell} {ps : List PV} (h : OwnCells T W B (.slice (some ⟨b, o, none⟩) n c) xs ps) : ∀ j u, (cells4 ps)[j]? = some u → W.cell? ⟨b, o + j, none⟩ = some u := fun j u hu => by
  rcases h.own.2 with ⟨he, _⟩ | ⟨g, cap, cur, he, _, hh, _, _, _, ht⟩
  · cases he
  · injection he with h1 h2 h3
    injection h1 with h1
    injection h1 with h1 h4
    subst h1 h4
    rw [Nat.zero_add, blk_cell hh]
    rw [← ht] at hu
    rw [List.getElem?_take] at hu
    split at hu
    · rw [Array.getElem?_toList] at hu; exact hu
    · cases hu
theorem feeds_take {T : TypeId} {W : World} {B b o n c : Nat} {xs : List PCell} {ps : List PV} (h : OwnCells T W B (.slice (some ⟨b, o, none⟩) n c) xs ps) (k c' : Nat) (hk : k ≤ xs.length) : Feeds W (some ⟨b, o, none⟩) k c' 4 (cells4 (ps.take k)) := by
  have hl := h.len
  refine ⟨by rw [cells4_length, List.length_take]; omega, fun a ha j u hu => ?_, (fun h => by cases h), cells4_one (fun p hp => ps_one h p (List.mem_of_mem_take hp))⟩
  cases ha
  rw [addr_add]
  refine own_cells_at h j u ?_
  rw [cells4_split ps k, List.getElem?_append_left ((List.getElem?_eq_some_iff.1 hu).1)]
  exact hu
theorem feeds_drop {T : TypeId} {W : World} {B b o n c : Nat} {xs : List PCell} {ps : List PV} (h : OwnCells T W B (.slice (some ⟨b, o, none⟩) n c) xs ps) (k c' : Nat) (hk : k ≤ xs.length) : Feeds W (some ⟨b, o + k * 4, none⟩) (xs.length - k) c' 4 (cells4 (ps.drop k)) := by
  have hl := h.len
  refine ⟨by rw [cells4_length, List.length_drop]; omega, fun a ha j u hu => ?_, (fun h => by cases h), cells4_one (fun p hp => ps_one h p (List.mem_of_mem_drop hp))⟩
  cases ha
  rw [addr_add]
  have := own_cells_at h (k * 4 + j) u (by
    rw [cells4_split ps k, List.getElem?_append_right (by rw [cells4_length, List.length_take]; omega), cells4_length, List.length_take, Nat.min_eq_left (by omega), show k * 4 + j - k * 4 = j by omega]
    exact hu)
  rw [← this]
  congr 2
  omega
/-- What is left of the cells where one is taken out, in a row of their own. -/
theorem own_out {T : TypeId} {W W' : World} {B B' : Nat} {v v' : Value} {xs : List PCell} {ps : List PV} (h : OwnCells T W B v xs ps) (ha : Above B W W') (k : Nat) (hk : k < xs.length) {n : Nat} (hn : n = k + (xs.length - (k + 1)))
    (ho : W'.ownsRow B' T 4 v' n (cells4 (ps.take k) ++ cells4 (ps.drop (k + 1)))) (hB : B ≤ B') : OwnCells T W' B v' (xs.take k ++ xs.drop (k + 1)) (ps.take k ++ ps.drop (k + 1)) := by
  have hl := h.len
  refine ⟨?_, by simp [hl], fun j a b => ?_⟩
  · rw [cells4_append]
    have e : (xs.take k ++ xs.drop (k + 1)).length = n := by simp only [List.length_append, List.length_take, List.length_drop]; omega
    rw [e]
    exact own_base ho hB
  · simp only [List.length_append, List.length_take, List.length_drop] at a
    by_cases hj : j < k
    · have := h.cell j (by omega) (by omega)
      rw [List.getElem_append_left (by rw [List.length_take]; omega), List.getElem_append_left (by rw [List.length_take]; omega), List.getElem_take, List.getElem_take]
      exact ⟨ha.own this.1, ha.own this.2.1, this.2.2⟩
    · have := h.cell (j + 1) (by omega) (by omega)
      rw [List.getElem_append_right (by rw [List.length_take]; omega), List.getElem_append_right (by rw [List.length_take]; omega), List.getElem_drop, List.getElem_drop]
      have e1 : k + 1 + (j - (xs.take k).length) = j + 1 := by rw [List.length_take]; omega
      have e2 : k + 1 + (j - (ps.take k).length) = j + 1 := by rw [List.length_take]; omega
      simp only [e1, e2]
      exact ⟨ha.own this.1, ha.own this.2.1, this.2.2⟩
end Go.Proofs.Ytnohhmopiflboaa.Nod
