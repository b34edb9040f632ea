/- NodeHalves: the walk. -/
import Derived.Test.YtnohhmopiflboaaNode36
set_option linter.unusedVariables false
set_option linter.unusedSimpArgs false
namespace Go.Proofs.Ytnohhmopiflboaa.Nod
open Go.RowKit Go.Proofs.Ytnohhmopiflboaa.Base Go.Proofs.Ytnohhmopiflboaa.Byt Go.Proofs.Ytnohhmopiflboaa.Rd Go.Proofs.Ytnohhmopiflboaa.App

/-! ### The plain law -/
def leafOf (cs : List PCell) : PNode := (true, cs, [], [])
theorem rising_take {ks : List PB} (h : risingB ks = true) (k : Nat) : risingB (ks.take k) = true := by
  rw [rising_true] at h ⊢
  intro i hi
  rw [List.length_take] at hi
  have := h i (by omega)
  simp only [List.getD, List.getElem?_take] at this ⊢
  rw [if_pos (by omega), if_pos (by omega)]
  exact this
theorem rising_drop {ks : List PB} (h : risingB ks = true) (k : Nat) : risingB (ks.drop k) = true := by
  rw [rising_true] at h ⊢
  intro i hi
  rw [List.length_drop] at hi
  have := h (k + i) (by omega)
  simp only [List.getD, List.getElem?_drop] at this ⊢
  rw [show k + (i + 1) = k + i + 1 by omega]
  exact this
theorem sumI_append (a b : List Int) : sumI (a ++ b) = sumI a + sumI b := by
  induction a with
  | nil => simp [sumI]
  | cons x a ih => simp only [sumI, List.cons_append, List.foldr_cons] at ih ⊢; rw [ih]; omega
theorem check_leaf {cs : List PCell} (h1 : ∀ c ∈ cs, cellOk c = true) (h0 : 0 < cs.length) (hr : risingB (cs.map (·.1)) = true) (hs : 3 + sumI (cs.map cellSz) ≤ 508) : checkN (leafOf cs) = 0 ∧ wrap64 (nodeSz (leafOf cs)) = 3 + sumI (cs.map cellSz) := by
  have hsum := sum_small (l := cs.map cellSz) (fun y hy => by
    obtain ⟨c, hc, rfl⟩ := List.mem_map.1 hy
    exact csz_small (h1 c hc))
  have hn : nodeSz (leafOf cs) = 3 + sumI (cs.map cellSz) := by simp [nodeSz, leafOf]
  have hw : wrap64 (nodeSz (leafOf cs)) = 3 + sumI (cs.map cellSz) := by rw [hn]; unfold wrap64; omega
  have hf : fieldsB (leafOf cs) = true := by
    simp only [fieldsB, leafOf, if_true, leafOk, Bool.and_eq_true, List.all_eq_true]
    exact ⟨⟨⟨h1, decide_eq_true h0⟩, by simp⟩, hr⟩
  refine ⟨?_, hw⟩
  unfold checkN
  rw [hf, hw, if_neg (by decide), if_neg (by omega)]
theorem halves {x : PNode} (h : checkN x = 0) (hs : Sane x) (hx : x.1 = true) (k : Nat) (h1 : 1 ≤ k) (h2 : k < x.2.1.length) :
    checkN (leafOf (x.2.1.take k)) = 0 ∧ checkN (leafOf (x.2.1.drop k)) = 0 ∧ wrap64 (wrap64 (nodeSz (leafOf (x.2.1.take k))) + wrap64 (nodeSz (leafOf (x.2.1.drop k)))) = wrap64 (wrap64 (nodeSz x) + 3) := by
  obtain ⟨hf, hw⟩ := checkN_zero h
  have hr := leaf_right hf hx
  have hsum := sum_small (l := x.2.1.map cellSz) (fun y hy => by
    obtain ⟨c, hc, rfl⟩ := List.mem_map.1 hy
    exact csz_small (hr.cells c hc))
  have hsa := sum_small (l := (x.2.1.take k).map cellSz) (fun y hy => by
    obtain ⟨c, hc, rfl⟩ := List.mem_map.1 hy
    exact csz_small (hr.cells c (List.mem_of_mem_take hc)))
  have hsb := sum_small (l := (x.2.1.drop k).map cellSz) (fun y hy => by
    obtain ⟨c, hc, rfl⟩ := List.mem_map.1 hy
    exact csz_small (hr.cells c (List.mem_of_mem_drop hc)))
  have hsplit : sumI (x.2.1.map cellSz) = sumI ((x.2.1.take k).map cellSz) + sumI ((x.2.1.drop k).map cellSz) := by
    rw [← sumI_append, ← List.map_append, List.take_append_drop]
  have hb := hs.cells
  simp only [reachBytes, List.length_map] at hb hsum
  have hn : nodeSz x = 3 + sumI (x.2.1.map cellSz) := by simp [nodeSz, hx]
  have hw2 : wrap64 (nodeSz x) = nodeSz x := by unfold wrap64; omega
  simp only [List.length_map, List.length_take, List.length_drop] at hsa hsb
  have ha := check_leaf (cs := x.2.1.take k) (fun c hc => hr.cells c (List.mem_of_mem_take hc)) (by rw [List.length_take]; omega) (by rw [List.map_take]; exact rising_take hr.rising k) (by omega)
  have hbb := check_leaf (cs := x.2.1.drop k) (fun c hc => hr.cells c (List.mem_of_mem_drop hc)) (by rw [List.length_drop]; omega) (by rw [List.map_drop]; exact rising_drop hr.rising k) (by omega)
  refine ⟨ha.1, hbb.1, ?_⟩
  rw [ha.2, hbb.2, hw2, hn, hsplit]
  congr 1
  omega

/-! ### Slices of a row of cells -/
theorem sl_take {W : World} {b o n : Nat} {xs : List PCell} (h : IsSl rCell 4 W (some ⟨b, o, none⟩) n xs) (k : Nat) (hk : k ≤ n) : IsSl rCell 4 W (some ⟨b, o, none⟩) k (xs.take k) := by
  refine ⟨by rw [List.length_take, h.1]; omega, fun hp => ?_⟩
  obtain ⟨b', o', e, hlt, hc⟩ := h.2 (by omega)
  cases e
  refine ⟨b, o, rfl, hlt, fun j hj => ?_⟩
  rw [List.length_take] at hj
  rw [List.getElem_take]
  exact hc j (by omega)
theorem sl_drop {W : World} {b o n : Nat} {xs : List PCell} (h : IsSl rCell 4 W (some ⟨b, o, none⟩) n xs) (k : Nat) (hk : k ≤ n) : IsSl rCell 4 W (some ⟨b, o + k * 4, none⟩) (n - k) (xs.drop k) := by
  refine ⟨by rw [List.length_drop, h.1], fun hp => ?_⟩
  obtain ⟨b', o', e, hlt, hc⟩ := h.2 (by omega)
  cases e
  refine ⟨b, o + k * 4, rfl, hlt, fun j hj => ?_⟩
  rw [List.length_drop] at hj
  obtain ⟨es, h1, h2, h3⟩ := hc (k + j) (by omega)
  refine ⟨es, h1, fun i hi => ?_, by rw [List.getElem_drop]; exact h3⟩
  rw [← h2 i hi, Nat.add_mul]
  congr 2
  omega
theorem leaf_read {W : World} {A : Option Addr} {n c : Nat} {cs : List PCell} (h : IsSl rCell 4 W A n cs) (hn : n * 64 ≤ reachBytes) (hc : A = none → c = 0) : rNode W [.bool true, .slice A n c, .slice none 0 0, .slice none 0 0] (leafOf cs) :=
  ⟨_, _, _, _, rfl, rfl, ⟨A, n, c, rfl, hn, hc, h⟩, ⟨none, 0, 0, rfl, by decide, fun _ => rfl, rfl, fun h => by omega⟩, ⟨none, 0, 0, rfl, by decide, fun _ => rfl, rfl, fun h => by omega⟩⟩

/-- The number that tells where to cut: any number at all, brought between two bounds. -/
theorem cut_at (a : Int) (N : Nat) (h2 : 2 ≤ N) (hN : N ≤ 1000000) : ∃ k : Nat, 1 ≤ k ∧ k < N ∧ (1 + (IntKind.u64.wrap a).tmod ((N : Int) - 1)) = (k : Int) := by
  have h0 : 0 ≤ IntKind.u64.wrap a := by simp [IntKind.wrap, IntKind.signed, IntKind.bits]; omega
  have h1 : 0 ≤ (IntKind.u64.wrap a).tmod ((N : Int) - 1) := Int.tmod_nonneg _ h0
  have h3 : (IntKind.u64.wrap a).tmod ((N : Int) - 1) < (N : Int) - 1 := Int.tmod_lt_of_pos _ (by omega)
  exact ⟨(1 + (IntKind.u64.wrap a).tmod ((N : Int) - 1)).toNat, by omega, by omega, by omega⟩

set_option maxRecDepth 100000 in
set_option maxHeartbeats 3200000 in
theorem law_halves (v0 v1 v2 v3 : Value) (a : Int) (x : PNode) (w : World) (h : rNode w [v0, v1, v2, v3] x) :
    Calls Try.prog 8 #[.agg #[v0, v1, v2, v3], .int .i64 a] w (Tells w (.bool true)) := by
  have HR := Asd.mk h
  obtain ⟨A1, n1, c1, A2, n2, c2, A3, n3, c3, rfl, rfl, rfl, rfl, hna⟩ := node_of h
  have HSN := Asd.mk hna.sane
  clear h hna
  have HBX0 := Asd.mk (Box.start (w := w) (u := #[.bool x.1, .slice A1 n1 c1, .slice A2 n2 c2, .slice A3 n3 c3]) (t := 26))
  generalize hx0 : x.1 = x0 at HR HBX0 ⊢
  have HX0 := Asd.mk hx0
  clear hx0
  go_enter Try.func8, Try.ntmps8
  go_wp2_with fail
  refine (works_calls _).mono ?_
  rintro e w0 ⟨rfl, hb0⟩
  have HBX := Asd.mk (HBX0.out.old hb0)
  have p0 := (blk_cell HBX.out.n 0).trans rfl
  have p1 := (blk_cell HBX.out.n 1).trans rfl
  have p2 := (blk_cell HBX.out.n 2).trans rfl
  have p3 := (blk_cell HBX.out.n 3).trans rfl
  clear hb0 HBX0
  go_wp2_with fail
  refine (its_calls _ _ _ _ x _ (lasts_node _ _ _ _ HBX.out.below HR.out)).mono ?_
  rintro e w1 ⟨u0, u1, u2, u3, rfl, hon, hb1⟩
  have hcap : ∃ A n c, u1 = .slice A n c ∧ n = x.2.1.length ∧ n ≤ c := by
    obtain ⟨ps, hc⟩ := hon.cells
    rcases hc.own.2 with ⟨he, h0⟩ | ⟨g, cap, cur, he, _, _, hcp, _⟩
    · exact ⟨_, _, _, he, h0.symm, Nat.le_refl _⟩
    · exact ⟨_, _, _, he, rfl, hcp⟩
  obtain ⟨E1, i1, j1, rfl, hi1, hij⟩ := hcap
  have HI1 := Asd.mk hi1
  clear hi1
  obtain ⟨rfl, hdum, ⟨E2, i2, j2, rfl⟩, ⟨E3, i3, j3, rfl⟩⟩ := own_node_form hon
  rw [HX0.out] at hon ⊢
  have HB1 : Asd (Below w.heap.size w w1) := Asd.mk (HBX.out.below.trans (hb1.mono HBX.out.below.size))
  have HRX := Asd.mk (hon.read HSN.out)
  clear hon hb1 HBX p0 p1 p2 p3 hdum
  go_wp2_with fail
  refine (check_calls _ _ _ _ x _ (lasts_node _ _ _ _ (below_alloc (Below.refl _ _) _) HRX.out)).mono ?_
  rintro e w2 ⟨rfl, hb2⟩
  have HX2 := Asd.mk (blk_below hb2 (blk_new w1 (.cells #[.bool x0, .slice E1 i1 j1, .slice E2 i2 j2, .slice E3 i3 j3] 29)))
  have HR2 := Asd.mk (lasts_node _ _ _ _ hb2 (lasts_node _ _ _ _ (below_alloc (Below.refl _ w1) (.cells #[.bool x0, .slice E1 i1 j1, .slice E2 i2 j2, .slice E3 i3 j3] 29)) HRX.out))
  have HB2 : Asd (Below w.heap.size w w2) := Asd.mk ((HB1.out.alloc HB1.out.size (.cells #[.bool x0, .slice E1 i1 j1, .slice E2 i2 j2, .slice E3 i3 j3] 29)).trans (hb2.mono (by have := HB1.out.size; simp; omega)))
  have p0 := (blk_cell HX2.out 0).trans rfl
  have p1 := (blk_cell HX2.out 1).trans rfl
  have p2 := (blk_cell HX2.out 2).trans rfl
  have p3 := (blk_cell HX2.out 3).trans rfl
  clear hb2 HB1 HRX
  by_cases hck : checkN x = 0
  rotate_left
  · have hne : (checkN x != 0) = true := by rw [bne_iff_ne]; exact hck
    generalize checkN x = cn at hne hck ⊢
    go_wp2
    go_ret
    exact ⟨rfl, HB2.out⟩
  have HCK := Asd.mk hck
  rw [hck]
  clear hck
  cases x0 with
  | false =>
    go_wp2
    go_ret
    exact ⟨rfl, HB2.out⟩
  | true =>
  by_cases h2 : i1 < 2
  · go_wp2
    go_ret
    exact ⟨rfl, HB2.out⟩
  have hlen : i1 ≤ 1000000 := by
    have := (leaf_len HCK.out HSN.out HX0.out).2.2
    have := HI1.out
    omega
  obtain ⟨k, hk1, hk2, hke⟩ := cut_at a i1 (by omega) hlen
  have hN1 : IntKind.i64.wrap ((i1 : Int) - 1) = (i1 : Int) - 1 := by rw [IntKind.wrap_i64]; omega
  have hN2 : IntKind.u64.wrap ((i1 : Int) - 1) = (i1 : Int) - 1 := by simp [IntKind.wrap, IntKind.signed, IntKind.bits]; omega
  have hne : ¬ ((i1 : Int) - 1 = 0) := by omega
  have hq1 : IntKind.i64.wrap ((IntKind.u64.wrap a).tmod ((i1 : Int) - 1)) = (IntKind.u64.wrap a).tmod ((i1 : Int) - 1) := by rw [IntKind.wrap_i64]; omega
  have hq2 : IntKind.i64.wrap (1 + (IntKind.u64.wrap a).tmod ((i1 : Int) - 1)) = 1 + (IntKind.u64.wrap a).tmod ((i1 : Int) - 1) := by rw [IntKind.wrap_i64]; omega
  have HKE := Asd.mk hke
  clear hke
  have hslx : IsSl rCell 4 w2 E1 i1 x.2.1 ∧ i1 * 64 ≤ reachBytes := by
    obtain ⟨A1', n1', c1', A2', n2', c2', A3', n3', c3', e0, e1, e2, e3, hna⟩ := node_of HR2.out
    injection e1 with f1 f2 f3
    subst f1 f2 f3
    exact ⟨hna.cells, hna.b1⟩
  obtain ⟨b, o, rfl, hbl, _⟩ := hslx.1.2 (by omega)
  have HSL := Asd.mk hslx
  go_upto_region 7 with fail
  rw [HKE.out]
  have hk3 : (0 : Int) ≤ (k : Int) := by omega
  have hk4 : (k : Int) ≤ (i1 : Int) := by omega
  have hk5 : (k : Int) ≤ (j1 : Int) := by omega
  have hk6 : ¬ j1 = k := by omega
  have hk7 : k ≤ i1 := by omega
  have hk8 : k ≤ j1 := by omega
  clear hslx hN1 hN2 hne hq1 hq2
  go_cut [7, 8] (fun s7 s8 wx => ∃ g h : Nat, s7 = .pointer (some ⟨g, 0, none⟩) ∧ s8 = .pointer (some ⟨h, 0, none⟩) ∧ Asd (Below w2.heap.size w2 wx ∧ wx.heap[g]? = some (.cells #[.bool true, .slice (some ⟨b, o, none⟩) k j1, .slice none 0 0, .slice none 0 0] 29 (0, 0)) ∧ wx.heap[h]? = some (.cells #[.bool true, .slice (some ⟨b, o + k * 4, none⟩) (i1 - k) (j1 - k), .slice none 0 0, .slice none 0 0] 29 (0, 0))))
  case first =>
    have HS : Asd (∀ w', Below w2.heap.size w2 w' → w'.cell? ⟨w1.heap.size, 1, none⟩ = some (.slice (some ⟨b, o, none⟩) i1 j1)) := Asd.mk fun w' hb => (blk_cell (blk_below hb HX2.out) 1).trans rfl
    clear p0 p1 p2 p3
    go_region_held3 (fun w' => w'.cell? ⟨w1.heap.size, 1, none⟩ = some (.slice (some ⟨b, o, none⟩) i1 j1))
      (first
        | exact HS.out _ (Below.refl _ _).drew
        | exact HS.out _ (below_alloc (Below.refl _ _).drew _)
        | exact HS.out _ (below_alloc (below_alloc (Below.refl _ _).drew _) _)
        | fail)
      (fail)
    all_goals
      go_wp2_with fail
      go_meet
    · exact ⟨_, _, rfl, rfl, ⟨(below_alloc (below_alloc (Below.refl _ _) _) _).drew, (two_new w2 _ _).1, (two_new w2 _ _).2⟩⟩
    · exact ⟨_, _, rfl, rfl, ⟨(below_alloc (below_alloc (Below.refl _ _) _) _).drew, (two_new w2 _ _).2, (two_new w2 _ _).1⟩⟩
  case rest =>
    obtain ⟨g, h, rfl, rfl, HG⟩ := hcut
    have HLAW := Asd.mk (halves HCK.out HSN.out HX0.out k hk1 (by have := HI1.out; omega))
    have HRA : Asd (∀ w', Below wc.heap.size wc w' → rNode w' [.bool true, .slice (some ⟨b, o, none⟩) k j1, .slice none 0 0, .slice none 0 0] (leafOf (x.2.1.take k))) := Asd.mk fun w' hb => by
      refine lasts_node _ _ _ _ hb (lasts_node _ _ _ _ HG.out.1 (leaf_read (sl_take HSL.out.1 k hk7) ?_ (fun h => by cases h)))
      have := HSL.out.2
      omega
    have HRB : Asd (∀ w', Below wc.heap.size wc w' → rNode w' [.bool true, .slice (some ⟨b, o + k * 4, none⟩) (i1 - k) (j1 - k), .slice none 0 0, .slice none 0 0] (leafOf (x.2.1.drop k))) := Asd.mk fun w' hb => by
      refine lasts_node _ _ _ _ hb (lasts_node _ _ _ _ HG.out.1 (leaf_read (sl_drop HSL.out.1 k hk7) ?_ (fun h => by cases h)))
      have := HSL.out.2
      omega
    have HRX : Asd (∀ w', Below wc.heap.size wc w' → rNode w' [.bool true, .slice (some ⟨b, o, none⟩) i1 j1, .slice E2 i2 j2, .slice E3 i3 j3] x) := Asd.mk fun w' hb => lasts_node _ _ _ _ hb (lasts_node _ _ _ _ HG.out.1 HR2.out)
    have HXC := Asd.mk (blk_below HG.out.1 HX2.out)
    have HBC : Asd (Below w.heap.size w wc) := Asd.mk (HB2.out.trans (HG.out.1.mono HB2.out.size))
    have HS : Asd (∀ w', Below wc.heap.size wc w' → w'.cell? ⟨g, 0, none⟩ = some (.bool true) ∧ w'.cell? ⟨g, 1, none⟩ = some (.slice (some ⟨b, o, none⟩) k j1) ∧ w'.cell? ⟨g, 2, none⟩ = some (.slice none 0 0) ∧ w'.cell? ⟨g, 3, none⟩ = some (.slice none 0 0)
        ∧ w'.cell? ⟨h, 0, none⟩ = some (.bool true) ∧ w'.cell? ⟨h, 1, none⟩ = some (.slice (some ⟨b, o + k * 4, none⟩) (i1 - k) (j1 - k)) ∧ w'.cell? ⟨h, 2, none⟩ = some (.slice none 0 0) ∧ w'.cell? ⟨h, 3, none⟩ = some (.slice none 0 0)
        ∧ w'.cell? ⟨w1.heap.size, 0, none⟩ = some (.bool true) ∧ w'.cell? ⟨w1.heap.size, 1, none⟩ = some (.slice (some ⟨b, o, none⟩) i1 j1) ∧ w'.cell? ⟨w1.heap.size, 2, none⟩ = some (.slice E2 i2 j2) ∧ w'.cell? ⟨w1.heap.size, 3, none⟩ = some (.slice E3 i3 j3) ∧ Below wc.heap.size wc w') := Asd.mk fun w' hb => by
      have ha := blk_below hb HG.out.2.1
      have hbb := blk_below hb HG.out.2.2
      have hx := blk_below hb HXC.out
      exact ⟨(blk_cell ha 0).trans rfl, (blk_cell ha 1).trans rfl, (blk_cell ha 2).trans rfl, (blk_cell ha 3).trans rfl, (blk_cell hbb 0).trans rfl, (blk_cell hbb 1).trans rfl, (blk_cell hbb 2).trans rfl, (blk_cell hbb 3).trans rfl, (blk_cell hx 0).trans rfl, (blk_cell hx 1).trans rfl, (blk_cell hx 2).trans rfl, (blk_cell hx 3).trans rfl, hb⟩
    clear p0 p1 p2 p3
    have HC : Asd (Below wc.heap.size wc wc.drew) := Asd.mk (Below.refl _ _).drew
    have hza := HLAW.out.1
    have hzb := HLAW.out.2.1
    have hzs := HLAW.out.2.2
    generalize hsa : wrap64 (nodeSz (leafOf (x.2.1.take k))) = sa at hzs
    generalize hsb : wrap64 (nodeSz (leafOf (x.2.1.drop k))) = sb at hzs
    generalize hsx : wrap64 (nodeSz x) = sx at hzs
    have hzs2 : IntKind.i64.wrap (sa + sb) = IntKind.i64.wrap (sx + 3) := by
      have h9 := hzs
      unfold wrap64 at h9
      rw [IntKind.wrap_i64, IntKind.wrap_i64]
      first | exact hzs | exact h9 | omega
    clear hzs
    have HZA := Asd.mk hza
    have HZB := Asd.mk hzb
    have HSA := Asd.mk hsa
    have HSB := Asd.mk hsb
    have HSX := Asd.mk hsx
    clear hza hzb hsa hsb hsx
    go_upto_region 8 with fail
    go_region_held3 (fun w' => w'.cell? ⟨g, 0, none⟩ = some (.bool true) ∧ w'.cell? ⟨g, 1, none⟩ = some (.slice (some ⟨b, o, none⟩) k j1) ∧ w'.cell? ⟨g, 2, none⟩ = some (.slice none 0 0) ∧ w'.cell? ⟨g, 3, none⟩ = some (.slice none 0 0)
        ∧ w'.cell? ⟨h, 0, none⟩ = some (.bool true) ∧ w'.cell? ⟨h, 1, none⟩ = some (.slice (some ⟨b, o + k * 4, none⟩) (i1 - k) (j1 - k)) ∧ w'.cell? ⟨h, 2, none⟩ = some (.slice none 0 0) ∧ w'.cell? ⟨h, 3, none⟩ = some (.slice none 0 0)
        ∧ w'.cell? ⟨w1.heap.size, 0, none⟩ = some (.bool true) ∧ w'.cell? ⟨w1.heap.size, 1, none⟩ = some (.slice (some ⟨b, o, none⟩) i1 j1) ∧ w'.cell? ⟨w1.heap.size, 2, none⟩ = some (.slice E2 i2 j2) ∧ w'.cell? ⟨w1.heap.size, 3, none⟩ = some (.slice E3 i3 j3) ∧ Below wc.heap.size wc w')
      (first
        | exact HS.out _ HC.out
        | fail)
      (first
        | (go_at_call_of 16 (Value.agg #[.bool true, .slice (some ⟨b, o, none⟩) k j1, .slice none 0 0, .slice none 0 0])
           refine (check_calls _ _ _ _ (leafOf (x.2.1.take k)) _ (HRA.out _ HC.out)).mono ?_
           rintro e w4 ⟨rfl, hb4⟩
           rw [HZA.out]
           have HC0 := HC
           have HC : Asd (Below wc.heap.size wc w4) := Asd.mk (below_step HC0.out hb4)
           clear hb4)
        | (go_at_call_of 16 (Value.agg #[.bool true, .slice (some ⟨b, o + k * 4, none⟩) (i1 - k) (j1 - k), .slice none 0 0, .slice none 0 0])
           refine (check_calls _ _ _ _ (leafOf (x.2.1.drop k)) _ (HRB.out _ HC.out)).mono ?_
           rintro e w4 ⟨rfl, hb4⟩
           rw [HZB.out]
           have HC0 := HC
           have HC : Asd (Below wc.heap.size wc w4) := Asd.mk (below_step HC0.out hb4)
           clear hb4)
        | (go_at_call_of 14 (Value.agg #[.bool true, .slice (some ⟨b, o, none⟩) k j1, .slice none 0 0, .slice none 0 0])
           refine (size_calls _ _ _ _ (leafOf (x.2.1.take k)) _ (HRA.out _ HC.out)).mono ?_
           rintro e w4 ⟨rfl, hb4⟩
           rw [HSA.out]
           have HC0 := HC
           have HC : Asd (Below wc.heap.size wc w4) := Asd.mk (below_step HC0.out hb4)
           clear hb4)
        | (go_at_call_of 14 (Value.agg #[.bool true, .slice (some ⟨b, o + k * 4, none⟩) (i1 - k) (j1 - k), .slice none 0 0, .slice none 0 0])
           refine (size_calls _ _ _ _ (leafOf (x.2.1.drop k)) _ (HRB.out _ HC.out)).mono ?_
           rintro e w4 ⟨rfl, hb4⟩
           rw [HSB.out]
           have HC0 := HC
           have HC : Asd (Below wc.heap.size wc w4) := Asd.mk (below_step HC0.out hb4)
           clear hb4)
        | (go_at_call 14
           refine (size_calls _ _ _ _ x _ (HRX.out _ HC.out)).mono ?_
           rintro e w4 ⟨rfl, hb4⟩
           rw [HSX.out]
           have HC0 := HC
           have HC : Asd (Below wc.heap.size wc w4) := Asd.mk (below_step HC0.out hb4)
           clear hb4)
        | fail)
    have HBZ := Asd.mk (HBC.out.trans (HC.out.mono HBC.out.size))
    go_wp2
    go_ret
    exact ⟨rfl, HBZ.out⟩

set_option maxRecDepth 100000 in
theorem halves_open {H : Type} {enc : TypeId × Value → H} (W : World) (v : Value) (d : DataW H) (p : List MemPlace) {base : Nat} (ok : Value.okWide Try.prog W .any base 26 v) (h : DataW.Trod enc Try.prog W 0 (fun _ => true) true 26 v d p)
    (wt : ∀ k ∈ d.weights Try.prog 26, k ≤ reachBytes) (a : Int) (wa : (Lit.int .i64 a).wf = true) : Calls Try.prog 8 #[v, .int .i64 a] W (Tells W (.bool true)) := by
  obtain ⟨v0, v1, v2, v3, x, rfl, hx⟩ := node_open W v d p ok h wt
  exact law_halves v0 v1 v2 v3 a x W hx
end Go.Proofs.Ytnohhmopiflboaa.Nod
