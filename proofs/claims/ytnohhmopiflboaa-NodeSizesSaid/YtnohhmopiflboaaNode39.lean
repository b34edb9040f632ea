/- NodeSizes: the walk. -/
import Derived.Test.YtnohhmopiflboaaNode38
set_option linter.unusedVariables false
set_option linter.unusedSimpArgs false
namespace Go.Proofs.Ytnohhmopiflboaa.Nod
open Go.RowKit Go.Proofs.Ytnohhmopiflboaa.Base Go.Proofs.Ytnohhmopiflboaa.Byt Go.Proofs.Ytnohhmopiflboaa.Rd Go.Proofs.Ytnohhmopiflboaa.App

theorem body_size {x : PNode} (h : checkN x = 0) (hs : Sane x) : wrap64 (nodeSz x) = ((bodyB x).length : Int) := by
  obtain ⟨hf, hw⟩ := checkN_zero h
  cases hx : x.1 with
  | true =>
    obtain ⟨h1, h2, h3⟩ := leaf_len h hs hx
    have hn : nodeSz x = 3 + sumI (x.2.1.map cellSz) := by simp [nodeSz, hx]
    have hc := cells_len x.2.1
    unfold wrap64
    omega
  | false =>
    obtain ⟨h1, h2, h3⟩ := inner_len h hs hx
    have hr := inner_right hf hx
    have hn : nodeSz x = 5 + sumI (x.2.2.1.map keySz) := by simp [nodeSz, hx]
    have hc := keys_len x.2.2.1 x.2.2.2.tail (by rw [List.length_tail, hr.kids]; omega)
    unfold wrap64
    omega
theorem enc_nought {x : PNode} (h : checkN x = 0) (j : Nat) (hj : (bodyB x).length ≤ j) (hj2 : j < 508) : (encB x).getD j 0 = 0 := by
  rw [encB, if_pos h, padB]
  simp only [List.getD]
  rw [List.getElem?_append_right hj]
  simp only [noughts, List.getElem?_replicate]
  split <;> rfl
theorem sane_out {x : PNode} (h : Sane x) (k : Nat) : Sane (outOf x k) := by
  refine ⟨?_, by simp [outOf, leafOf], by simp [outOf, leafOf], fun c hc => ?_, fun k hk => by simp [outOf, leafOf] at hk, fun n hn => by simp [outOf, leafOf] at hn⟩
  · have := h.cells
    simp only [outOf, leafOf, List.length_append, List.length_take, List.length_drop]
    omega
  · refine h.cell c ?_
    rcases List.mem_append.1 hc with hc | hc
    · exact List.mem_of_mem_take hc
    · exact List.mem_of_mem_drop hc
theorem out_alloc {T : TypeId} (t1 : 29 ≠ T) {w5 w7 : World} {B m c : Nat} {A : Option Addr} {xs : List PCell} {ps : List PV} (hb : Below w5.heap.size w5 w7) (hc : OwnCells T w7 B (.slice A m c) xs ps) :
    Below w5.heap.size w5 (w7.alloc (.cells #[.bool true, .slice A m c, .slice none 0 0, .slice none 0 0] 29)) ∧ (w7.alloc (.cells #[.bool true, .slice A m c, .slice none 0 0, .slice none 0 0] 29)).heap[w7.heap.size]? = some (.cells #[.bool true, .slice A m c, .slice none 0 0, .slice none 0 0] 29 (0, 0)) ∧
      OwnCells T (w7.alloc (.cells #[.bool true, .slice A m c, .slice none 0 0, .slice none 0 0] 29)) B (.slice A m c) xs ps :=
  ⟨below_alloc hb _, blk_new _ _, hc.keep ((KeepT.refl _ _).alloc _) ((KeepT.refl _ _).alloc _)⟩
theorem out_set {T : TypeId} (t1 : 29 ≠ T) {w5 w7 : World} {B m c g : Nat} {A : Option Addr} {xs : List PCell} {ps : List PV} (hb : Below w5.heap.size w5 w7) (hy : w7.heap[g]? = some (.cells #[.bool false, .slice none 0 0, .slice none 0 0, .slice none 0 0] 29 (0, 0))) (hg : w5.heap.size ≤ g) (hc : OwnCells T w7 B (.slice A m c) xs ps) :
    Below w5.heap.size w5 ((((w7.setCell ⟨g, 0, none⟩ (.bool true)).setCell ⟨g, 1, none⟩ (.slice A m c)).setCell ⟨g, 2, none⟩ (.slice none 0 0)).setCell ⟨g, 3, none⟩ (.slice none 0 0)) ∧
      ((((w7.setCell ⟨g, 0, none⟩ (.bool true)).setCell ⟨g, 1, none⟩ (.slice A m c)).setCell ⟨g, 2, none⟩ (.slice none 0 0)).setCell ⟨g, 3, none⟩ (.slice none 0 0)).heap[g]? = some (.cells #[.bool true, .slice A m c, .slice none 0 0, .slice none 0 0] 29 (0, 0)) ∧
      OwnCells T ((((w7.setCell ⟨g, 0, none⟩ (.bool true)).setCell ⟨g, 1, none⟩ (.slice A m c)).setCell ⟨g, 2, none⟩ (.slice none 0 0)).setCell ⟨g, 3, none⟩ (.slice none 0 0)) B (.slice A m c) xs ps := by
  have k1 := blk_set hy 0 (.bool true)
  have k2 := blk_set k1 1 (.slice A m c)
  have k3 := blk_set k2 2 (.slice none 0 0)
  have k4 := blk_set k3 3 (.slice none 0 0)
  have keep (e : TypeId) (hne : 29 ≠ e) : KeepT e w7 _ := ((((KeepT.refl e w7).setCell (p := ⟨g, 0, none⟩) hy hne (.bool true)).setCell (p := ⟨g, 1, none⟩) k1 hne (.slice A m c)).setCell (p := ⟨g, 2, none⟩) k2 hne (.slice none 0 0)).setCell (p := ⟨g, 3, none⟩) k3 hne (.slice none 0 0)
  exact ⟨below_set (below_set (below_set (below_set hb (p := ⟨g, 0, none⟩) hg _) (p := ⟨g, 1, none⟩) hg _) (p := ⟨g, 2, none⟩) hg _) (p := ⟨g, 3, none⟩) hg _, by simpa using k4, hc.keep (keep _ t1) (keep _ (by decide))⟩
theorem cut_one (a : Int) (N : Nat) (h2 : 1 ≤ N) (hN : N ≤ 1000000) : ∃ k : Nat, k < N ∧ (IntKind.u64.wrap a).tmod (N : Int) = (k : Int) := by
  have h0 : 0 ≤ IntKind.u64.wrap a := by simp [IntKind.wrap, IntKind.signed, IntKind.bits]; omega
  have h1 : 0 ≤ (IntKind.u64.wrap a).tmod (N : Int) := Int.tmod_nonneg _ h0
  have h3 : (IntKind.u64.wrap a).tmod (N : Int) < (N : Int) := Int.tmod_lt_of_pos _ (by omega)
  exact ⟨((IntKind.u64.wrap a).tmod (N : Int)).toNat, by omega, by omega⟩

set_option maxRecDepth 100000 in
set_option maxHeartbeats 25600000 in
theorem law_sizes (v0 v1 v2 v3 : Value) (a : Int) (x : PNode) (w : World) (h : rNode w [v0, v1, v2, v3] x) :
    Calls Try.prog 9 #[.agg #[v0, v1, v2, v3], .int .i64 a] w (Tells w (.bool true)) := by
  have HR := Asd.mk h
  obtain ⟨A1, n1, c1, A2, n2, c2, A3, n3, c3, rfl, rfl, rfl, rfl, hna⟩ := node_of h
  have HSN := Asd.mk hna.sane
  clear h hna
  have HBX0 := Asd.mk (Box.start (w := w) (u := #[.bool x.1, .slice A1 n1 c1, .slice A2 n2 c2, .slice A3 n3 c3]) (t := 26))
  generalize hx0 : x.1 = x0 at HR HBX0 ⊢
  have HX0 := Asd.mk hx0
  clear hx0
  go_enter Try.func9, Try.ntmps9
  go_wp2_with fail
  refine (works_calls _).mono ?_
  rintro e w0 ⟨rfl, hb0⟩
  have HBX := Asd.mk (HBX0.out.old hb0)
  have p0 := (blk_cell HBX.out.n 0).trans rfl
  have p1 := (blk_cell HBX.out.n 1).trans rfl
  have p2 := (blk_cell HBX.out.n 2).trans rfl
  have p3 := (blk_cell HBX.out.n 3).trans rfl
  clear hb0 HBX0
  go_wp2_with fail
  refine (its_calls _ _ _ _ x _ (lasts_node _ _ _ _ HBX.out.below HR.out)).mono ?_
  rintro e w1 ⟨u0, u1, u2, u3, rfl, hon, hb1⟩
  have hcap : ∃ A n c, u1 = .slice A n c ∧ n = x.2.1.length ∧ n ≤ c := by
    obtain ⟨ps, hc⟩ := hon.cells
    rcases hc.own.2 with ⟨he, h0⟩ | ⟨g, cap, cur, he, _, _, hcp, _⟩
    · exact ⟨_, _, _, he, h0.symm, Nat.le_refl _⟩
    · exact ⟨_, _, _, he, rfl, hcp⟩
  obtain ⟨E1, i1, j1, rfl, hi1, hij⟩ := hcap
  have HI1 := Asd.mk hi1
  clear hi1
  obtain ⟨rfl, hdum, ⟨E2, i2, j2, rfl⟩, ⟨E3, i3, j3, rfl⟩⟩ := own_node_form hon
  rw [HX0.out] at hon ⊢
  have HB1 : Asd (Below w.heap.size w w1) := Asd.mk (HBX.out.below.trans (hb1.mono HBX.out.below.size))
  have HW01 : Asd (w0.heap.size ≤ w1.heap.size) := Asd.mk hb1.size
  have HON := Asd.mk (hon.above (above_below (below_alloc (Below.refl _ w1) (.cells #[.bool x0, .slice E1 i1 j1, .slice E2 i2 j2, .slice E3 i3 j3] 29))))
  clear hon hb1 p0 p1 p2 p3 hdum
  go_wp2_with fail
  refine (encode_calls _ _ _ _ x _ (HON.out.read HSN.out)).mono ?_
  rintro e w2 ⟨va, rfl, hoa, hb2⟩
  obtain ⟨Aa, ca, rfl⟩ := own_form hoa
  have HOA := Asd.mk (own_m hoa rfl)
  have HX2 := Asd.mk (blk_below hb2 (blk_new w1 (.cells #[.bool x0, .slice E1 i1 j1, .slice E2 i2 j2, .slice E3 i3 j3] 29)))
  have HON2 := Asd.mk (HON.out.above (above_below hb2))
  have HB2 : Asd (Below w.heap.size w w2) := Asd.mk ((HB1.out.alloc HB1.out.size (.cells #[.bool x0, .slice E1 i1 j1, .slice E2 i2 j2, .slice E3 i3 j3] 29)).trans (hb2.mono (by have := HB1.out.size; simp; omega)))
  have p0 := (blk_cell HX2.out 0).trans rfl
  have p1 := (blk_cell HX2.out 1).trans rfl
  have p2 := (blk_cell HX2.out 2).trans rfl
  have p3 := (blk_cell HX2.out 3).trans rfl
  clear hb2 HB1 HON hoa
  by_cases hck : checkN x = 0
  rotate_left
  · have hne : (checkN x != 0) = true := by rw [bne_iff_ne]; exact hck
    generalize (encB x).length = la
    generalize checkN x = cn at hne hck ⊢
    go_wp2
    go_ret
    exact ⟨rfl, HB2.out⟩
  have HCK := Asd.mk hck
  have hlen : (encB x).length = 508 := by
    have := body_small hck HSN.out
    rw [encB, if_pos hck]
    simp [padB, noughts]
    omega
  rw [hck]
  have hoa2 := HOA.out
  rw [hlen] at hoa2 ⊢
  have HOA2 := Asd.mk hoa2
  clear hck hlen HOA hoa2
  go_wp2_with fail
  refine (size_calls _ _ _ _ x w2 (HON2.out.read HSN.out)).mono ?_
  rintro e w3 ⟨rfl, hb3⟩
  have HSZ := Asd.mk (body_size HCK.out HSN.out)
  rw [HSZ.out]
  have hbl := body_small HCK.out HSN.out
  have HNG := Asd.mk (fun j hj hj2 => enc_nought HCK.out j hj hj2)
  generalize (bodyB x).length = L at hbl HNG HSZ ⊢
  have HX3 := Asd.mk (blk_below hb3 HX2.out)
  have HON3 := Asd.mk (HON2.out.above (above_below hb3))
  have HOA3 := Asd.mk (HOA2.out.old hb3)
  have HB3 : Asd (Below w.heap.size w w3) := Asd.mk (HB2.out.trans (hb3.mono HB2.out.size))
  clear hb3 p0 p1 p2 p3 HX2 HON2 HOA2 HB2
  have p0 := (blk_cell HX3.out 0).trans rfl
  have p1 := (blk_cell HX3.out 1).trans rfl
  have p2 := (blk_cell HX3.out 2).trans rfl
  have p3 := (blk_cell HX3.out 3).trans rfl
  obtain ⟨gb, cur, rfl, hbg, hh, _⟩ := own_cell HOA3.out 0 (by omega)
  have HHB := Asd.mk hh
  clear hbg hh
  go_wp2
  go_loop [8] (fun i => ∃ (j : Nat), L ≤ j ∧ j ≤ 508 ∧ i = .int .i64 (j : Int)) (fun i => 508 - (intOf i).toNat)
  case atStart => exact ⟨L, by omega, hbl, rfl⟩
  case round =>
    obtain ⟨j, hj1, hj2, rfl⟩ := hrel
    by_cases hlt : j < 508
    · obtain ⟨gb', cur', e', _, hh', hc'⟩ := own_cell HOA3.out j hlt
      cases e'
      have q0 := (blk_cell hh' j).trans hc'
      rw [HNG.out j hj1 hlt, show bcell (0 : UInt8) = .int .u8 0 from rfl] at q0
      clear hh' hc'
      go_wp2
      go_round
      case rel => exact ⟨j + 1, by omega, by omega, by go_num⟩
      case measure => simp [intOf]; omega
    · cases x0 with
      | false =>
        go_wp2
        go_ret
        exact ⟨rfl, HB3.out⟩
      | true =>
      have hN := (leaf_len HCK.out HSN.out HX0.out).2.2
      have hN0 := (leaf_right (checkN_zero HCK.out).1 HX0.out).some
      have hi1 := HI1.out
      have hN1 : 1 ≤ i1 := by omega
      have hN2 : i1 ≤ 1000000 := by omega
      clear hN hN0 hi1
      obtain ⟨k, hk2, hke⟩ := cut_one a i1 hN1 hN2
      have hw2 : IntKind.u64.wrap (i1 : Int) = (i1 : Int) := by simp [IntKind.wrap, IntKind.signed, IntKind.bits]; omega
      have hne : ¬ ((i1 : Int) = 0) := by omega
      have hq1 : IntKind.i64.wrap ((IntKind.u64.wrap a).tmod (i1 : Int)) = (IntKind.u64.wrap a).tmod (i1 : Int) := by rw [IntKind.wrap_i64]; omega
      have HKE := Asd.mk hke
      clear hke
      obtain ⟨ps, hcs⟩ := HON3.out.cells
      have HCS := Asd.mk hcs
      have hrx := HON3.out.read HSN.out
      have HRX := Asd.mk hrx
      have hslx : IsSl rCell 4 w3 E1 i1 x.2.1 ∧ i1 * 64 ≤ reachBytes := by
        obtain ⟨A1', n1', c1', A2', n2', c2', A3', n3', c3', e0, e1, e2, e3, hna⟩ := node_of hrx
        injection e1 with f1 f2 f3
        subst f1 f2 f3
        exact ⟨hna.cells, hna.b1⟩
      have hkl : k < x.2.1.length := by have := HI1.out; omega
      obtain ⟨b, o, Ak, nk, ck, Av, nv, cv, rfl, hbl2, q0, q1, q2, q3, ib0, ib1, hd1, hd2, hnk, hnv⟩ := cell_at hslx.1 k hkl
      have HLAW := Asd.mk (sizes HCK.out HSN.out HX0.out k hkl)
      have hok := (leaf_right (checkN_zero HCK.out).1 HX0.out).cells _ (List.getElem_mem hkl)
      have hbnd : i1 * 64 ≤ 140737488351232 := hslx.2
      have HKL := Asd.mk hkl
      have HSL := Asd.mk hslx
      generalize hcell : x.2.1[k] = cell at HLAW hok q2 q3 ib0 ib1
      obtain ⟨key, val, over, size⟩ := cell
      simp only [cellOk, cRight, Bool.and_eq_true, Bool.or_eq_true, decide_eq_true_eq] at hok
      dsimp only at ib0 ib1 q2 q3
      have hnk2 : nk ≤ 128 := by have := hok.1; have := ib0.1; omega
      have hnv2 : nv ≤ 64 := by have := ib1.1; omega
      have hs1 : IntKind.i64.wrap (3 + (nk : Int)) = 3 + (nk : Int) := by rw [IntKind.wrap_i64]; omega
      have hs2 : IntKind.i64.wrap (3 + (nk : Int) + (nv : Int)) = 3 + (nk : Int) + (nv : Int) := by rw [IntKind.wrap_i64]; omega
      have hs3 : IntKind.i64.wrap (3 + (nk : Int) + (nv : Int) + 2) = 3 + (nk : Int) + (nv : Int) + 2 := by rw [IntKind.wrap_i64]; omega
      have HCZ : Asd (cellSz (key, val, over, size) = if over = 0 then 3 + (nk : Int) + (nv : Int) else 3 + (nk : Int) + (nv : Int) + 2) := Asd.mk (by
        simp only [cellSz, csz, ib0.1, ib1.1]
        split
        · rfl
        · rename_i hne0
          have hv : (nv : Int) = 0 := by
            rcases hok.2 with hh | hh
            · exact absurd hh.1.1 hne0
            · have := hh.1.1.2; rw [ib1.1] at this; exact this
          omega)
      clear hslx hcs hrx ib0 ib1 hok hcell hd1 hd2
      have hkk1 : (0 : Int) ≤ (k : Int) := by omega
      have hkk2 : (k : Int) ≤ (i1 : Int) := by omega
      have hkk3 : (k : Int) ≤ (j1 : Int) := by omega
      have hkk4 : (k : Int) < (i1 : Int) := by omega
      have hwk : IntKind.i64.wrap ((k : Int) + 1) = (k : Int) + 1 := by rw [IntKind.wrap_i64]; omega
      have hkk5 : (k : Int) + 1 ≤ (i1 : Int) := by omega
      have hkk6 : (k : Int) + 1 ≤ (j1 : Int) := by omega
      have hkk7 : (0 : Int) ≤ (k : Int) + 1 := by omega
      have hkk8 : k + 1 ≤ i1 := by omega
      have hkk9 : k + 1 ≤ j1 := by omega
      have hkke := HKE.out
      by_cases hj : j1 = k + 1
      · subst hj
        have hkkA : (k : Int) ≤ (k : Int) + 1 := by omega
        by_cases ho : over = 0
        · subst ho
          have HZ : Asd (cellSz (key, val, 0, size) = 3 + (nk : Int) + (nv : Int)) := Asd.mk (by rw [HCZ.out, if_pos rfl])
          go_upto_region 19 with fail
          generalize (3 + (nk : Int) + (nv : Int)) = sz at HZ ⊢
          have HX5 := Asd.mk (blk_alloc HX3.out (.cells #[.slice Ak nk ck, .slice Av nv cv, .int .i64 0, .int .i64 size] 61))
          have HB5 := Asd.mk (below_alloc (Below.refl _ w3) (.cells #[.slice Ak nk ck, .slice Av nv cv, .int .i64 0, .int .i64 size] 61))
          generalize w3.alloc (.cells #[.slice Ak nk ck, .slice Av nv cv, .int .i64 0, .int .i64 size] 61) = w5 at HX5 HB5 ⊢
          have HS : Asd (∀ w', Below w5.heap.size w5 w' → w'.cell? ⟨w1.heap.size, 1, none⟩ = some (.slice (some ⟨b, o, none⟩) i1 (k + 1)) ∧ Below w5.heap.size w5 w') := Asd.mk fun w' hb => ⟨(blk_cell (blk_below hb HX5.out) 1).trans rfl, hb⟩
          have HE1 : Asd (∀ w', Below w5.heap.size w5 w' → Feeds w' (some ⟨b, o, none⟩) k (k + 1) 4 (cells4 (ps.take k))) := Asd.mk fun w' hb => (feeds_take HCS.out k (k + 1) (by have := HKL.out; omega)).below (HB5.out.trans (hb.mono HB5.out.size))
          have HE2 : Asd (∀ w', Below w5.heap.size w5 w' → Feeds w' (some ⟨b, o, none⟩) (0) (0) 4 (cells4 (ps.drop (k + 1)))) := Asd.mk fun w' hb => by
            have e0 : i1 - (k + 1) = 0 := by omega
            have e1 : ps.drop (k + 1) = [] := by
              apply List.length_eq_zero_iff.1
              rw [List.length_drop, HCS.out.len, ← HI1.out]
              exact e0
            rw [e1]
            exact ⟨rfl, fun a ha j u hu => by simp [cells4] at hu, (fun h => by cases h), fun u hu => by simp [cells4] at hu⟩
          have HYN : Asd (∀ (V : World) (b : Nat), V.heap.size = b → (V.alloc (.cells #[.bool false, .slice none 0 0, .slice none 0 0, .slice none 0 0] 29)).heap[b]? = some (.cells #[.bool false, .slice none 0 0, .slice none 0 0, .slice none 0 0] 29 (0, 0))) := Asd.mk fun V b h1 => by subst h1; exact blk_new _ _
          clear p0 p1 p2 p3
          go_cut [11, 12] (fun s11 s12 wx => s11 = .int .i64 sz ∧ ∃ (g : Nat) (A : Option Addr) (m c : Nat), s12 = .pointer (some ⟨g, 0, none⟩) ∧ Asd (Below w5.heap.size w5 wx ∧ wx.heap[g]? = some (.cells #[.bool true, .slice A m c, .slice none 0 0, .slice none 0 0] 29 (0, 0)) ∧ OwnCells 61 wx w0.heap.size (.slice A m c) (x.2.1.take k ++ x.2.1.drop (k + 1)) (ps.take k ++ ps.drop (k + 1))))
          case first =>
            go_region_held3 (fun w' => w'.cell? ⟨w1.heap.size, 1, none⟩ = some (.slice (some ⟨b, o, none⟩) i1 (k + 1)) ∧ Below w5.heap.size w5 w')
              (first
                | exact HS.out _ HC7.out
                | exact HS.out _ (below_alloc HC7.out _)
                | exact HS.out _ HC.out
                | exact HS.out _ (below_alloc HC.out _)
                | exact HS.out _ (Below.refl _ _).drew
                | exact HS.out _ (below_alloc (Below.refl _ _).drew _)
                | exact HS.out _ (below_alloc (below_alloc (Below.refl _ _).drew _) _)
                | exact HS.out _ (below_set (below_set (below_set (below_set HC7.out (by first | omega | (simp; done) | (simp; omega)) _) (by first | omega | (simp; done) | (simp; omega)) _) (by first | omega | (simp; done) | (simp; omega)) _) (by first | omega | (simp; done) | (simp; omega)) _)
                | (go_split_ands; exact HS.out _ (by assumption))
                | fail)
              (first
                | (go_split_ands
                   refine step_src0 (by rfl) _ _ _ (by rfl) rowC w5.heap.size (by rfl) (by first | exact own_empty_new rfl (Nat.le_refl _) | exact own_empty_new (by simp) (by omega) | exact (own_empty_new rfl (Nat.le_refl _)).alloc _ | exact (own_empty_new (by simp) (by omega)).alloc _ | fail) (some ⟨b, o, none⟩) k (k + 1) (by rfl) (HE1.out _ (by assumption)) (by unfold maxLen; omega) (by omega) (by simp; try omega) ?_
                   intro A6 c6 w6 hown6 hgr6
                   have HC : Asd (Below w5.heap.size w5 w6) := Asd.mk (below_grown_at (by assumption) hgr6 (by first | exact Nat.le_refl _ | omega))
                   have hs6 := HC.out.size
                   have HO6 := Asd.mk hown6
                   try (have hy6 := (hgr6.block (w5.heap.size + 1) (by first | (simp; done) | (simp; omega)) (by simp)).trans (HYN.out (w5.drew.alloc _) _ (by simp)))
                   try (have hy6 := (hgr6.block w5.heap.size (by first | (simp; done) | (simp; omega)) (by simp)).trans (blk_alloc (HYN.out w5.drew _ rfl) _)))
                | (go_split_ands
                   refine step_src (by rfl) _ _ _ (by rfl) rowC (.slice A6 k c6) (by rfl) (n := k) (xs := cells4 (ps.take k)) (base := w5.heap.size) (by first | exact HO6.out | exact HO6.out.alloc _ | fail) (some ⟨b, o, none⟩) (0) (0) (by rfl) (HE2.out _ (by assumption)) (by unfold maxLen; omega) (by omega) (by first | exact hs6 | (simp; omega)) ?_
                   intro A7 c7 w7 hown7 hgr7
                   have HC7 : Asd (Below w5.heap.size w5 w7) := Asd.mk (below_grew (by assumption) hgr7 (fun k hk => (HO6.out.lt k hk).1))
                   have HO7 := Asd.mk hown7
                   try (have hy7 := (hgr7.block _ (blk_lt hy6) (own_typ HO6.out hy6 (by decide))).trans hy6)
                   try (have hy7 := (hgr7.block w6.heap.size (by first | (simp; done) | (simp; omega)) (own_typ (HO6.out.alloc _) (HYN.out w6 _ rfl) (by decide))).trans (HYN.out w6 _ rfl))
                   try (have g0 := (blk_cell hy7 0).trans rfl
                        have g1 := (blk_cell hy7 1).trans rfl
                        have g2 := (blk_cell hy7 2).trans rfl
                        have g3 := (blk_cell hy7 3).trans rfl
                        have z0 := blk_frozen hy7 0
                        have z1 := blk_frozen hy7 1
                        have z2 := blk_frozen hy7 2
                        have z3 := blk_frozen hy7 3))
                | fail)
            all_goals
              go_wp2_with fail
              go_meet
              have HOC := own_out HCS.out (above_below (HB5.out.trans (HC7.out.mono HB5.out.size))) k HKL.out (by have h1 := HI1.out; have h2 := HKL.out; omega) HO7.out (by have h1 := HW01.out; have h2 := blk_lt HX5.out; omega)
              first
                | exact ⟨rfl, _, _, _, _, rfl, ⟨out_alloc (by decide) HC7.out HOC⟩⟩
                | exact ⟨rfl, _, _, _, _, rfl, ⟨out_set (by decide) HC7.out hy7 (by omega) HOC⟩⟩
          case rest =>
            obtain ⟨rfl, g, A9, m9, c9, rfl, HG⟩ := hcut
            have HBW : Asd (Below w.heap.size w wc) := Asd.mk (HB3.out.trans ((HB5.out.trans (HG.out.1.mono HB5.out.size)).mono HB3.out.size))
            have HRY : Asd (∀ w', Below wc.heap.size wc w' → rNode w' [.bool true, .slice A9 m9 c9, .slice none 0 0, .slice none 0 0] (outOf x k)) := Asd.mk fun w' hb => lasts_node _ _ _ _ hb ((OwnNode.mk (x := outOf x k) rfl ⟨_, HG.out.2.2⟩ ⟨[], OwnKeys.nil _ _⟩ (OwnKids.nil _ _)).read (sane_out HSN.out k))
            have HRXC : Asd (∀ w', Below wc.heap.size wc w' → rNode w' [.bool true, .slice (some ⟨b, o, none⟩) i1 (k + 1), .slice E2 i2 j2, .slice E3 i3 j3] x) := Asd.mk fun w' hb => lasts_node _ _ _ _ hb (lasts_node _ _ _ _ (HB5.out.trans (HG.out.1.mono HB5.out.size)) HRX.out)
            have HXC := Asd.mk (blk_below HG.out.1 HX5.out)
            have HS : Asd (∀ w', Below wc.heap.size wc w' → w'.cell? ⟨g, 0, none⟩ = some (.bool true) ∧ w'.cell? ⟨g, 1, none⟩ = some (.slice A9 m9 c9) ∧ w'.cell? ⟨g, 2, none⟩ = some (.slice none 0 0) ∧ w'.cell? ⟨g, 3, none⟩ = some (.slice none 0 0) ∧ w'.cell? ⟨w1.heap.size, 0, none⟩ = some (.bool true) ∧ w'.cell? ⟨w1.heap.size, 1, none⟩ = some (.slice (some ⟨b, o, none⟩) i1 (k + 1)) ∧ w'.cell? ⟨w1.heap.size, 2, none⟩ = some (.slice E2 i2 j2) ∧ w'.cell? ⟨w1.heap.size, 3, none⟩ = some (.slice E3 i3 j3)) := Asd.mk fun w' hb => by
              have ha := blk_below hb HG.out.2.1
              have hx := blk_below hb HXC.out
              exact ⟨(blk_cell ha 0).trans rfl, (blk_cell ha 1).trans rfl, (blk_cell ha 2).trans rfl, (blk_cell ha 3).trans rfl, (blk_cell hx 0).trans rfl, (blk_cell hx 1).trans rfl, (blk_cell hx 2).trans rfl, (blk_cell hx 3).trans rfl⟩
            have HC : Asd (Below wc.heap.size wc wc.drew) := Asd.mk (Below.refl _ _).drew
            have hz1 := HLAW.out.1
            rw [HZ.out] at hz1
            have hcn : checkN (outOf x k) = if 1 < i1 then 0 else 3 := by
              have hi := HI1.out
              split
              · exact HLAW.out.2.1 (by omega)
              · exact HLAW.out.2.2 (by omega)
            generalize hsa : wrap64 (nodeSz (outOf x k)) = sa at hz1
            generalize hsx : wrap64 (nodeSz x) = sx at hz1
            have hzs2 : IntKind.i64.wrap (sx - sz) = sa := by
              have h9 := hz1
              unfold wrap64 at h9
              rw [IntKind.wrap_i64]
              first | exact hz1.symm | exact h9.symm | omega
            have HSA := Asd.mk hsa
            have HSX := Asd.mk hsx
            clear hz1 hsa hsx
            by_cases h1 : 1 < i1
            · have HCN : Asd (checkN (outOf x k) = 0) := Asd.mk (by rw [hcn, if_pos h1])
              have h1i : (1 : Int) < (i1 : Int) := by omega
              clear hcn
              go_upto_region 20 with fail
              go_region_held3 (fun w' => w'.cell? ⟨g, 0, none⟩ = some (.bool true) ∧ w'.cell? ⟨g, 1, none⟩ = some (.slice A9 m9 c9) ∧ w'.cell? ⟨g, 2, none⟩ = some (.slice none 0 0) ∧ w'.cell? ⟨g, 3, none⟩ = some (.slice none 0 0) ∧ w'.cell? ⟨w1.heap.size, 0, none⟩ = some (.bool true) ∧ w'.cell? ⟨w1.heap.size, 1, none⟩ = some (.slice (some ⟨b, o, none⟩) i1 (k + 1)) ∧ w'.cell? ⟨w1.heap.size, 2, none⟩ = some (.slice E2 i2 j2) ∧ w'.cell? ⟨w1.heap.size, 3, none⟩ = some (.slice E3 i3 j3))
                (first
                  | exact HS.out _ HC.out
                  | fail)
                (first
                  | (go_at_call_of 14 (Value.agg #[.bool true, .slice A9 m9 c9, .slice none 0 0, .slice none 0 0])
                     refine (size_calls _ _ _ _ (outOf x k) _ (HRY.out _ HC.out)).mono ?_
                     rintro e w8 ⟨rfl, hb4⟩
                     rw [HSA.out]
                     have HC0 := HC
                     have HC : Asd (Below wc.heap.size wc w8) := Asd.mk (below_step HC0.out hb4)
                     clear hb4)
                  | (go_at_call 14
                     refine (size_calls _ _ _ _ x _ (HRXC.out _ HC.out)).mono ?_
                     rintro e w8 ⟨rfl, hb4⟩
                     rw [HSX.out]
                     have HC0 := HC
                     have HC : Asd (Below wc.heap.size wc w8) := Asd.mk (below_step HC0.out hb4)
                     clear hb4)
                  | (go_at_call 16
                     refine (check_calls _ _ _ _ (outOf x k) _ (HRY.out _ HC.out)).mono ?_
                     rintro e w8 ⟨rfl, hb4⟩
                     rw [HCN.out]
                     have HC0 := HC
                     have HC : Asd (Below wc.heap.size wc w8) := Asd.mk (below_step HC0.out hb4)
                     clear hb4)
                  | fail)
              have HBZ := Asd.mk (HBW.out.trans (HC.out.mono HBW.out.size))
              go_wp2
              go_ret
              refine ⟨?_, HBZ.out⟩
              first
                | rfl
                | (refine ret_eq ?_
                   show Value.bool (!decide ((1 : Int) < (i1 : Int))) = _
                   rw [decide_eq_false (show ¬ (1 : Int) < (i1 : Int) by omega)]
                   rfl)
            · have HCN : Asd (checkN (outOf x k) = 3) := Asd.mk (by rw [hcn, if_neg h1])
              have h1i : ¬ (1 : Int) < (i1 : Int) := by omega
              clear hcn
              go_upto_region 20 with fail
              go_region_held3 (fun w' => w'.cell? ⟨g, 0, none⟩ = some (.bool true) ∧ w'.cell? ⟨g, 1, none⟩ = some (.slice A9 m9 c9) ∧ w'.cell? ⟨g, 2, none⟩ = some (.slice none 0 0) ∧ w'.cell? ⟨g, 3, none⟩ = some (.slice none 0 0) ∧ w'.cell? ⟨w1.heap.size, 0, none⟩ = some (.bool true) ∧ w'.cell? ⟨w1.heap.size, 1, none⟩ = some (.slice (some ⟨b, o, none⟩) i1 (k + 1)) ∧ w'.cell? ⟨w1.heap.size, 2, none⟩ = some (.slice E2 i2 j2) ∧ w'.cell? ⟨w1.heap.size, 3, none⟩ = some (.slice E3 i3 j3))
                (first
                  | exact HS.out _ HC.out
                  | fail)
                (first
                  | (go_at_call_of 14 (Value.agg #[.bool true, .slice A9 m9 c9, .slice none 0 0, .slice none 0 0])
                     refine (size_calls _ _ _ _ (outOf x k) _ (HRY.out _ HC.out)).mono ?_
                     rintro e w8 ⟨rfl, hb4⟩
                     rw [HSA.out]
                     have HC0 := HC
                     have HC : Asd (Below wc.heap.size wc w8) := Asd.mk (below_step HC0.out hb4)
                     clear hb4)
                  | (go_at_call 14
                     refine (size_calls _ _ _ _ x _ (HRXC.out _ HC.out)).mono ?_
                     rintro e w8 ⟨rfl, hb4⟩
                     rw [HSX.out]
                     have HC0 := HC
                     have HC : Asd (Below wc.heap.size wc w8) := Asd.mk (below_step HC0.out hb4)
                     clear hb4)
                  | (go_at_call 16
                     refine (check_calls _ _ _ _ (outOf x k) _ (HRY.out _ HC.out)).mono ?_
                     rintro e w8 ⟨rfl, hb4⟩
                     rw [HCN.out]
                     have HC0 := HC
                     have HC : Asd (Below wc.heap.size wc w8) := Asd.mk (below_step HC0.out hb4)
                     clear hb4)
                  | fail)
              have HBZ := Asd.mk (HBW.out.trans (HC.out.mono HBW.out.size))
              go_wp2
              go_ret
              refine ⟨?_, HBZ.out⟩
              first
                | rfl
                | (refine ret_eq ?_
                   show Value.bool (!decide ((1 : Int) < (i1 : Int))) = _
                   rw [decide_eq_false (show ¬ (1 : Int) < (i1 : Int) by omega)]
                   rfl)
        · have HZ : Asd (cellSz (key, val, over, size) = 3 + (nk : Int) + (nv : Int) + 2) := Asd.mk (by rw [HCZ.out, if_neg ho])
          have ho2 : (over != 0) = true := by rw [bne_iff_ne]; exact ho
          go_upto_region 19 with fail
          generalize (3 + (nk : Int) + (nv : Int) + 2) = sz at HZ ⊢
          have HX5 := Asd.mk (blk_alloc HX3.out (.cells #[.slice Ak nk ck, .slice Av nv cv, .int .i64 over, .int .i64 size] 61))
          have HB5 := Asd.mk (below_alloc (Below.refl _ w3) (.cells #[.slice Ak nk ck, .slice Av nv cv, .int .i64 over, .int .i64 size] 61))
          generalize w3.alloc (.cells #[.slice Ak nk ck, .slice Av nv cv, .int .i64 over, .int .i64 size] 61) = w5 at HX5 HB5 ⊢
          have HS : Asd (∀ w', Below w5.heap.size w5 w' → w'.cell? ⟨w1.heap.size, 1, none⟩ = some (.slice (some ⟨b, o, none⟩) i1 (k + 1)) ∧ Below w5.heap.size w5 w') := Asd.mk fun w' hb => ⟨(blk_cell (blk_below hb HX5.out) 1).trans rfl, hb⟩
          have HE1 : Asd (∀ w', Below w5.heap.size w5 w' → Feeds w' (some ⟨b, o, none⟩) k (k + 1) 4 (cells4 (ps.take k))) := Asd.mk fun w' hb => (feeds_take HCS.out k (k + 1) (by have := HKL.out; omega)).below (HB5.out.trans (hb.mono HB5.out.size))
          have HE2 : Asd (∀ w', Below w5.heap.size w5 w' → Feeds w' (some ⟨b, o, none⟩) (0) (0) 4 (cells4 (ps.drop (k + 1)))) := Asd.mk fun w' hb => by
            have e0 : i1 - (k + 1) = 0 := by omega
            have e1 : ps.drop (k + 1) = [] := by
              apply List.length_eq_zero_iff.1
              rw [List.length_drop, HCS.out.len, ← HI1.out]
              exact e0
            rw [e1]
            exact ⟨rfl, fun a ha j u hu => by simp [cells4] at hu, (fun h => by cases h), fun u hu => by simp [cells4] at hu⟩
          have HYN : Asd (∀ (V : World) (b : Nat), V.heap.size = b → (V.alloc (.cells #[.bool false, .slice none 0 0, .slice none 0 0, .slice none 0 0] 29)).heap[b]? = some (.cells #[.bool false, .slice none 0 0, .slice none 0 0, .slice none 0 0] 29 (0, 0))) := Asd.mk fun V b h1 => by subst h1; exact blk_new _ _
          clear p0 p1 p2 p3
          go_cut [11, 12] (fun s11 s12 wx => s11 = .int .i64 sz ∧ ∃ (g : Nat) (A : Option Addr) (m c : Nat), s12 = .pointer (some ⟨g, 0, none⟩) ∧ Asd (Below w5.heap.size w5 wx ∧ wx.heap[g]? = some (.cells #[.bool true, .slice A m c, .slice none 0 0, .slice none 0 0] 29 (0, 0)) ∧ OwnCells 61 wx w0.heap.size (.slice A m c) (x.2.1.take k ++ x.2.1.drop (k + 1)) (ps.take k ++ ps.drop (k + 1))))
          case first =>
            go_region_held3 (fun w' => w'.cell? ⟨w1.heap.size, 1, none⟩ = some (.slice (some ⟨b, o, none⟩) i1 (k + 1)) ∧ Below w5.heap.size w5 w')
              (first
                | exact HS.out _ HC7.out
                | exact HS.out _ (below_alloc HC7.out _)
                | exact HS.out _ HC.out
                | exact HS.out _ (below_alloc HC.out _)
                | exact HS.out _ (Below.refl _ _).drew
                | exact HS.out _ (below_alloc (Below.refl _ _).drew _)
                | exact HS.out _ (below_alloc (below_alloc (Below.refl _ _).drew _) _)
                | exact HS.out _ (below_set (below_set (below_set (below_set HC7.out (by first | omega | (simp; done) | (simp; omega)) _) (by first | omega | (simp; done) | (simp; omega)) _) (by first | omega | (simp; done) | (simp; omega)) _) (by first | omega | (simp; done) | (simp; omega)) _)
                | (go_split_ands; exact HS.out _ (by assumption))
                | fail)
              (first
                | (go_split_ands
                   refine step_src0 (by rfl) _ _ _ (by rfl) rowC w5.heap.size (by rfl) (by first | exact own_empty_new rfl (Nat.le_refl _) | exact own_empty_new (by simp) (by omega) | exact (own_empty_new rfl (Nat.le_refl _)).alloc _ | exact (own_empty_new (by simp) (by omega)).alloc _ | fail) (some ⟨b, o, none⟩) k (k + 1) (by rfl) (HE1.out _ (by assumption)) (by unfold maxLen; omega) (by omega) (by simp; try omega) ?_
                   intro A6 c6 w6 hown6 hgr6
                   have HC : Asd (Below w5.heap.size w5 w6) := Asd.mk (below_grown_at (by assumption) hgr6 (by first | exact Nat.le_refl _ | omega))
                   have hs6 := HC.out.size
                   have HO6 := Asd.mk hown6
                   try (have hy6 := (hgr6.block (w5.heap.size + 1) (by first | (simp; done) | (simp; omega)) (by simp)).trans (HYN.out (w5.drew.alloc _) _ (by simp)))
                   try (have hy6 := (hgr6.block w5.heap.size (by first | (simp; done) | (simp; omega)) (by simp)).trans (blk_alloc (HYN.out w5.drew _ rfl) _)))
                | (go_split_ands
                   refine step_src (by rfl) _ _ _ (by rfl) rowC (.slice A6 k c6) (by rfl) (n := k) (xs := cells4 (ps.take k)) (base := w5.heap.size) (by first | exact HO6.out | exact HO6.out.alloc _ | fail) (some ⟨b, o, none⟩) (0) (0) (by rfl) (HE2.out _ (by assumption)) (by unfold maxLen; omega) (by omega) (by first | exact hs6 | (simp; omega)) ?_
                   intro A7 c7 w7 hown7 hgr7
                   have HC7 : Asd (Below w5.heap.size w5 w7) := Asd.mk (below_grew (by assumption) hgr7 (fun k hk => (HO6.out.lt k hk).1))
                   have HO7 := Asd.mk hown7
                   try (have hy7 := (hgr7.block _ (blk_lt hy6) (own_typ HO6.out hy6 (by decide))).trans hy6)
                   try (have hy7 := (hgr7.block w6.heap.size (by first | (simp; done) | (simp; omega)) (own_typ (HO6.out.alloc _) (HYN.out w6 _ rfl) (by decide))).trans (HYN.out w6 _ rfl))
                   try (have g0 := (blk_cell hy7 0).trans rfl
                        have g1 := (blk_cell hy7 1).trans rfl
                        have g2 := (blk_cell hy7 2).trans rfl
                        have g3 := (blk_cell hy7 3).trans rfl
                        have z0 := blk_frozen hy7 0
                        have z1 := blk_frozen hy7 1
                        have z2 := blk_frozen hy7 2
                        have z3 := blk_frozen hy7 3))
                | fail)
            all_goals
              go_wp2_with fail
              go_meet
              have HOC := own_out HCS.out (above_below (HB5.out.trans (HC7.out.mono HB5.out.size))) k HKL.out (by have h1 := HI1.out; have h2 := HKL.out; omega) HO7.out (by have h1 := HW01.out; have h2 := blk_lt HX5.out; omega)
              first
                | exact ⟨rfl, _, _, _, _, rfl, ⟨out_alloc (by decide) HC7.out HOC⟩⟩
                | exact ⟨rfl, _, _, _, _, rfl, ⟨out_set (by decide) HC7.out hy7 (by omega) HOC⟩⟩
          case rest =>
            obtain ⟨rfl, g, A9, m9, c9, rfl, HG⟩ := hcut
            have HBW : Asd (Below w.heap.size w wc) := Asd.mk (HB3.out.trans ((HB5.out.trans (HG.out.1.mono HB5.out.size)).mono HB3.out.size))
            have HRY : Asd (∀ w', Below wc.heap.size wc w' → rNode w' [.bool true, .slice A9 m9 c9, .slice none 0 0, .slice none 0 0] (outOf x k)) := Asd.mk fun w' hb => lasts_node _ _ _ _ hb ((OwnNode.mk (x := outOf x k) rfl ⟨_, HG.out.2.2⟩ ⟨[], OwnKeys.nil _ _⟩ (OwnKids.nil _ _)).read (sane_out HSN.out k))
            have HRXC : Asd (∀ w', Below wc.heap.size wc w' → rNode w' [.bool true, .slice (some ⟨b, o, none⟩) i1 (k + 1), .slice E2 i2 j2, .slice E3 i3 j3] x) := Asd.mk fun w' hb => lasts_node _ _ _ _ hb (lasts_node _ _ _ _ (HB5.out.trans (HG.out.1.mono HB5.out.size)) HRX.out)
            have HXC := Asd.mk (blk_below HG.out.1 HX5.out)
            have HS : Asd (∀ w', Below wc.heap.size wc w' → w'.cell? ⟨g, 0, none⟩ = some (.bool true) ∧ w'.cell? ⟨g, 1, none⟩ = some (.slice A9 m9 c9) ∧ w'.cell? ⟨g, 2, none⟩ = some (.slice none 0 0) ∧ w'.cell? ⟨g, 3, none⟩ = some (.slice none 0 0) ∧ w'.cell? ⟨w1.heap.size, 0, none⟩ = some (.bool true) ∧ w'.cell? ⟨w1.heap.size, 1, none⟩ = some (.slice (some ⟨b, o, none⟩) i1 (k + 1)) ∧ w'.cell? ⟨w1.heap.size, 2, none⟩ = some (.slice E2 i2 j2) ∧ w'.cell? ⟨w1.heap.size, 3, none⟩ = some (.slice E3 i3 j3)) := Asd.mk fun w' hb => by
              have ha := blk_below hb HG.out.2.1
              have hx := blk_below hb HXC.out
              exact ⟨(blk_cell ha 0).trans rfl, (blk_cell ha 1).trans rfl, (blk_cell ha 2).trans rfl, (blk_cell ha 3).trans rfl, (blk_cell hx 0).trans rfl, (blk_cell hx 1).trans rfl, (blk_cell hx 2).trans rfl, (blk_cell hx 3).trans rfl⟩
            have HC : Asd (Below wc.heap.size wc wc.drew) := Asd.mk (Below.refl _ _).drew
            have hz1 := HLAW.out.1
            rw [HZ.out] at hz1
            have hcn : checkN (outOf x k) = if 1 < i1 then 0 else 3 := by
              have hi := HI1.out
              split
              · exact HLAW.out.2.1 (by omega)
              · exact HLAW.out.2.2 (by omega)
            generalize hsa : wrap64 (nodeSz (outOf x k)) = sa at hz1
            generalize hsx : wrap64 (nodeSz x) = sx at hz1
            have hzs2 : IntKind.i64.wrap (sx - sz) = sa := by
              have h9 := hz1
              unfold wrap64 at h9
              rw [IntKind.wrap_i64]
              first | exact hz1.symm | exact h9.symm | omega
            have HSA := Asd.mk hsa
            have HSX := Asd.mk hsx
            clear hz1 hsa hsx
            by_cases h1 : 1 < i1
            · have HCN : Asd (checkN (outOf x k) = 0) := Asd.mk (by rw [hcn, if_pos h1])
              have h1i : (1 : Int) < (i1 : Int) := by omega
              clear hcn
              go_upto_region 20 with fail
              go_region_held3 (fun w' => w'.cell? ⟨g, 0, none⟩ = some (.bool true) ∧ w'.cell? ⟨g, 1, none⟩ = some (.slice A9 m9 c9) ∧ w'.cell? ⟨g, 2, none⟩ = some (.slice none 0 0) ∧ w'.cell? ⟨g, 3, none⟩ = some (.slice none 0 0) ∧ w'.cell? ⟨w1.heap.size, 0, none⟩ = some (.bool true) ∧ w'.cell? ⟨w1.heap.size, 1, none⟩ = some (.slice (some ⟨b, o, none⟩) i1 (k + 1)) ∧ w'.cell? ⟨w1.heap.size, 2, none⟩ = some (.slice E2 i2 j2) ∧ w'.cell? ⟨w1.heap.size, 3, none⟩ = some (.slice E3 i3 j3))
                (first
                  | exact HS.out _ HC.out
                  | fail)
                (first
                  | (go_at_call_of 14 (Value.agg #[.bool true, .slice A9 m9 c9, .slice none 0 0, .slice none 0 0])
                     refine (size_calls _ _ _ _ (outOf x k) _ (HRY.out _ HC.out)).mono ?_
                     rintro e w8 ⟨rfl, hb4⟩
                     rw [HSA.out]
                     have HC0 := HC
                     have HC : Asd (Below wc.heap.size wc w8) := Asd.mk (below_step HC0.out hb4)
                     clear hb4)
                  | (go_at_call 14
                     refine (size_calls _ _ _ _ x _ (HRXC.out _ HC.out)).mono ?_
                     rintro e w8 ⟨rfl, hb4⟩
                     rw [HSX.out]
                     have HC0 := HC
                     have HC : Asd (Below wc.heap.size wc w8) := Asd.mk (below_step HC0.out hb4)
                     clear hb4)
                  | (go_at_call 16
                     refine (check_calls _ _ _ _ (outOf x k) _ (HRY.out _ HC.out)).mono ?_
                     rintro e w8 ⟨rfl, hb4⟩
                     rw [HCN.out]
                     have HC0 := HC
                     have HC : Asd (Below wc.heap.size wc w8) := Asd.mk (below_step HC0.out hb4)
                     clear hb4)
                  | fail)
              have HBZ := Asd.mk (HBW.out.trans (HC.out.mono HBW.out.size))
              go_wp2
              go_ret
              refine ⟨?_, HBZ.out⟩
              first
                | rfl
                | (refine ret_eq ?_
                   show Value.bool (!decide ((1 : Int) < (i1 : Int))) = _
                   rw [decide_eq_false (show ¬ (1 : Int) < (i1 : Int) by omega)]
                   rfl)
            · have HCN : Asd (checkN (outOf x k) = 3) := Asd.mk (by rw [hcn, if_neg h1])
              have h1i : ¬ (1 : Int) < (i1 : Int) := by omega
              clear hcn
              go_upto_region 20 with fail
              go_region_held3 (fun w' => w'.cell? ⟨g, 0, none⟩ = some (.bool true) ∧ w'.cell? ⟨g, 1, none⟩ = some (.slice A9 m9 c9) ∧ w'.cell? ⟨g, 2, none⟩ = some (.slice none 0 0) ∧ w'.cell? ⟨g, 3, none⟩ = some (.slice none 0 0) ∧ w'.cell? ⟨w1.heap.size, 0, none⟩ = some (.bool true) ∧ w'.cell? ⟨w1.heap.size, 1, none⟩ = some (.slice (some ⟨b, o, none⟩) i1 (k + 1)) ∧ w'.cell? ⟨w1.heap.size, 2, none⟩ = some (.slice E2 i2 j2) ∧ w'.cell? ⟨w1.heap.size, 3, none⟩ = some (.slice E3 i3 j3))
                (first
                  | exact HS.out _ HC.out
                  | fail)
                (first
                  | (go_at_call_of 14 (Value.agg #[.bool true, .slice A9 m9 c9, .slice none 0 0, .slice none 0 0])
                     refine (size_calls _ _ _ _ (outOf x k) _ (HRY.out _ HC.out)).mono ?_
                     rintro e w8 ⟨rfl, hb4⟩
                     rw [HSA.out]
                     have HC0 := HC
                     have HC : Asd (Below wc.heap.size wc w8) := Asd.mk (below_step HC0.out hb4)
                     clear hb4)
                  | (go_at_call 14
                     refine (size_calls _ _ _ _ x _ (HRXC.out _ HC.out)).mono ?_
                     rintro e w8 ⟨rfl, hb4⟩
                     rw [HSX.out]
                     have HC0 := HC
                     have HC : Asd (Below wc.heap.size wc w8) := Asd.mk (below_step HC0.out hb4)
                     clear hb4)
                  | (go_at_call 16
                     refine (check_calls _ _ _ _ (outOf x k) _ (HRY.out _ HC.out)).mono ?_
                     rintro e w8 ⟨rfl, hb4⟩
                     rw [HCN.out]
                     have HC0 := HC
                     have HC : Asd (Below wc.heap.size wc w8) := Asd.mk (below_step HC0.out hb4)
                     clear hb4)
                  | fail)
              have HBZ := Asd.mk (HBW.out.trans (HC.out.mono HBW.out.size))
              go_wp2
              go_ret
              refine ⟨?_, HBZ.out⟩
              first
                | rfl
                | (refine ret_eq ?_
                   show Value.bool (!decide ((1 : Int) < (i1 : Int))) = _
                   rw [decide_eq_false (show ¬ (1 : Int) < (i1 : Int) by omega)]
                   rfl)
      · by_cases ho : over = 0
        · subst ho
          have HZ : Asd (cellSz (key, val, 0, size) = 3 + (nk : Int) + (nv : Int)) := Asd.mk (by rw [HCZ.out, if_pos rfl])
          go_upto_region 19 with fail
          generalize (3 + (nk : Int) + (nv : Int)) = sz at HZ ⊢
          have HX5 := Asd.mk (blk_alloc HX3.out (.cells #[.slice Ak nk ck, .slice Av nv cv, .int .i64 0, .int .i64 size] 61))
          have HB5 := Asd.mk (below_alloc (Below.refl _ w3) (.cells #[.slice Ak nk ck, .slice Av nv cv, .int .i64 0, .int .i64 size] 61))
          generalize w3.alloc (.cells #[.slice Ak nk ck, .slice Av nv cv, .int .i64 0, .int .i64 size] 61) = w5 at HX5 HB5 ⊢
          have HS : Asd (∀ w', Below w5.heap.size w5 w' → w'.cell? ⟨w1.heap.size, 1, none⟩ = some (.slice (some ⟨b, o, none⟩) i1 j1) ∧ Below w5.heap.size w5 w') := Asd.mk fun w' hb => ⟨(blk_cell (blk_below hb HX5.out) 1).trans rfl, hb⟩
          have HE1 : Asd (∀ w', Below w5.heap.size w5 w' → Feeds w' (some ⟨b, o, none⟩) k j1 4 (cells4 (ps.take k))) := Asd.mk fun w' hb => (feeds_take HCS.out k j1 (by have := HKL.out; omega)).below (HB5.out.trans (hb.mono HB5.out.size))
          have HE2 : Asd (∀ w', Below w5.heap.size w5 w' → Feeds w' (some ⟨b, o + (k + 1) * 4, none⟩) (i1 - (k + 1)) (j1 - (k + 1)) 4 (cells4 (ps.drop (k + 1)))) := Asd.mk fun w' hb => by
            have := (feeds_drop HCS.out (k + 1) (j1 - (k + 1)) (by have := HKL.out; omega)).below (HB5.out.trans (hb.mono HB5.out.size))
            rw [← HI1.out] at this
            exact this
          have HYN : Asd (∀ (V : World) (b : Nat), V.heap.size = b → (V.alloc (.cells #[.bool false, .slice none 0 0, .slice none 0 0, .slice none 0 0] 29)).heap[b]? = some (.cells #[.bool false, .slice none 0 0, .slice none 0 0, .slice none 0 0] 29 (0, 0))) := Asd.mk fun V b h1 => by subst h1; exact blk_new _ _
          clear p0 p1 p2 p3
          go_cut [11, 12] (fun s11 s12 wx => s11 = .int .i64 sz ∧ ∃ (g : Nat) (A : Option Addr) (m c : Nat), s12 = .pointer (some ⟨g, 0, none⟩) ∧ Asd (Below w5.heap.size w5 wx ∧ wx.heap[g]? = some (.cells #[.bool true, .slice A m c, .slice none 0 0, .slice none 0 0] 29 (0, 0)) ∧ OwnCells 61 wx w0.heap.size (.slice A m c) (x.2.1.take k ++ x.2.1.drop (k + 1)) (ps.take k ++ ps.drop (k + 1))))
          case first =>
            go_region_held3 (fun w' => w'.cell? ⟨w1.heap.size, 1, none⟩ = some (.slice (some ⟨b, o, none⟩) i1 j1) ∧ Below w5.heap.size w5 w')
              (first
                | exact HS.out _ HC7.out
                | exact HS.out _ (below_alloc HC7.out _)
                | exact HS.out _ HC.out
                | exact HS.out _ (below_alloc HC.out _)
                | exact HS.out _ (Below.refl _ _).drew
                | exact HS.out _ (below_alloc (Below.refl _ _).drew _)
                | exact HS.out _ (below_alloc (below_alloc (Below.refl _ _).drew _) _)
                | exact HS.out _ (below_set (below_set (below_set (below_set HC7.out (by first | omega | (simp; done) | (simp; omega)) _) (by first | omega | (simp; done) | (simp; omega)) _) (by first | omega | (simp; done) | (simp; omega)) _) (by first | omega | (simp; done) | (simp; omega)) _)
                | (go_split_ands; exact HS.out _ (by assumption))
                | fail)
              (first
                | (go_split_ands
                   refine step_src0 (by rfl) _ _ _ (by rfl) rowC w5.heap.size (by rfl) (by first | exact own_empty_new rfl (Nat.le_refl _) | exact own_empty_new (by simp) (by omega) | exact (own_empty_new rfl (Nat.le_refl _)).alloc _ | exact (own_empty_new (by simp) (by omega)).alloc _ | fail) (some ⟨b, o, none⟩) k j1 (by rfl) (HE1.out _ (by assumption)) (by unfold maxLen; omega) (by omega) (by simp; try omega) ?_
                   intro A6 c6 w6 hown6 hgr6
                   have HC : Asd (Below w5.heap.size w5 w6) := Asd.mk (below_grown_at (by assumption) hgr6 (by first | exact Nat.le_refl _ | omega))
                   have hs6 := HC.out.size
                   have HO6 := Asd.mk hown6
                   try (have hy6 := (hgr6.block (w5.heap.size + 1) (by first | (simp; done) | (simp; omega)) (by simp)).trans (HYN.out (w5.drew.alloc _) _ (by simp)))
                   try (have hy6 := (hgr6.block w5.heap.size (by first | (simp; done) | (simp; omega)) (by simp)).trans (blk_alloc (HYN.out w5.drew _ rfl) _)))
                | (go_split_ands
                   refine step_src (by rfl) _ _ _ (by rfl) rowC (.slice A6 k c6) (by rfl) (n := k) (xs := cells4 (ps.take k)) (base := w5.heap.size) (by first | exact HO6.out | exact HO6.out.alloc _ | fail) (some ⟨b, o + (k + 1) * 4, none⟩) (i1 - (k + 1)) (j1 - (k + 1)) (by rfl) (HE2.out _ (by assumption)) (by unfold maxLen; omega) (by omega) (by first | exact hs6 | (simp; omega)) ?_
                   intro A7 c7 w7 hown7 hgr7
                   have HC7 : Asd (Below w5.heap.size w5 w7) := Asd.mk (below_grew (by assumption) hgr7 (fun k hk => (HO6.out.lt k hk).1))
                   have HO7 := Asd.mk hown7
                   try (have hy7 := (hgr7.block _ (blk_lt hy6) (own_typ HO6.out hy6 (by decide))).trans hy6)
                   try (have hy7 := (hgr7.block w6.heap.size (by first | (simp; done) | (simp; omega)) (own_typ (HO6.out.alloc _) (HYN.out w6 _ rfl) (by decide))).trans (HYN.out w6 _ rfl))
                   try (have g0 := (blk_cell hy7 0).trans rfl
                        have g1 := (blk_cell hy7 1).trans rfl
                        have g2 := (blk_cell hy7 2).trans rfl
                        have g3 := (blk_cell hy7 3).trans rfl
                        have z0 := blk_frozen hy7 0
                        have z1 := blk_frozen hy7 1
                        have z2 := blk_frozen hy7 2
                        have z3 := blk_frozen hy7 3))
                | fail)
            all_goals
              go_wp2_with fail
              go_meet
              have HOC := own_out HCS.out (above_below (HB5.out.trans (HC7.out.mono HB5.out.size))) k HKL.out (by have h1 := HI1.out; have h2 := HKL.out; omega) HO7.out (by have h1 := HW01.out; have h2 := blk_lt HX5.out; omega)
              first
                | exact ⟨rfl, _, _, _, _, rfl, ⟨out_alloc (by decide) HC7.out HOC⟩⟩
                | exact ⟨rfl, _, _, _, _, rfl, ⟨out_set (by decide) HC7.out hy7 (by omega) HOC⟩⟩
          case rest =>
            obtain ⟨rfl, g, A9, m9, c9, rfl, HG⟩ := hcut
            have HBW : Asd (Below w.heap.size w wc) := Asd.mk (HB3.out.trans ((HB5.out.trans (HG.out.1.mono HB5.out.size)).mono HB3.out.size))
            have HRY : Asd (∀ w', Below wc.heap.size wc w' → rNode w' [.bool true, .slice A9 m9 c9, .slice none 0 0, .slice none 0 0] (outOf x k)) := Asd.mk fun w' hb => lasts_node _ _ _ _ hb ((OwnNode.mk (x := outOf x k) rfl ⟨_, HG.out.2.2⟩ ⟨[], OwnKeys.nil _ _⟩ (OwnKids.nil _ _)).read (sane_out HSN.out k))
            have HRXC : Asd (∀ w', Below wc.heap.size wc w' → rNode w' [.bool true, .slice (some ⟨b, o, none⟩) i1 j1, .slice E2 i2 j2, .slice E3 i3 j3] x) := Asd.mk fun w' hb => lasts_node _ _ _ _ hb (lasts_node _ _ _ _ (HB5.out.trans (HG.out.1.mono HB5.out.size)) HRX.out)
            have HXC := Asd.mk (blk_below HG.out.1 HX5.out)
            have HS : Asd (∀ w', Below wc.heap.size wc w' → w'.cell? ⟨g, 0, none⟩ = some (.bool true) ∧ w'.cell? ⟨g, 1, none⟩ = some (.slice A9 m9 c9) ∧ w'.cell? ⟨g, 2, none⟩ = some (.slice none 0 0) ∧ w'.cell? ⟨g, 3, none⟩ = some (.slice none 0 0) ∧ w'.cell? ⟨w1.heap.size, 0, none⟩ = some (.bool true) ∧ w'.cell? ⟨w1.heap.size, 1, none⟩ = some (.slice (some ⟨b, o, none⟩) i1 j1) ∧ w'.cell? ⟨w1.heap.size, 2, none⟩ = some (.slice E2 i2 j2) ∧ w'.cell? ⟨w1.heap.size, 3, none⟩ = some (.slice E3 i3 j3)) := Asd.mk fun w' hb => by
              have ha := blk_below hb HG.out.2.1
              have hx := blk_below hb HXC.out
              exact ⟨(blk_cell ha 0).trans rfl, (blk_cell ha 1).trans rfl, (blk_cell ha 2).trans rfl, (blk_cell ha 3).trans rfl, (blk_cell hx 0).trans rfl, (blk_cell hx 1).trans rfl, (blk_cell hx 2).trans rfl, (blk_cell hx 3).trans rfl⟩
            have HC : Asd (Below wc.heap.size wc wc.drew) := Asd.mk (Below.refl _ _).drew
            have hz1 := HLAW.out.1
            rw [HZ.out] at hz1
            have hcn : checkN (outOf x k) = if 1 < i1 then 0 else 3 := by
              have hi := HI1.out
              split
              · exact HLAW.out.2.1 (by omega)
              · exact HLAW.out.2.2 (by omega)
            generalize hsa : wrap64 (nodeSz (outOf x k)) = sa at hz1
            generalize hsx : wrap64 (nodeSz x) = sx at hz1
            have hzs2 : IntKind.i64.wrap (sx - sz) = sa := by
              have h9 := hz1
              unfold wrap64 at h9
              rw [IntKind.wrap_i64]
              first | exact hz1.symm | exact h9.symm | omega
            have HSA := Asd.mk hsa
            have HSX := Asd.mk hsx
            clear hz1 hsa hsx
            by_cases h1 : 1 < i1
            · have HCN : Asd (checkN (outOf x k) = 0) := Asd.mk (by rw [hcn, if_pos h1])
              have h1i : (1 : Int) < (i1 : Int) := by omega
              clear hcn
              go_upto_region 20 with fail
              go_region_held3 (fun w' => w'.cell? ⟨g, 0, none⟩ = some (.bool true) ∧ w'.cell? ⟨g, 1, none⟩ = some (.slice A9 m9 c9) ∧ w'.cell? ⟨g, 2, none⟩ = some (.slice none 0 0) ∧ w'.cell? ⟨g, 3, none⟩ = some (.slice none 0 0) ∧ w'.cell? ⟨w1.heap.size, 0, none⟩ = some (.bool true) ∧ w'.cell? ⟨w1.heap.size, 1, none⟩ = some (.slice (some ⟨b, o, none⟩) i1 j1) ∧ w'.cell? ⟨w1.heap.size, 2, none⟩ = some (.slice E2 i2 j2) ∧ w'.cell? ⟨w1.heap.size, 3, none⟩ = some (.slice E3 i3 j3))
                (first
                  | exact HS.out _ HC.out
                  | fail)
                (first
                  | (go_at_call_of 14 (Value.agg #[.bool true, .slice A9 m9 c9, .slice none 0 0, .slice none 0 0])
                     refine (size_calls _ _ _ _ (outOf x k) _ (HRY.out _ HC.out)).mono ?_
                     rintro e w8 ⟨rfl, hb4⟩
                     rw [HSA.out]
                     have HC0 := HC
                     have HC : Asd (Below wc.heap.size wc w8) := Asd.mk (below_step HC0.out hb4)
                     clear hb4)
                  | (go_at_call 14
                     refine (size_calls _ _ _ _ x _ (HRXC.out _ HC.out)).mono ?_
                     rintro e w8 ⟨rfl, hb4⟩
                     rw [HSX.out]
                     have HC0 := HC
                     have HC : Asd (Below wc.heap.size wc w8) := Asd.mk (below_step HC0.out hb4)
                     clear hb4)
                  | (go_at_call 16
                     refine (check_calls _ _ _ _ (outOf x k) _ (HRY.out _ HC.out)).mono ?_
                     rintro e w8 ⟨rfl, hb4⟩
                     rw [HCN.out]
                     have HC0 := HC
                     have HC : Asd (Below wc.heap.size wc w8) := Asd.mk (below_step HC0.out hb4)
                     clear hb4)
                  | fail)
              have HBZ := Asd.mk (HBW.out.trans (HC.out.mono HBW.out.size))
              go_wp2
              go_ret
              refine ⟨?_, HBZ.out⟩
              first
                | rfl
                | (refine ret_eq ?_
                   show Value.bool (!decide ((1 : Int) < (i1 : Int))) = _
                   rw [decide_eq_false (show ¬ (1 : Int) < (i1 : Int) by omega)]
                   rfl)
            · have HCN : Asd (checkN (outOf x k) = 3) := Asd.mk (by rw [hcn, if_neg h1])
              have h1i : ¬ (1 : Int) < (i1 : Int) := by omega
              clear hcn
              go_upto_region 20 with fail
              go_region_held3 (fun w' => w'.cell? ⟨g, 0, none⟩ = some (.bool true) ∧ w'.cell? ⟨g, 1, none⟩ = some (.slice A9 m9 c9) ∧ w'.cell? ⟨g, 2, none⟩ = some (.slice none 0 0) ∧ w'.cell? ⟨g, 3, none⟩ = some (.slice none 0 0) ∧ w'.cell? ⟨w1.heap.size, 0, none⟩ = some (.bool true) ∧ w'.cell? ⟨w1.heap.size, 1, none⟩ = some (.slice (some ⟨b, o, none⟩) i1 j1) ∧ w'.cell? ⟨w1.heap.size, 2, none⟩ = some (.slice E2 i2 j2) ∧ w'.cell? ⟨w1.heap.size, 3, none⟩ = some (.slice E3 i3 j3))
                (first
                  | exact HS.out _ HC.out
                  | fail)
                (first
                  | (go_at_call_of 14 (Value.agg #[.bool true, .slice A9 m9 c9, .slice none 0 0, .slice none 0 0])
                     refine (size_calls _ _ _ _ (outOf x k) _ (HRY.out _ HC.out)).mono ?_
                     rintro e w8 ⟨rfl, hb4⟩
                     rw [HSA.out]
                     have HC0 := HC
                     have HC : Asd (Below wc.heap.size wc w8) := Asd.mk (below_step HC0.out hb4)
                     clear hb4)
                  | (go_at_call 14
                     refine (size_calls _ _ _ _ x _ (HRXC.out _ HC.out)).mono ?_
                     rintro e w8 ⟨rfl, hb4⟩
                     rw [HSX.out]
                     have HC0 := HC
                     have HC : Asd (Below wc.heap.size wc w8) := Asd.mk (below_step HC0.out hb4)
                     clear hb4)
                  | (go_at_call 16
                     refine (check_calls _ _ _ _ (outOf x k) _ (HRY.out _ HC.out)).mono ?_
                     rintro e w8 ⟨rfl, hb4⟩
                     rw [HCN.out]
                     have HC0 := HC
                     have HC : Asd (Below wc.heap.size wc w8) := Asd.mk (below_step HC0.out hb4)
                     clear hb4)
                  | fail)
              have HBZ := Asd.mk (HBW.out.trans (HC.out.mono HBW.out.size))
              go_wp2
              go_ret
              refine ⟨?_, HBZ.out⟩
              first
                | rfl
                | (refine ret_eq ?_
                   show Value.bool (!decide ((1 : Int) < (i1 : Int))) = _
                   rw [decide_eq_false (show ¬ (1 : Int) < (i1 : Int) by omega)]
                   rfl)
        · have HZ : Asd (cellSz (key, val, over, size) = 3 + (nk : Int) + (nv : Int) + 2) := Asd.mk (by rw [HCZ.out, if_neg ho])
          have ho2 : (over != 0) = true := by rw [bne_iff_ne]; exact ho
          go_upto_region 19 with fail
          generalize (3 + (nk : Int) + (nv : Int) + 2) = sz at HZ ⊢
          have HX5 := Asd.mk (blk_alloc HX3.out (.cells #[.slice Ak nk ck, .slice Av nv cv, .int .i64 over, .int .i64 size] 61))
          have HB5 := Asd.mk (below_alloc (Below.refl _ w3) (.cells #[.slice Ak nk ck, .slice Av nv cv, .int .i64 over, .int .i64 size] 61))
          generalize w3.alloc (.cells #[.slice Ak nk ck, .slice Av nv cv, .int .i64 over, .int .i64 size] 61) = w5 at HX5 HB5 ⊢
          have HS : Asd (∀ w', Below w5.heap.size w5 w' → w'.cell? ⟨w1.heap.size, 1, none⟩ = some (.slice (some ⟨b, o, none⟩) i1 j1) ∧ Below w5.heap.size w5 w') := Asd.mk fun w' hb => ⟨(blk_cell (blk_below hb HX5.out) 1).trans rfl, hb⟩
          have HE1 : Asd (∀ w', Below w5.heap.size w5 w' → Feeds w' (some ⟨b, o, none⟩) k j1 4 (cells4 (ps.take k))) := Asd.mk fun w' hb => (feeds_take HCS.out k j1 (by have := HKL.out; omega)).below (HB5.out.trans (hb.mono HB5.out.size))
          have HE2 : Asd (∀ w', Below w5.heap.size w5 w' → Feeds w' (some ⟨b, o + (k + 1) * 4, none⟩) (i1 - (k + 1)) (j1 - (k + 1)) 4 (cells4 (ps.drop (k + 1)))) := Asd.mk fun w' hb => by
            have := (feeds_drop HCS.out (k + 1) (j1 - (k + 1)) (by have := HKL.out; omega)).below (HB5.out.trans (hb.mono HB5.out.size))
            rw [← HI1.out] at this
            exact this
          have HYN : Asd (∀ (V : World) (b : Nat), V.heap.size = b → (V.alloc (.cells #[.bool false, .slice none 0 0, .slice none 0 0, .slice none 0 0] 29)).heap[b]? = some (.cells #[.bool false, .slice none 0 0, .slice none 0 0, .slice none 0 0] 29 (0, 0))) := Asd.mk fun V b h1 => by subst h1; exact blk_new _ _
          clear p0 p1 p2 p3
          go_cut [11, 12] (fun s11 s12 wx => s11 = .int .i64 sz ∧ ∃ (g : Nat) (A : Option Addr) (m c : Nat), s12 = .pointer (some ⟨g, 0, none⟩) ∧ Asd (Below w5.heap.size w5 wx ∧ wx.heap[g]? = some (.cells #[.bool true, .slice A m c, .slice none 0 0, .slice none 0 0] 29 (0, 0)) ∧ OwnCells 61 wx w0.heap.size (.slice A m c) (x.2.1.take k ++ x.2.1.drop (k + 1)) (ps.take k ++ ps.drop (k + 1))))
          case first =>
            go_region_held3 (fun w' => w'.cell? ⟨w1.heap.size, 1, none⟩ = some (.slice (some ⟨b, o, none⟩) i1 j1) ∧ Below w5.heap.size w5 w')
              (first
                | exact HS.out _ HC7.out
                | exact HS.out _ (below_alloc HC7.out _)
                | exact HS.out _ HC.out
                | exact HS.out _ (below_alloc HC.out _)
                | exact HS.out _ (Below.refl _ _).drew
                | exact HS.out _ (below_alloc (Below.refl _ _).drew _)
                | exact HS.out _ (below_alloc (below_alloc (Below.refl _ _).drew _) _)
                | exact HS.out _ (below_set (below_set (below_set (below_set HC7.out (by first | omega | (simp; done) | (simp; omega)) _) (by first | omega | (simp; done) | (simp; omega)) _) (by first | omega | (simp; done) | (simp; omega)) _) (by first | omega | (simp; done) | (simp; omega)) _)
                | (go_split_ands; exact HS.out _ (by assumption))
                | fail)
              (first
                | (go_split_ands
                   refine step_src0 (by rfl) _ _ _ (by rfl) rowC w5.heap.size (by rfl) (by first | exact own_empty_new rfl (Nat.le_refl _) | exact own_empty_new (by simp) (by omega) | exact (own_empty_new rfl (Nat.le_refl _)).alloc _ | exact (own_empty_new (by simp) (by omega)).alloc _ | fail) (some ⟨b, o, none⟩) k j1 (by rfl) (HE1.out _ (by assumption)) (by unfold maxLen; omega) (by omega) (by simp; try omega) ?_
                   intro A6 c6 w6 hown6 hgr6
                   have HC : Asd (Below w5.heap.size w5 w6) := Asd.mk (below_grown_at (by assumption) hgr6 (by first | exact Nat.le_refl _ | omega))
                   have hs6 := HC.out.size
                   have HO6 := Asd.mk hown6
                   try (have hy6 := (hgr6.block (w5.heap.size + 1) (by first | (simp; done) | (simp; omega)) (by simp)).trans (HYN.out (w5.drew.alloc _) _ (by simp)))
                   try (have hy6 := (hgr6.block w5.heap.size (by first | (simp; done) | (simp; omega)) (by simp)).trans (blk_alloc (HYN.out w5.drew _ rfl) _)))
                | (go_split_ands
                   refine step_src (by rfl) _ _ _ (by rfl) rowC (.slice A6 k c6) (by rfl) (n := k) (xs := cells4 (ps.take k)) (base := w5.heap.size) (by first | exact HO6.out | exact HO6.out.alloc _ | fail) (some ⟨b, o + (k + 1) * 4, none⟩) (i1 - (k + 1)) (j1 - (k + 1)) (by rfl) (HE2.out _ (by assumption)) (by unfold maxLen; omega) (by omega) (by first | exact hs6 | (simp; omega)) ?_
                   intro A7 c7 w7 hown7 hgr7
                   have HC7 : Asd (Below w5.heap.size w5 w7) := Asd.mk (below_grew (by assumption) hgr7 (fun k hk => (HO6.out.lt k hk).1))
                   have HO7 := Asd.mk hown7
                   try (have hy7 := (hgr7.block _ (blk_lt hy6) (own_typ HO6.out hy6 (by decide))).trans hy6)
                   try (have hy7 := (hgr7.block w6.heap.size (by first | (simp; done) | (simp; omega)) (own_typ (HO6.out.alloc _) (HYN.out w6 _ rfl) (by decide))).trans (HYN.out w6 _ rfl))
                   try (have g0 := (blk_cell hy7 0).trans rfl
                        have g1 := (blk_cell hy7 1).trans rfl
                        have g2 := (blk_cell hy7 2).trans rfl
                        have g3 := (blk_cell hy7 3).trans rfl
                        have z0 := blk_frozen hy7 0
                        have z1 := blk_frozen hy7 1
                        have z2 := blk_frozen hy7 2
                        have z3 := blk_frozen hy7 3))
                | fail)
            all_goals
              go_wp2_with fail
              go_meet
              have HOC := own_out HCS.out (above_below (HB5.out.trans (HC7.out.mono HB5.out.size))) k HKL.out (by have h1 := HI1.out; have h2 := HKL.out; omega) HO7.out (by have h1 := HW01.out; have h2 := blk_lt HX5.out; omega)
              first
                | exact ⟨rfl, _, _, _, _, rfl, ⟨out_alloc (by decide) HC7.out HOC⟩⟩
                | exact ⟨rfl, _, _, _, _, rfl, ⟨out_set (by decide) HC7.out hy7 (by omega) HOC⟩⟩
          case rest =>
            obtain ⟨rfl, g, A9, m9, c9, rfl, HG⟩ := hcut
            have HBW : Asd (Below w.heap.size w wc) := Asd.mk (HB3.out.trans ((HB5.out.trans (HG.out.1.mono HB5.out.size)).mono HB3.out.size))
            have HRY : Asd (∀ w', Below wc.heap.size wc w' → rNode w' [.bool true, .slice A9 m9 c9, .slice none 0 0, .slice none 0 0] (outOf x k)) := Asd.mk fun w' hb => lasts_node _ _ _ _ hb ((OwnNode.mk (x := outOf x k) rfl ⟨_, HG.out.2.2⟩ ⟨[], OwnKeys.nil _ _⟩ (OwnKids.nil _ _)).read (sane_out HSN.out k))
            have HRXC : Asd (∀ w', Below wc.heap.size wc w' → rNode w' [.bool true, .slice (some ⟨b, o, none⟩) i1 j1, .slice E2 i2 j2, .slice E3 i3 j3] x) := Asd.mk fun w' hb => lasts_node _ _ _ _ hb (lasts_node _ _ _ _ (HB5.out.trans (HG.out.1.mono HB5.out.size)) HRX.out)
            have HXC := Asd.mk (blk_below HG.out.1 HX5.out)
            have HS : Asd (∀ w', Below wc.heap.size wc w' → w'.cell? ⟨g, 0, none⟩ = some (.bool true) ∧ w'.cell? ⟨g, 1, none⟩ = some (.slice A9 m9 c9) ∧ w'.cell? ⟨g, 2, none⟩ = some (.slice none 0 0) ∧ w'.cell? ⟨g, 3, none⟩ = some (.slice none 0 0) ∧ w'.cell? ⟨w1.heap.size, 0, none⟩ = some (.bool true) ∧ w'.cell? ⟨w1.heap.size, 1, none⟩ = some (.slice (some ⟨b, o, none⟩) i1 j1) ∧ w'.cell? ⟨w1.heap.size, 2, none⟩ = some (.slice E2 i2 j2) ∧ w'.cell? ⟨w1.heap.size, 3, none⟩ = some (.slice E3 i3 j3)) := Asd.mk fun w' hb => by
              have ha := blk_below hb HG.out.2.1
              have hx := blk_below hb HXC.out
              exact ⟨(blk_cell ha 0).trans rfl, (blk_cell ha 1).trans rfl, (blk_cell ha 2).trans rfl, (blk_cell ha 3).trans rfl, (blk_cell hx 0).trans rfl, (blk_cell hx 1).trans rfl, (blk_cell hx 2).trans rfl, (blk_cell hx 3).trans rfl⟩
            have HC : Asd (Below wc.heap.size wc wc.drew) := Asd.mk (Below.refl _ _).drew
            have hz1 := HLAW.out.1
            rw [HZ.out] at hz1
            have hcn : checkN (outOf x k) = if 1 < i1 then 0 else 3 := by
              have hi := HI1.out
              split
              · exact HLAW.out.2.1 (by omega)
              · exact HLAW.out.2.2 (by omega)
            generalize hsa : wrap64 (nodeSz (outOf x k)) = sa at hz1
            generalize hsx : wrap64 (nodeSz x) = sx at hz1
            have hzs2 : IntKind.i64.wrap (sx - sz) = sa := by
              have h9 := hz1
              unfold wrap64 at h9
              rw [IntKind.wrap_i64]
              first | exact hz1.symm | exact h9.symm | omega
            have HSA := Asd.mk hsa
            have HSX := Asd.mk hsx
            clear hz1 hsa hsx
            by_cases h1 : 1 < i1
            · have HCN : Asd (checkN (outOf x k) = 0) := Asd.mk (by rw [hcn, if_pos h1])
              have h1i : (1 : Int) < (i1 : Int) := by omega
              clear hcn
              go_upto_region 20 with fail
              go_region_held3 (fun w' => w'.cell? ⟨g, 0, none⟩ = some (.bool true) ∧ w'.cell? ⟨g, 1, none⟩ = some (.slice A9 m9 c9) ∧ w'.cell? ⟨g, 2, none⟩ = some (.slice none 0 0) ∧ w'.cell? ⟨g, 3, none⟩ = some (.slice none 0 0) ∧ w'.cell? ⟨w1.heap.size, 0, none⟩ = some (.bool true) ∧ w'.cell? ⟨w1.heap.size, 1, none⟩ = some (.slice (some ⟨b, o, none⟩) i1 j1) ∧ w'.cell? ⟨w1.heap.size, 2, none⟩ = some (.slice E2 i2 j2) ∧ w'.cell? ⟨w1.heap.size, 3, none⟩ = some (.slice E3 i3 j3))
                (first
                  | exact HS.out _ HC.out
                  | fail)
                (first
                  | (go_at_call_of 14 (Value.agg #[.bool true, .slice A9 m9 c9, .slice none 0 0, .slice none 0 0])
                     refine (size_calls _ _ _ _ (outOf x k) _ (HRY.out _ HC.out)).mono ?_
                     rintro e w8 ⟨rfl, hb4⟩
                     rw [HSA.out]
                     have HC0 := HC
                     have HC : Asd (Below wc.heap.size wc w8) := Asd.mk (below_step HC0.out hb4)
                     clear hb4)
                  | (go_at_call 14
                     refine (size_calls _ _ _ _ x _ (HRXC.out _ HC.out)).mono ?_
                     rintro e w8 ⟨rfl, hb4⟩
                     rw [HSX.out]
                     have HC0 := HC
                     have HC : Asd (Below wc.heap.size wc w8) := Asd.mk (below_step HC0.out hb4)
                     clear hb4)
                  | (go_at_call 16
                     refine (check_calls _ _ _ _ (outOf x k) _ (HRY.out _ HC.out)).mono ?_
                     rintro e w8 ⟨rfl, hb4⟩
                     rw [HCN.out]
                     have HC0 := HC
                     have HC : Asd (Below wc.heap.size wc w8) := Asd.mk (below_step HC0.out hb4)
                     clear hb4)
                  | fail)
              have HBZ := Asd.mk (HBW.out.trans (HC.out.mono HBW.out.size))
              go_wp2
              go_ret
              refine ⟨?_, HBZ.out⟩
              first
                | rfl
                | (refine ret_eq ?_
                   show Value.bool (!decide ((1 : Int) < (i1 : Int))) = _
                   rw [decide_eq_false (show ¬ (1 : Int) < (i1 : Int) by omega)]
                   rfl)
            · have HCN : Asd (checkN (outOf x k) = 3) := Asd.mk (by rw [hcn, if_neg h1])
              have h1i : ¬ (1 : Int) < (i1 : Int) := by omega
              clear hcn
              go_upto_region 20 with fail
              go_region_held3 (fun w' => w'.cell? ⟨g, 0, none⟩ = some (.bool true) ∧ w'.cell? ⟨g, 1, none⟩ = some (.slice A9 m9 c9) ∧ w'.cell? ⟨g, 2, none⟩ = some (.slice none 0 0) ∧ w'.cell? ⟨g, 3, none⟩ = some (.slice none 0 0) ∧ w'.cell? ⟨w1.heap.size, 0, none⟩ = some (.bool true) ∧ w'.cell? ⟨w1.heap.size, 1, none⟩ = some (.slice (some ⟨b, o, none⟩) i1 j1) ∧ w'.cell? ⟨w1.heap.size, 2, none⟩ = some (.slice E2 i2 j2) ∧ w'.cell? ⟨w1.heap.size, 3, none⟩ = some (.slice E3 i3 j3))
                (first
                  | exact HS.out _ HC.out
                  | fail)
                (first
                  | (go_at_call_of 14 (Value.agg #[.bool true, .slice A9 m9 c9, .slice none 0 0, .slice none 0 0])
                     refine (size_calls _ _ _ _ (outOf x k) _ (HRY.out _ HC.out)).mono ?_
                     rintro e w8 ⟨rfl, hb4⟩
                     rw [HSA.out]
                     have HC0 := HC
                     have HC : Asd (Below wc.heap.size wc w8) := Asd.mk (below_step HC0.out hb4)
                     clear hb4)
                  | (go_at_call 14
                     refine (size_calls _ _ _ _ x _ (HRXC.out _ HC.out)).mono ?_
                     rintro e w8 ⟨rfl, hb4⟩
                     rw [HSX.out]
                     have HC0 := HC
                     have HC : Asd (Below wc.heap.size wc w8) := Asd.mk (below_step HC0.out hb4)
                     clear hb4)
                  | (go_at_call 16
                     refine (check_calls _ _ _ _ (outOf x k) _ (HRY.out _ HC.out)).mono ?_
                     rintro e w8 ⟨rfl, hb4⟩
                     rw [HCN.out]
                     have HC0 := HC
                     have HC : Asd (Below wc.heap.size wc w8) := Asd.mk (below_step HC0.out hb4)
                     clear hb4)
                  | fail)
              have HBZ := Asd.mk (HBW.out.trans (HC.out.mono HBW.out.size))
              go_wp2
              go_ret
              refine ⟨?_, HBZ.out⟩
              first
                | rfl
                | (refine ret_eq ?_
                   show Value.bool (!decide ((1 : Int) < (i1 : Int))) = _
                   rw [decide_eq_false (show ¬ (1 : Int) < (i1 : Int) by omega)]
                   rfl)

set_option maxRecDepth 100000 in
theorem sizes_open {H : Type} {enc : TypeId × Value → H} (W : World) (v : Value) (d : DataW H) (p : List MemPlace) {base : Nat} (ok : Value.okWide Try.prog W .any base 26 v) (h : DataW.Trod enc Try.prog W 0 (fun _ => true) true 26 v d p)
    (wt : ∀ k ∈ d.weights Try.prog 26, k ≤ reachBytes) (a : Int) (wa : (Lit.int .i64 a).wf = true) : Calls Try.prog 9 #[v, .int .i64 a] W (Tells W (.bool true)) := by
  obtain ⟨v0, v1, v2, v3, x, rfl, hx⟩ := node_open W v d p ok h wt
  exact law_sizes v0 v1 v2 v3 a x W hx
end Go.Proofs.Ytnohhmopiflboaa.Nod
