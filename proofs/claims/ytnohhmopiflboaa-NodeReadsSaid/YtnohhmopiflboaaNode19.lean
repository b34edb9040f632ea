/- The reference's Encode: a leaf's load. -/
import Derived.Test.YtnohhmopiflboaaNode18
set_option linter.unusedVariables false
set_option linter.unusedSimpArgs false
namespace Go.Proofs.Ytnohhmopiflboaa.Nod
open Go.RowKit Go.Proofs.Ytnohhmopiflboaa.Base Go.Proofs.Ytnohhmopiflboaa.Byt Go.Proofs.Ytnohhmopiflboaa.Rd Go.Proofs.Ytnohhmopiflboaa.App

theorem pad_m (B : Nat) (A : Option Addr) (m c : Nat) (xs : PB) (w : World) (h : OwnM w B A m c xs) (hB : B ≤ w.heap.size) (hl : m ≤ 508) :
    Calls Try.prog 38 #[.slice A m c] w fun e w' => ∃ A' c', e = .returned (.slice A' 508 c') ∧ OwnM w' B A' 508 c' (padB xs) ∧ Below B w w' := by
  have hm := h.len
  refine (pad_calls B _ xs w h.own hB (by omega)).mono ?_
  rintro e w' ⟨v', rfl, ho, hb⟩
  obtain ⟨A', c', rfl⟩ := own_form ho
  have he : (xs ++ noughts (508 - xs.length)).length = 508 := by simp [noughts]; omega
  rw [he] at ho ⊢
  exact ⟨A', c', rfl, own_m ho he.symm, hb⟩

set_option maxRecDepth 100000 in
set_option maxHeartbeats 3200000 in
theorem rencode_leaf (v1 v2 v3 : Value) (x : PNode) (w : World) (h : rNode w [.bool true, v1, v2, v3] x) :
    Calls Try.prog 13 #[.agg #[.bool true, v1, v2, v3]] w (Encodes w x) := by
  have HR := Asd.mk h
  obtain ⟨A1, n1, c1, A2, n2, c2, A3, n3, c3, hv0, rfl, rfl, rfl, hna⟩ := node_of h
  have HNA := Asd.mk hna
  have HX0 : Asd (x.1 = true) := Asd.mk (by injection hv0 with h0; exact h0.symm)
  have HSN := Asd.mk hna.sane
  have hl1 := Asd.mk hna.cells.1
  clear h hna hv0
  by_cases hz : checkN x = 0
  · obtain ⟨hlen, hlen2, hcnt⟩ := leaf_len hz HSN.out HX0.out
    have HLR := Asd.mk (leaf_right (checkN_zero hz).1 HX0.out)
    have HZ := Asd.mk hz
    have HBD : Asd (bodyB x = 1 :: le2 x.2.1.length ++ (x.2.1.map cellB).flatten) := Asd.mk (by simp [bodyB, headB, partsB, HX0.out])
    have hn1 : 3 * n1 ≤ 508 := by rw [hl1.out] at hcnt; exact hcnt
    generalize hL : x.2.1.map cellB = L at hlen2 HBD
    have HL := Asd.mk hL
    have hLl : L.length = n1 := by rw [← hL, List.length_map, hl1.out]
    have hfl : (L.flatten).length ≤ 505 := by omega
    clear hz hlen hlen2 hcnt hL
    go_enter Try.func13, Try.ntmps13
    go_wp2_with fail
    refine (rcheck_calls _ _ _ _ x _ (lasts_node _ _ _ _ (Box.start (w := w) (u := #[.bool true, .slice A1 n1 c1, .slice A2 n2 c2, .slice A3 n3 c3]) (t := 26)).below HR.out)).mono ?_
    rintro e w1 ⟨rfl, hb1⟩
    have HBX := Asd.mk ((Box.start (w := w) (u := #[.bool true, .slice A1 n1 c1, .slice A2 n2 c2, .slice A3 n3 c3]) (t := 26)).old hb1)
    rw [HZ.out]
    have p0 := (blk_cell HBX.out.n 0).trans rfl
    have p1 := (blk_cell HBX.out.n 1).trans rfl
    have hs1 : w.heap.size < w1.heap.size := blk_lt HBX.out.n
    have HOW1 : Asd (OwnM (w1.alloc (.cells #[.int .u8 1] 5)) w.heap.size (some ⟨w1.heap.size, 0, none⟩) 1 1 [1]) := Asd.mk (own_m (own_made (xs := [1]) (blk_new w1 _) (by omega) (by simp)) rfl)
    clear hb1
    have HF1 : Asd (Feeds ((w1.alloc (.cells #[.int .u8 1] 5)).alloc (.cells (bcells (le2 n1)).toArray 5)) (some ⟨w1.heap.size + 1, 0, none⟩) 2 2 1 (bcells (le2 n1))) := Asd.mk (by
      have e : (w1.alloc (.cells #[.int .u8 1] 5)).heap.size = w1.heap.size + 1 := by simp
      have hb := blk_new (w1.alloc (.cells #[.int .u8 1] 5)) (.cells (bcells (le2 n1)).toArray 5)
      rw [e] at hb
      exact feeds_two hb)
    go_wp2_with fail
    refine (rtwo_calls n1 _ (by omega) (by omega)).mono ?_
    rintro e w2' ⟨rfl, rfl⟩
    go_wp2_with (at_builtin; refine wpList_bytes rfl (.tmp 64) (.tmp 68) rfl w.heap.size (some ⟨w1.heap.size, 0, none⟩) 1 1 rfl (HOW1.out.alloc _) (some ⟨w1.heap.size + 1, 0, none⟩) 2 2 rfl HF1.out (by omega) (by simp; omega) ?_)
    intro A2' c2' w2 ho2 hg2
    have HO2 := Asd.mk ho2
    have HBX2 := Asd.mk (((HBX.out.alloc (.cells #[.int .u8 1] 5)).alloc _).grew hg2 (by decide))
    have p1 := (blk_cell HBX2.out.n 1).trans rfl
    clear ho2 hg2
    go_wp2
    go_loopw [7, 8] (fun u i wr => ∃ (k m : Nat) (A : Option Addr) (c : Nat), k ≤ n1 ∧ i = .int .i64 (k : Int) ∧ u = .slice A m c ∧ Asd (OwnM wr w.heap.size A m c (1 :: le2 x.2.1.length ++ (L.take k).flatten)) ∧ Asd (Box w wr #[.bool true, .slice A1 n1 c1, .slice A2 n2 c2, .slice A3 n3 c3] 26)) (fun _ i _ => n1 - (intOf i).toNat)
    case atStart =>
      refine ⟨0, _, _, _, by omega, rfl, rfl, ⟨?_⟩, HBX2⟩
      have := HO2.out
      rw [hl1.out]
      simpa using this
    case round =>
      obtain ⟨k, m, A, c, hk, rfl, rfl, HO, HB⟩ := hrel
      have HLM := Asd.mk HO.out.len
      have p1 := (blk_cell HB.out.n 1).trans rfl
      by_cases hlt : k < n1
      · have hkl : k < x.2.1.length := by rw [hl1.out]; exact hlt
        obtain ⟨b, o, Ak, nk, ck, Av, nv, cv, rfl, hbl, q0, q1, q2, q3, ib0, ib1, zk, zv, hnk, hnv⟩ := cell_at HNA.out.cells k hkl
        replace q0 := (HB.out.below.cell (p := ⟨b, o + k * 4, none⟩) hbl).trans q0
        replace q1 := (HB.out.below.cell (p := ⟨b, o + k * 4 + 1, none⟩) hbl).trans q1
        replace q2 := (HB.out.below.cell (p := ⟨b, o + k * 4 + 2, none⟩) hbl).trans q2
        replace q3 := (HB.out.below.cell (p := ⟨b, o + k * 4 + 3, none⟩) hbl).trans q3
        have hok := HLR.out.cells _ (List.getElem_mem hkl)
        have hts := flatten_snoc L k (by omega)
        have hfk := flatten_take_le L k
        have hlk : L[k]'(by omega) = cellB x.2.1[k] := by have := HL.out; subst this; simp
        rw [hlk] at hts
        generalize x.2.1[k] = cell at hts hok q2 q3 ib0 ib1
        obtain ⟨key, val, over, size⟩ := cell
        simp only [cellOk, cRight, Bool.and_eq_true, Bool.or_eq_true, decide_eq_true_eq] at hok
        dsimp only at ib0 ib1
        have hsize : 0 ≤ size := by omega
        have hsize2 : size ≤ 1000000000 := by omega
        have hover : 0 ≤ over := by rcases hok.2 with h | h; omega; (have := h.1; simp [isPage] at this; omega)
        have hover2 : over ≤ 1000000000 := by rcases hok.2 with h | h; omega; (have := h.1; simp [isPage] at this; omega)
        have hnk2 : nk ≤ 128 := by have := hok.1; have := ib0.1; omega
        have hnv2 : nv ≤ 64 := by have := ib1.1; omega
        have hm1 : m ≤ 508 := by
          have h1 := HLM.out
          simp only [List.length_append, List.length_cons, le2_len, List.cons_append] at h1
          omega
        have HTS := Asd.mk hts
        have HIB0 := Asd.mk ib0
        have HIB1 := Asd.mk ib1
        have HZK := Asd.mk zk
        have HZV := Asd.mk zv
        clear ib0 ib1 zk zv hts hok hfk hlk
        simp only at q2 q3
        go_upto_region 17 with fail
        have HCB := Asd.mk (blk_new wr (.cells #[.slice Ak nk ck, .slice Av nv cv, .int .i64 over, .int .i64 size] 78))
        have HB1 := Asd.mk (HB.out.alloc (.cells #[.slice Ak nk ck, .slice Av nv cv, .int .i64 over, .int .i64 size] 78))
        have HO1 := Asd.mk (HO.out.alloc (.cells #[.slice Ak nk ck, .slice Av nv cv, .int .i64 over, .int .i64 size] 78))
        have HF0 := Asd.mk (src_bytes HIB0.out HZK.out)
        have HF1 := Asd.mk (src_bytes HIB1.out HZV.out)
        generalize wr.alloc (.cells #[.slice Ak nk ck, .slice Av nv cv, .int .i64 over, .int .i64 size] 78) = W1 at HCB HB1 HO1 ⊢
        have HS : Asd (∀ w', Grew w.heap.size W1 w' → w'.cell? ⟨wr.heap.size, 0, none⟩ = some (.slice Ak nk ck) ∧ w'.cell? ⟨wr.heap.size, 3, none⟩ = some (.int .i64 size)) := Asd.mk fun w' hg =>
          ⟨(blk_cell (hg.keep _ (by decide) _ _ _ HCB.out) 0).trans rfl, (blk_cell (hg.keep _ (by decide) _ _ _ HCB.out) 3).trans rfl⟩
        have HBS : Asd (w.heap.size ≤ W1.heap.size) := Asd.mk HB1.out.below.size
        clear q0 q1 q2 q3
        go_region_held3 (fun w' => w'.cell? ⟨wr.heap.size, 0, none⟩ = some (.slice Ak nk ck) ∧ w'.cell? ⟨wr.heap.size, 3, none⟩ = some (.int .i64 size))
          (first
            | exact HS.out _ HG4.out
            | exact HS.out _ HG3.out
            | exact HS.out _ (HG3.out.alloc HBS.out _)
            | exact HS.out _ HG2.out
            | exact HS.out _ ((Grew.refl _ _).drew.alloc HBS.out _)
            | exact HS.out _ (Grew.refl _ _).drew
            | fail)
          (first
            | (refine step_bytes (by rfl) _ _ (by rfl) w.heap.size A m c (by rfl) (HO1.out.drew.alloc _) (some ⟨W1.heap.size, 0, none⟩) 1 1 (by rfl) (feeds_one nk (blk_new _ _)) (by omega) (Nat.le_trans HBS.out (by simp)) ?_
               intro P2 d2 w2 hown2 hgr2
               have HOW2 := Asd.mk hown2
               have HG2 : Asd (Grew w.heap.size W1 w2) := Asd.mk (((Grew.refl _ W1).drew.alloc HBS.out _).trans hgr2)
               clear hown2 hgr2)
            | (refine step_bytes (by rfl) _ _ (by rfl) w.heap.size P2 (m + 1) d2 (by rfl) HOW2.out Ak nk ck (by rfl) (HF0.out.below (HB1.out.below.trans HG2.out.below)) (by omega) (Nat.le_trans HBS.out HG2.out.below.size) ?_
               intro P3 d3 w3 hown2 hgr2
               have HOW3 := Asd.mk hown2
               have HG3 : Asd (Grew w.heap.size W1 w3) := Asd.mk (HG2.out.trans hgr2)
               clear hown2 hgr2)
            | (go_at_call 37
               refine (rtwo_calls size w3 hsize hsize2).mono ?_
               rintro e w3' ⟨rfl, rfl⟩)
            | (refine step_bytes (by rfl) _ _ (by rfl) w.heap.size P3 (m + 1 + nk) d3 (by rfl) (HOW3.out.alloc _) (some ⟨w3.heap.size, 0, none⟩) 2 2 (by rfl) (feeds_two (blk_new w3 _)) (by omega) (Nat.le_trans HBS.out (Nat.le_trans HG3.out.below.size (by simp))) ?_
               intro P4 d4 w4 hown4 hgr4
               have HOW4 := Asd.mk hown4
               have HG4 : Asd (Grew w.heap.size W1 w4) := Asd.mk ((HG3.out.alloc HBS.out _).trans hgr4)
               clear hown4 hgr4)
            | fail)
        have k2 := (blk_cell (HG4.out.keep _ (by decide) _ _ _ HCB.out) 2).trans rfl
        have HB4 := Asd.mk (HB1.out.grew HG4.out (by decide))
        have k1 := (blk_cell (HG4.out.keep _ (by decide) _ _ _ HCB.out) 1).trans rfl
        have HF4 := Asd.mk (HF1.out.below HB4.out.below)
        have HBS4 : Asd (w.heap.size ≤ w4.heap.size) := Asd.mk HB4.out.below.size
        clear HOW2 HOW3 HG2 HG3 HCB HS
        by_cases ho : over = 0
        · subst ho
          go_wp2_with (at_builtin; refine wpList_bytes rfl (.tmp 104) (.tmp 106) rfl w.heap.size P4 (m + 1 + nk + 2) d4 rfl HOW4.out Av nv cv rfl HF4.out (by omega) HBS4.out ?_)
          intro P5 d5 w5 hown5 hgr5
          have HOW5 := Asd.mk hown5
          have HB5 := Asd.mk (HB4.out.grew hgr5 (by decide))
          clear hown5 hgr5
          go_wp2
          go_roundw
          case rel =>
            refine ⟨k + 1, m + 1 + nk + 2 + nv, P5, d5, by omega, by go_num, rfl, ⟨?_⟩, HB5⟩
            have e := HOW5.out
            rw [HTS.out, cellB, if_pos rfl]
            have hln := HIB0.out.1
            simpa [List.append_assoc, hln] using e
          case measure => simp [intOf]; omega
        · have ho2 : (over != 0) = true := by rw [bne_iff_ne]; exact ho
          have HNE := Asd.mk ho
          clear ho
          have HF5 : Asd (Feeds (w4.alloc (.cells (bcells (le2 over)).toArray 5)) (some ⟨w4.heap.size, 0, none⟩) 2 2 1 (bcells (le2 over))) := Asd.mk (feeds_two (blk_new w4 _))
          go_wp2_with fail
          refine (rtwo_calls over w4 hover hover2).mono ?_
          rintro e w5' ⟨rfl, rfl⟩
          go_wp2_with (at_builtin; refine wpList_bytes rfl (.tmp 99) (.tmp 102) rfl w.heap.size P4 (m + 1 + nk + 2) d4 rfl (HOW4.out.alloc _) (some ⟨w4.heap.size, 0, none⟩) 2 2 rfl HF5.out (by omega) (Nat.le_trans HBS4.out (by simp)) ?_)
          intro P5 d5 w5 hown5 hgr5
          have HOW5 := Asd.mk hown5
          have HB5 := Asd.mk ((HB4.out.alloc _).grew hgr5 (by decide))
          clear hown5 hgr5
          go_wp2
          go_roundw
          case rel =>
            refine ⟨k + 1, m + 1 + nk + 2 + 2, P5, d5, by omega, by go_num, rfl, ⟨?_⟩, HB5⟩
            have e := HOW5.out
            rw [HTS.out, cellB, if_neg HNE.out]
            have hln := HIB0.out.1
            simpa [List.append_assoc, hln] using e
          case measure => simp [intOf]; omega
      · have hkn : L.take k = L := List.take_of_length_le (by omega)
        rw [hkn] at HO
        have hmm : m ≤ 508 ∧ 0 < m := by
          have h1 := HLM.out
          rw [hkn] at h1
          simp only [List.length_append, List.length_cons, le2_len, List.cons_append] at h1
          omega
        have hm1 := hmm.1
        have hm0 := hmm.2
        clear hkn hmm
        go_wp2_with fail
        refine (pad_m w.heap.size A m c _ wr HO.out HB.out.below.size hm1).mono ?_
        rintro e w5 ⟨P5, d5, rfl, hown5, hgr5⟩
        have HOW5 := Asd.mk hown5
        have HB5 := Asd.mk (HB.out.below.trans hgr5)
        clear hown5 hgr5
        go_wp2
        go_ret2
        refine ⟨.slice P5 508 d5, ret_eq (by rw [HZ.out]; rfl), ?_, HB5.out⟩
        have e := HOW5.out.own
        rw [encB, if_pos HZ.out, HBD.out]
        exact e
  · have HZ := Asd.mk hz
    have hz2 : (checkN x != 0) = true := by rw [bne_iff_ne]; exact hz
    clear hz
    go_enter Try.func13, Try.ntmps13
    go_wp2_with fail
    refine (rcheck_calls _ _ _ _ x _ (lasts_node _ _ _ _ (Box.start (w := w) (u := #[.bool true, .slice A1 n1 c1, .slice A2 n2 c2, .slice A3 n3 c3]) (t := 26)).below HR.out)).mono ?_
    rintro e w1 ⟨rfl, hb1⟩
    have HBX := Asd.mk ((Box.start (w := w) (u := #[.bool true, .slice A1 n1 c1, .slice A2 n2 c2, .slice A3 n3 c3]) (t := 26)).old hb1)
    have HE : Asd (encB x = []) := Asd.mk (by rw [encB, if_neg HZ.out])
    clear hb1
    generalize hzz : checkN x = z at hz2 ⊢
    have HZZ := Asd.mk hzz
    clear hzz
    go_wp2
    go_ret2
    exact ⟨.slice none 0 0, ret_eq (by rw [HZZ.out]; rfl), by rw [HE.out]; exact World.ownsRow_nil _ _ _ _, HBX.out.below⟩
end Go.Proofs.Ytnohhmopiflboaa.Nod
