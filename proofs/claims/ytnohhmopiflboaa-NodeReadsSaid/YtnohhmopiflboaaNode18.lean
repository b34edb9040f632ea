/- node.Encode: an inner node's load. -/
import Derived.Test.YtnohhmopiflboaaNode17
set_option linter.unusedVariables false
set_option linter.unusedSimpArgs false
namespace Go.Proofs.Ytnohhmopiflboaa.Nod
open Go.RowKit Go.Proofs.Ytnohhmopiflboaa.Base Go.Proofs.Ytnohhmopiflboaa.Byt Go.Proofs.Ytnohhmopiflboaa.Rd Go.Proofs.Ytnohhmopiflboaa.App

/-- A row of parts: the bytes laid so far are the head and the first k parts; there is room for one more. -/
theorem inner_part {x : PNode} (hr : InnerRight x) (k : Nat) (hk : k < x.2.2.1.length) : (List.zipWith keyB x.2.2.1 x.2.2.2.tail)[k]'(by have := hr.kids; simp; omega) = keyB x.2.2.1[k] (x.2.2.2[k + 1]'(by have := hr.kids; omega)) := by
  simp
theorem page_pos {p : Int} (h : isPage p = true) : 0 ≤ p ∧ p < 4096 := by simp [isPage] at h; omega

set_option maxRecDepth 100000 in
set_option maxHeartbeats 3200000 in
theorem encode_inner (v1 v2 v3 : Value) (x : PNode) (w : World) (h : rNode w [.bool false, v1, v2, v3] x) :
    Calls Try.prog 12 #[.agg #[.bool false, v1, v2, v3]] w (Encodes w x) := by
  have HR := Asd.mk h
  obtain ⟨A1, n1, c1, A2, n2, c2, A3, n3, c3, hv0, rfl, rfl, rfl, hna⟩ := node_of h
  have HNA := Asd.mk hna
  have HX0 : Asd (x.1 = false) := Asd.mk (by injection hv0 with h0; exact h0.symm)
  have HSN := Asd.mk hna.sane
  have hl2 := Asd.mk hna.keys.1
  have hl3 := Asd.mk hna.kids.1
  clear h hna hv0
  by_cases hz : checkN x = 0
  · obtain ⟨hlen, hlen2, hcnt⟩ := inner_len hz HSN.out HX0.out
    have HIR := Asd.mk (inner_right (checkN_zero hz).1 HX0.out)
    have HZ := Asd.mk hz
    have hkid : 0 < x.2.2.2.length := by have := HIR.out.kids; omega
    have HBD : Asd (bodyB x = (2 : UInt8) :: (le2 x.2.2.1.length ++ le2 x.2.2.2[0]) ++ (List.zipWith keyB x.2.2.1 x.2.2.2.tail).flatten) := Asd.mk (by
      have e : x.2.2.2.headD 0 = x.2.2.2[0] := by rw [List.headD_eq_head?_getD, List.head?_eq_getElem?]; simp [hkid]
      simp only [bodyB, headB, partsB, HX0.out, Bool.false_eq_true, if_false, e])
    have hn2 : 3 * n2 ≤ 508 := by rw [hl2.out] at hcnt; exact hcnt
    have hn3 : n3 = n2 + 1 := by have := HIR.out.kids; rw [hl2.out, hl3.out] at this; exact this
    have hLl : (List.zipWith keyB x.2.2.1 x.2.2.2.tail).length = n2 := by have := HIR.out.kids; have := hl2.out; simp; omega
    generalize hL : List.zipWith keyB x.2.2.1 x.2.2.2.tail = L at hlen2 HBD hLl
    have HP : Asd (∀ k (hk : k < x.2.2.1.length) (hk2 : k + 1 < x.2.2.2.length) (hk3 : k < L.length), L[k] = keyB x.2.2.1[k] x.2.2.2[k + 1]) := Asd.mk (by subst hL; intro k hk hk2 hk3; simp)
    clear hL
    have hfl : (L.flatten).length ≤ 503 := by omega
    obtain ⟨b3, o3, rfl, hbl3, q3, hr1, hr2⟩ := kid_at HNA.out.kids 0 hkid
    clear hr1 hr2
    have hpk := page_pos (HIR.out.pages _ (List.getElem_mem hkid))
    generalize x.2.2.2[0] = kid0 at HBD q3 hpk
    have hi0 : (0 : Int) < (n3 : Int) := by omega
    have hi00 : 0 < n3 := by omega
    have hkid0 := hpk.1
    have HQ3 := Asd.mk q3
    have HN3 := Asd.mk hn3
    clear hz hlen hlen2 hcnt hkid hpk q3 hn3
    go_enter Try.func12, Try.ntmps12
    go_wp2_with fail
    refine (check_calls _ _ _ _ x _ (lasts_node _ _ _ _ (Box.start (w := w) (u := #[.bool false, .slice A1 n1 c1, .slice A2 n2 c2, .slice (some ⟨b3, o3, none⟩) n3 c3]) (t := 29)).below HR.out)).mono ?_
    rintro e w1 ⟨rfl, hb1⟩
    have HBX := Asd.mk ((Box.start (w := w) (u := #[.bool false, .slice A1 n1 c1, .slice A2 n2 c2, .slice (some ⟨b3, o3, none⟩) n3 c3]) (t := 29)).old hb1)
    rw [HZ.out]
    have p0 := (blk_cell HBX.out.n 0).trans rfl
    have hs1 : w.heap.size < w1.heap.size := blk_lt HBX.out.n
    clear hb1
    go_upto_region 5 with fail
    have HS : Asd (∀ w', Grew w.heap.size w1 w' → w'.cell? ⟨w.heap.size, 2, none⟩ = some (.slice A2 n2 c2) ∧ w'.cell? ⟨w.heap.size, 3, none⟩ = some (.slice (some ⟨b3, o3, none⟩) n3 c3) ∧ w'.cell? ⟨b3, o3 + 0, none⟩ = some (.int .i64 kid0)) := Asd.mk fun w' hg =>
      have hbx := HBX.out.grew hg (by decide)
      ⟨(blk_cell hbx.n 2).trans rfl, (blk_cell hbx.n 3).trans rfl, (hbx.below.cell (p := ⟨b3, o3 + 0, none⟩) hbl3).trans HQ3.out⟩
    have HBS : Asd (w.heap.size ≤ w1.heap.size) := Asd.mk HBX.out.below.size
    simp only [Nat.add_zero] at HS
    clear p0
    go_region_held3 (fun w' => w'.cell? ⟨w.heap.size, 2, none⟩ = some (.slice A2 n2 c2) ∧ w'.cell? ⟨w.heap.size, 3, none⟩ = some (.slice (some ⟨b3, o3, none⟩) n3 c3) ∧ w'.cell? ⟨b3, o3, none⟩ = some (.int .i64 kid0))
      (first
        | exact HS.out _ HG3.out
        | exact HS.out _ HG2.out
        | exact HS.out _ ((Grew.refl _ _).drew.alloc HBS.out _)
        | exact HS.out _ (Grew.refl _ _).drew
        | fail)
      (first
        | (go_at_call_of 35 (Value.slice (some ⟨w1.heap.size, 0, none⟩) 1 1)
           refine (two_m w.heap.size (some ⟨w1.heap.size, 0, none⟩) 1 1 [2] n2 (w1.drew.alloc _) (own_m (own_made (xs := [2]) (blk_new w1.drew _) HBS.out (by simp)) rfl) (Nat.le_trans HBS.out (by simp)) (by omega) (by omega)).mono ?_
           rintro e w2 ⟨P2, d2, rfl, hown2, hgr2⟩
           have HOW2 := Asd.mk hown2
           have HG2 : Asd (Grew w.heap.size w1 w2) := Asd.mk (((Grew.refl _ w1).drew.alloc HBS.out _).trans hgr2)
           clear hown2 hgr2)
        | (go_at_call_of 35 (Value.slice P2 3 d2)
           refine (two_m w.heap.size P2 3 d2 ([2] ++ le2 n2) kid0 w2 HOW2.out (Nat.le_trans HBS.out HG2.out.below.size) (by omega) hkid0).mono ?_
           rintro e w3 ⟨P3, d3, rfl, hown3, hgr3⟩
           have HOW3 := Asd.mk hown3
           have HG3 : Asd (Grew w.heap.size w1 w3) := Asd.mk (HG2.out.trans hgr3)
           clear hown3 hgr3)
        | fail)
    have HB3 := Asd.mk (HBX.out.grew HG3.out (by decide))
    have p2 := (blk_cell HB3.out.n 2).trans rfl
    clear HOW2 HG2 HS HBS HG3 HBX hs1
    go_wp2
    go_loopw [5, 32] (fun u i wr => ∃ (k m : Nat) (A : Option Addr) (c : Nat), k ≤ n2 ∧ i = .int .i64 (k : Int) ∧ u = .slice A m c ∧ Asd (OwnM wr w.heap.size A m c ((2 : UInt8) :: (le2 x.2.2.1.length ++ le2 kid0) ++ (L.take k).flatten)) ∧ Asd (Box w wr #[.bool false, .slice A1 n1 c1, .slice A2 n2 c2, .slice (some ⟨b3, o3, none⟩) n3 c3] 29)) (fun _ i _ => n2 - (intOf i).toNat)
    case atStart =>
      refine ⟨0, _, _, _, by omega, rfl, rfl, ⟨?_⟩, HB3⟩
      have := HOW3.out
      rw [hl2.out]
      simpa using this
    case round =>
      obtain ⟨k, m, A, c, hk, rfl, rfl, HO, HB⟩ := hrel
      have HLM := Asd.mk HO.out.len
      by_cases hlt : k < n2
      · have hkl : k < x.2.2.1.length := by rw [hl2.out]; exact hlt
        have hkl2 : k + 1 < x.2.2.2.length := by rw [hl3.out, HN3.out]; omega
        obtain ⟨b, o, Ak, nk, ck, rfl, hbl, q0, ib0, zk, hnk⟩ := key_at HNA.out.keys k hkl
        obtain ⟨b3', o3', hA, hr0, q3, hr1, hr2⟩ := kid_at HNA.out.kids (k + 1) hkl2
        clear hr0 hr1 hr2
        cases hA
        replace q0 := (HB.out.below.cell (p := ⟨b, o + k, none⟩) hbl).trans q0
        replace q3 := (HB.out.below.cell (p := ⟨b3, o3 + (k + 1), none⟩) hbl3).trans q3
        have hok := HIR.out.keys _ (List.getElem_mem hkl)
        have hpk := (page_pos (HIR.out.pages _ (List.getElem_mem hkl2))).1
        have hts := flatten_snoc L k (by omega)
        have hfk := flatten_take_le L k
        rw [HP.out k hkl hkl2] at hts
        generalize x.2.2.1[k] = key at hts hok ib0
        generalize x.2.2.2[k + 1] = kid at hts hpk q3
        simp only [keyOk, decide_eq_true_eq] at hok
        have hnk2 : nk ≤ 128 := by have := ib0.1; omega
        have hm1 : m ≤ 508 := by
          have h1 := HLM.out
          simp only [List.length_append, List.length_cons, le2_len, List.cons_append] at h1
          omega
        have HTS := Asd.mk hts
        have HF0 := Asd.mk (src_bytes ib0 zk)
        have HLN := Asd.mk ib0.1
        clear ib0 zk hts hok hfk
        have hi1 : (0 : Int) ≤ (k : Int) + 1 := by omega
        have hi2 : (k : Int) + 1 < (n3 : Int) := by have := HN3.out; omega
        go_upto_region 9 with fail
        have HBS : Asd (w.heap.size ≤ wr.heap.size) := Asd.mk HB.out.below.size
        have HKC : Asd (∀ w', Below w.heap.size w w' → w'.cell? ⟨b3, o3 + (k + 1), none⟩ = some (.int .i64 kid)) := Asd.mk fun w' hb => by
          have e1 := hb.cell (p := ⟨b3, o3 + (k + 1), none⟩) hbl3
          have e2 := HB.out.below.cell (p := ⟨b3, o3 + (k + 1), none⟩) hbl3
          rw [e1, ← e2]; exact q3
        have HS : Asd (∀ w', Grew w.heap.size wr w' → w'.cell? ⟨w.heap.size, 3, none⟩ = some (.slice (some ⟨b3, o3, none⟩) n3 c3) ∧ w'.cell? ⟨b3, o3 + (k + 1), none⟩ = some (.int .i64 kid)) := Asd.mk fun w' hg =>
          have hbx := HB.out.grew hg (by decide)
          ⟨(blk_cell hbx.n 3).trans rfl, HKC.out _ hbx.below⟩
        have hw : IntKind.i64.wrap ((k : Int) + 1) = (k : Int) + 1 := by rw [IntKind.wrap_i64]; omega
        have hi3 : k + 1 < n3 := by have := HN3.out; omega
        clear q0 q3
        go_region_held3 (fun w' => w'.cell? ⟨w.heap.size, 3, none⟩ = some (.slice (some ⟨b3, o3, none⟩) n3 c3) ∧ w'.cell? ⟨b3, o3 + (k + 1), none⟩ = some (.int .i64 kid))
          (first
            | exact HS.out _ HG4.out
            | exact HS.out _ HG3.out
            | exact HS.out _ HG2.out
            | exact HS.out _ ((Grew.refl _ _).drew.alloc HBS.out _)
            | exact HS.out _ (Grew.refl _ _).drew
            | fail)
          (first
            | (refine step_bytes (by rfl) _ _ (by rfl) w.heap.size A m c (by rfl) (HO.out.drew.alloc _) (some ⟨wr.heap.size, 0, none⟩) 1 1 (by rfl) (feeds_one nk (blk_new _ _)) (by omega) (Nat.le_trans HBS.out (by simp)) ?_
               intro P2 d2 w2 hown2 hgr2
               have HOW2 := Asd.mk hown2
               have HG2 : Asd (Grew w.heap.size wr w2) := Asd.mk (((Grew.refl _ wr).drew.alloc HBS.out _).trans hgr2)
               clear hown2 hgr2)
            | (refine step_bytes (by rfl) _ _ (by rfl) w.heap.size P2 (m + 1) d2 (by rfl) HOW2.out Ak nk ck (by rfl) (HF0.out.below (HB.out.below.trans HG2.out.below)) (by omega) (Nat.le_trans HBS.out HG2.out.below.size) ?_
               intro P3 d3 w3 hown2 hgr2
               have HOW3 := Asd.mk hown2
               have HG3 : Asd (Grew w.heap.size wr w3) := Asd.mk (HG2.out.trans hgr2)
               clear hown2 hgr2)
            | (go_at_call 35
               refine (two_m w.heap.size P3 (m + 1 + nk) d3 _ kid w3 HOW3.out (Nat.le_trans HBS.out HG3.out.below.size) (by omega) hpk).mono ?_
               rintro e w4 ⟨P4, d4, rfl, hown4, hgr4⟩
               have HOW4 := Asd.mk hown4
               have HG4 : Asd (Grew w.heap.size wr w4) := Asd.mk (HG3.out.trans hgr4)
               clear hown4 hgr4)
            | fail)
        have HB4 := Asd.mk (HB.out.grew HG4.out (by decide))
        clear HOW2 HOW3 HG2 HG3 HS HKC
        go_wp2
        go_roundw
        case rel =>
          refine ⟨k + 1, m + 1 + nk + 2, P4, d4, by omega, by go_num, rfl, ⟨?_⟩, HB4⟩
          have e := HOW4.out
          rw [HTS.out, keyB]
          have hln := HLN.out
          simpa [List.append_assoc, hln] using e
        case measure => simp [intOf]; omega
      · have hkn : L.take k = L := List.take_of_length_le (by omega)
        rw [hkn] at HO
        have hmm : m ≤ 508 ∧ 0 < m := by
          have h1 := HLM.out
          rw [hkn] at h1
          simp only [List.length_append, List.length_cons, le2_len, List.cons_append] at h1
          omega
        have hm1 := hmm.1
        have hm0 := hmm.2
        clear hkn hmm
        go_wp2_with fail
        refine (padded_m w.heap.size A m c _ wr HO.out HB.out.below.size hm0 hm1).mono ?_
        rintro e w5 ⟨P5, d5, rfl, hown5, hgr5⟩
        have HOW5 := Asd.mk hown5
        have HB5 := Asd.mk (HB.out.grew hgr5 (by decide))
        clear hown5 hgr5
        go_wp2
        go_ret2
        refine ⟨.slice P5 508 d5, ret_eq (by rw [HZ.out]; rfl), ?_, HB5.out.below⟩
        have e := HOW5.out.own
        rw [encB, if_pos HZ.out, HBD.out]
        exact e
  · have HZ := Asd.mk hz
    have hz2 : (checkN x != 0) = true := by rw [bne_iff_ne]; exact hz
    clear hz
    go_enter Try.func12, Try.ntmps12
    go_wp2_with fail
    refine (check_calls _ _ _ _ x _ (lasts_node _ _ _ _ (Box.start (w := w) (u := #[.bool false, .slice A1 n1 c1, .slice A2 n2 c2, .slice A3 n3 c3]) (t := 29)).below HR.out)).mono ?_
    rintro e w1 ⟨rfl, hb1⟩
    have HBX := Asd.mk ((Box.start (w := w) (u := #[.bool false, .slice A1 n1 c1, .slice A2 n2 c2, .slice A3 n3 c3]) (t := 29)).old hb1)
    have HE : Asd (encB x = []) := Asd.mk (by rw [encB, if_neg HZ.out])
    clear hb1
    generalize hzz : checkN x = z at hz2 ⊢
    have HZZ := Asd.mk hzz
    clear hzz
    go_wp2
    go_ret2
    exact ⟨.slice none 0 0, ret_eq (by rw [HZZ.out]; rfl), by rw [HE.out]; exact World.ownsRow_nil _ _ _ _, HBX.out.below⟩

theorem encode_calls (v0 v1 v2 v3 : Value) (x : PNode) (w : World) (h : rNode w [v0, v1, v2, v3] x) :
    Calls Try.prog 12 #[.agg #[v0, v1, v2, v3]] w (Encodes w x) := by
  have h2 := h
  obtain ⟨A1, n1, c1, A2, n2, c2, A3, n3, c3, rfl, rfl, rfl, rfl, hna⟩ := node_of h
  cases hx : x.1 with
  | true => rw [hx] at h2; exact encode_leaf _ _ _ x w h2
  | false => rw [hx] at h2; exact encode_inner _ _ _ x w h2
end Go.Proofs.Ytnohhmopiflboaa.Nod
