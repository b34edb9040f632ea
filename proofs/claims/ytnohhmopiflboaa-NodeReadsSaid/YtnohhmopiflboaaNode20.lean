/- The reference's Encode: an inner node's load. -/
import Derived.Test.YtnohhmopiflboaaNode19
set_option linter.unusedVariables false
set_option linter.unusedSimpArgs false
namespace Go.Proofs.Ytnohhmopiflboaa.Nod
open Go.RowKit Go.Proofs.Ytnohhmopiflboaa.Base Go.Proofs.Ytnohhmopiflboaa.Byt Go.Proofs.Ytnohhmopiflboaa.Rd Go.Proofs.Ytnohhmopiflboaa.App

set_option maxRecDepth 100000 in
set_option maxHeartbeats 3200000 in
theorem rencode_inner (v1 v2 v3 : Value) (x : PNode) (w : World) (h : rNode w [.bool false, v1, v2, v3] x) :
    Calls Try.prog 13 #[.agg #[.bool false, v1, v2, v3]] w (Encodes w x) := by
  have HR := Asd.mk h
  obtain ⟨A1, n1, c1, A2, n2, c2, A3, n3, c3, hv0, rfl, rfl, rfl, hna⟩ := node_of h
  have HNA := Asd.mk hna
  have HX0 : Asd (x.1 = false) := Asd.mk (by injection hv0 with h0; exact h0.symm)
  have HSN := Asd.mk hna.sane
  have hl2 := Asd.mk hna.keys.1
  have hl3 := Asd.mk hna.kids.1
  clear h hna hv0
  by_cases hz : checkN x = 0
  · obtain ⟨hlen, hlen2, hcnt⟩ := inner_len hz HSN.out HX0.out
    have HIR := Asd.mk (inner_right (checkN_zero hz).1 HX0.out)
    have HZ := Asd.mk hz
    have hkid : 0 < x.2.2.2.length := by have := HIR.out.kids; omega
    have HBD : Asd (bodyB x = (2 : UInt8) :: (le2 x.2.2.1.length ++ le2 x.2.2.2[0]) ++ (List.zipWith keyB x.2.2.1 x.2.2.2.tail).flatten) := Asd.mk (by
      have e : x.2.2.2.headD 0 = x.2.2.2[0] := by rw [List.headD_eq_head?_getD, List.head?_eq_getElem?]; simp [hkid]
      simp only [bodyB, headB, partsB, HX0.out, Bool.false_eq_true, if_false, e])
    have hn2 : 3 * n2 ≤ 508 := by rw [hl2.out] at hcnt; exact hcnt
    have hn3 : n3 = n2 + 1 := by have := HIR.out.kids; rw [hl2.out, hl3.out] at this; exact this
    have hLl : (List.zipWith keyB x.2.2.1 x.2.2.2.tail).length = n2 := by have := HIR.out.kids; have := hl2.out; simp; omega
    generalize hL : List.zipWith keyB x.2.2.1 x.2.2.2.tail = L at hlen2 HBD hLl
    have HP : Asd (∀ k (hk : k < x.2.2.1.length) (hk2 : k + 1 < x.2.2.2.length) (hk3 : k < L.length), L[k] = keyB x.2.2.1[k] x.2.2.2[k + 1]) := Asd.mk (by subst hL; intro k hk hk2 hk3; simp)
    clear hL
    have hfl : (L.flatten).length ≤ 503 := by omega
    obtain ⟨b3, o3, rfl, hbl3, q3, hr1, hr2⟩ := kid_at HNA.out.kids 0 hkid
    clear hr1 hr2
    have hpk := page_pos (HIR.out.pages _ (List.getElem_mem hkid))
    generalize x.2.2.2[0] = kid0 at HBD q3 hpk
    have hi0 : (0 : Int) < (n3 : Int) := by omega
    have hi00 : 0 < n3 := by omega
    have hkid0 := hpk.1
    have hkid1 : kid0 ≤ 1000000000 := by omega
    have HQ3 := Asd.mk q3
    have HN3 := Asd.mk hn3
    clear hz hlen hlen2 hcnt hkid hpk q3 hn3
    go_enter Try.func13, Try.ntmps13
    go_wp2_with fail
    refine (rcheck_calls _ _ _ _ x _ (lasts_node _ _ _ _ (Box.start (w := w) (u := #[.bool false, .slice A1 n1 c1, .slice A2 n2 c2, .slice (some ⟨b3, o3, none⟩) n3 c3]) (t := 26)).below HR.out)).mono ?_
    rintro e w1 ⟨rfl, hb1⟩
    have HBX := Asd.mk ((Box.start (w := w) (u := #[.bool false, .slice A1 n1 c1, .slice A2 n2 c2, .slice (some ⟨b3, o3, none⟩) n3 c3]) (t := 26)).old hb1)
    rw [HZ.out]
    have p0 := (blk_cell HBX.out.n 0).trans rfl
    have hs1 : w.heap.size < w1.heap.size := blk_lt HBX.out.n
    clear hb1
    have p2 := (blk_cell HBX.out.n 2).trans rfl
    have HBS : Asd (w.heap.size ≤ w1.heap.size) := Asd.mk HBX.out.below.size
    have HF1 : Asd (Feeds ((w1.alloc (.cells #[.int .u8 2] 5)).alloc (.cells (bcells (le2 n2)).toArray 5)) (some ⟨w1.heap.size + 1, 0, none⟩) 2 2 1 (bcells (le2 n2))) := Asd.mk (by
      have e : (w1.alloc (.cells #[.int .u8 2] 5)).heap.size = w1.heap.size + 1 := by simp
      have hb := blk_new (w1.alloc (.cells #[.int .u8 2] 5)) (.cells (bcells (le2 n2)).toArray 5)
      rw [e] at hb
      exact feeds_two hb)
    have HOW1 : Asd (OwnM (w1.alloc (.cells #[.int .u8 2] 5)) w.heap.size (some ⟨w1.heap.size, 0, none⟩) 1 1 [2]) := Asd.mk (own_m (own_made (xs := [2]) (blk_new w1 _) (by omega) (by simp)) rfl)
    go_wp2_with fail
    refine (rtwo_calls n2 _ (by omega) (by omega)).mono ?_
    rintro e w2' ⟨rfl, rfl⟩
    go_wp2_with (at_builtin; refine wpList_bytes rfl (.tmp 18) (.tmp 22) rfl w.heap.size (some ⟨w1.heap.size, 0, none⟩) 1 1 rfl (HOW1.out.alloc _) (some ⟨w1.heap.size + 1, 0, none⟩) 2 2 rfl HF1.out (by omega) (by simp; omega) ?_)
    intro P2 d2 w2 hown2 hgr2
    have HOW2 := Asd.mk hown2
    have HB2 := Asd.mk (((HBX.out.alloc (.cells #[.int .u8 2] 5)).alloc (.cells (bcells (le2 n2)).toArray 5)).grew hgr2 (by decide))
    have p3 := (blk_cell HB2.out.n 3).trans rfl
    have q3 : w2.cell? ⟨b3, o3, none⟩ = some (.int .i64 kid0) := (HB2.out.below.cell (p := ⟨b3, o3, none⟩) hbl3).trans HQ3.out
    have HF2 : Asd (Feeds (w2.alloc (.cells (bcells (le2 kid0)).toArray 5)) (some ⟨w2.heap.size, 0, none⟩) 2 2 1 (bcells (le2 kid0))) := Asd.mk (feeds_two (blk_new w2 _))
    have HBS2 : Asd (w.heap.size ≤ w2.heap.size) := Asd.mk HB2.out.below.size
    clear hown2 hgr2
    go_wp2_with fail
    refine (rtwo_calls kid0 w2 hkid0 hkid1).mono ?_
    rintro e w2' ⟨rfl, rfl⟩
    go_wp2_with (at_builtin; refine wpList_bytes rfl (.tmp 24) (.tmp 29) rfl w.heap.size P2 3 d2 rfl (HOW2.out.alloc _) (some ⟨w2.heap.size, 0, none⟩) 2 2 rfl HF2.out (by omega) (Nat.le_trans HBS2.out (by simp)) ?_)
    intro P3 d3 w3 hown3 hgr3
    have HOW3 := Asd.mk hown3
    have HB3 := Asd.mk ((HB2.out.alloc _).grew hgr3 (by decide))
    have p2 := (blk_cell HB3.out.n 2).trans rfl
    clear hown3 hgr3 p3 q3
    go_wp2
    go_loopw [5, 6] (fun u i wr => ∃ (k m : Nat) (A : Option Addr) (c : Nat), k ≤ n2 ∧ i = .int .i64 (k : Int) ∧ u = .slice A m c ∧ Asd (OwnM wr w.heap.size A m c ((2 : UInt8) :: (le2 x.2.2.1.length ++ le2 kid0) ++ (L.take k).flatten)) ∧ Asd (Box w wr #[.bool false, .slice A1 n1 c1, .slice A2 n2 c2, .slice (some ⟨b3, o3, none⟩) n3 c3] 26)) (fun _ i _ => n2 - (intOf i).toNat)
    case atStart =>
      refine ⟨0, _, _, _, by omega, rfl, rfl, ⟨?_⟩, HB3⟩
      have := HOW3.out
      rw [hl2.out]
      simpa using this
    case round =>
      obtain ⟨k, m, A, c, hk, rfl, rfl, HO, HB⟩ := hrel
      have HLM := Asd.mk HO.out.len
      have p2 := (blk_cell HB.out.n 2).trans rfl
      by_cases hlt : k < n2
      · have hkl : k < x.2.2.1.length := by rw [hl2.out]; exact hlt
        have hkl2 : k + 1 < x.2.2.2.length := by rw [hl3.out, HN3.out]; omega
        obtain ⟨b, o, Ak, nk, ck, rfl, hbl, q0, ib0, zk, hnk⟩ := key_at HNA.out.keys k hkl
        obtain ⟨b3', o3', hA, hr0, q3, hr1, hr2⟩ := kid_at HNA.out.kids (k + 1) hkl2
        clear hr0 hr1 hr2
        cases hA
        replace q0 := (HB.out.below.cell (p := ⟨b, o + k, none⟩) hbl).trans q0
        replace q3 := (HB.out.below.cell (p := ⟨b3, o3 + (k + 1), none⟩) hbl3).trans q3
        have hok := HIR.out.keys _ (List.getElem_mem hkl)
        have hpp := page_pos (HIR.out.pages _ (List.getElem_mem hkl2))
        have hts := flatten_snoc L k (by omega)
        have hfk := flatten_take_le L k
        rw [HP.out k hkl hkl2] at hts
        generalize x.2.2.1[k] = key at hts hok ib0
        generalize x.2.2.2[k + 1] = kid at hts hpp q3
        have hpk := hpp.1
        have hpk2 : kid ≤ 1000000000 := by omega
        clear hpp
        simp only [keyOk, decide_eq_true_eq] at hok
        have hnk2 : nk ≤ 128 := by have := ib0.1; omega
        have hm1 : m ≤ 508 := by
          have h1 := HLM.out
          simp only [List.length_append, List.length_cons, le2_len, List.cons_append] at h1
          omega
        have HTS := Asd.mk hts
        have HF0 := Asd.mk (src_bytes ib0 zk)
        have HLN := Asd.mk ib0.1
        clear ib0 zk hts hok hfk
        have hi1 : (0 : Int) ≤ (k : Int) + 1 := by omega
        have hi2 : (k : Int) + 1 < (n3 : Int) := by have := HN3.out; omega
        have hj0 : (0 : Int) ≤ (k : Int) := by omega
        have hj1 : (k : Int) < (n2 : Int) := by omega
        go_upto_region 10 with fail
        have HBS : Asd (w.heap.size ≤ wr.heap.size) := Asd.mk HB.out.below.size
        have HKC : Asd (∀ w', Below w.heap.size w w' → w'.cell? ⟨b3, o3 + (k + 1), none⟩ = some (.int .i64 kid) ∧ w'.cell? ⟨b, o + k, none⟩ = some (.slice Ak nk ck)) := Asd.mk fun w' hb => by
          have e1 := hb.cell (p := ⟨b3, o3 + (k + 1), none⟩) hbl3
          have e2 := HB.out.below.cell (p := ⟨b3, o3 + (k + 1), none⟩) hbl3
          have f1 := hb.cell (p := ⟨b, o + k, none⟩) hbl
          have f2 := HB.out.below.cell (p := ⟨b, o + k, none⟩) hbl
          rw [e1, ← e2, f1, ← f2]; exact ⟨q3, q0⟩
        have HS : Asd (∀ w', Grew w.heap.size wr w' → w'.cell? ⟨w.heap.size, 3, none⟩ = some (.slice (some ⟨b3, o3, none⟩) n3 c3) ∧ w'.cell? ⟨w.heap.size, 2, none⟩ = some (.slice (some ⟨b, o, none⟩) n2 c2) ∧ w'.cell? ⟨b3, o3 + (k + 1), none⟩ = some (.int .i64 kid) ∧ w'.cell? ⟨b, o + k, none⟩ = some (.slice Ak nk ck)) := Asd.mk fun w' hg =>
          have hbx := HB.out.grew hg (by decide)
          ⟨(blk_cell hbx.n 3).trans rfl, (blk_cell hbx.n 2).trans rfl, HKC.out _ hbx.below⟩
        have hw : IntKind.i64.wrap ((k : Int) + 1) = (k : Int) + 1 := by rw [IntKind.wrap_i64]; omega
        have hi3 : k + 1 < n3 := by have := HN3.out; omega
        clear q0 q3 p2
        go_region_held3 (fun w' => w'.cell? ⟨w.heap.size, 3, none⟩ = some (.slice (some ⟨b3, o3, none⟩) n3 c3) ∧ w'.cell? ⟨w.heap.size, 2, none⟩ = some (.slice (some ⟨b, o, none⟩) n2 c2) ∧ w'.cell? ⟨b3, o3 + (k + 1), none⟩ = some (.int .i64 kid) ∧ w'.cell? ⟨b, o + k, none⟩ = some (.slice Ak nk ck))
          (first
            | exact HS.out _ HG4.out
            | exact HS.out _ HG3.out
            | exact HS.out _ (HG3.out.alloc HBS.out _)
            | exact HS.out _ HG2.out
            | exact HS.out _ ((Grew.refl _ _).drew.alloc HBS.out _)
            | exact HS.out _ (Grew.refl _ _).drew
            | fail)
          (first
            | (refine step_bytes (by rfl) _ _ (by rfl) w.heap.size A m c (by rfl) (HO.out.drew.alloc _) (some ⟨wr.heap.size, 0, none⟩) 1 1 (by rfl) (feeds_one nk (blk_new _ _)) (by omega) (Nat.le_trans HBS.out (by simp)) ?_
               intro P2 d2 w2 hown2 hgr2
               have HOW2 := Asd.mk hown2
               have HG2 : Asd (Grew w.heap.size wr w2) := Asd.mk (((Grew.refl _ wr).drew.alloc HBS.out _).trans hgr2)
               clear hown2 hgr2)
            | (refine step_bytes (by rfl) _ _ (by rfl) w.heap.size P2 (m + 1) d2 (by rfl) HOW2.out Ak nk ck (by rfl) (HF0.out.below (HB.out.below.trans HG2.out.below)) (by omega) (Nat.le_trans HBS.out HG2.out.below.size) ?_
               intro P3 d3 w3 hown2 hgr2
               have HOW3 := Asd.mk hown2
               have HG3 : Asd (Grew w.heap.size wr w3) := Asd.mk (HG2.out.trans hgr2)
               clear hown2 hgr2)
            | (go_at_call 37
               refine (rtwo_calls kid w3 hpk hpk2).mono ?_
               rintro e w3' ⟨rfl, rfl⟩)
            | (refine step_bytes (by rfl) _ _ (by rfl) w.heap.size P3 (m + 1 + nk) d3 (by rfl) (HOW3.out.alloc _) (some ⟨w3.heap.size, 0, none⟩) 2 2 (by rfl) (feeds_two (blk_new w3 _)) (by omega) (Nat.le_trans HBS.out (Nat.le_trans HG3.out.below.size (by simp))) ?_
               intro P4 d4 w4 hown4 hgr4
               have HOW4 := Asd.mk hown4
               have HG4 : Asd (Grew w.heap.size wr w4) := Asd.mk ((HG3.out.alloc HBS.out _).trans hgr4)
               clear hown4 hgr4)
            | fail)
        have HB4 := Asd.mk (HB.out.grew HG4.out (by decide))
        clear HOW2 HOW3 HG2 HG3 HS HKC
        go_wp2
        go_roundw
        case rel =>
          refine ⟨k + 1, m + 1 + nk + 2, P4, d4, by omega, by go_num, rfl, ⟨?_⟩, HB4⟩
          have e := HOW4.out
          rw [HTS.out, keyB]
          have hln := HLN.out
          simpa [List.append_assoc, hln] using e
        case measure => simp [intOf]; omega
      · have hkn : L.take k = L := List.take_of_length_le (by omega)
        rw [hkn] at HO
        have hmm : m ≤ 508 ∧ 0 < m := by
          have h1 := HLM.out
          rw [hkn] at h1
          simp only [List.length_append, List.length_cons, le2_len, List.cons_append] at h1
          omega
        have hm1 := hmm.1
        have hm0 := hmm.2
        clear hkn hmm
        go_wp2_with fail
        refine (pad_m w.heap.size A m c _ wr HO.out HB.out.below.size hm1).mono ?_
        rintro e w5 ⟨P5, d5, rfl, hown5, hgr5⟩
        have HOW5 := Asd.mk hown5
        have HB5 := Asd.mk (HB.out.below.trans hgr5)
        clear hown5 hgr5
        go_wp2
        go_ret2
        refine ⟨.slice P5 508 d5, ret_eq (by rw [HZ.out]; rfl), ?_, HB5.out⟩
        have e := HOW5.out.own
        rw [encB, if_pos HZ.out, HBD.out]
        exact e
  · have HZ := Asd.mk hz
    have hz2 : (checkN x != 0) = true := by rw [bne_iff_ne]; exact hz
    clear hz
    go_enter Try.func13, Try.ntmps13
    go_wp2_with fail
    refine (rcheck_calls _ _ _ _ x _ (lasts_node _ _ _ _ (Box.start (w := w) (u := #[.bool false, .slice A1 n1 c1, .slice A2 n2 c2, .slice A3 n3 c3]) (t := 26)).below HR.out)).mono ?_
    rintro e w1 ⟨rfl, hb1⟩
    have HBX := Asd.mk ((Box.start (w := w) (u := #[.bool false, .slice A1 n1 c1, .slice A2 n2 c2, .slice A3 n3 c3]) (t := 26)).old hb1)
    have HE : Asd (encB x = []) := Asd.mk (by rw [encB, if_neg HZ.out])
    clear hb1
    generalize hzz : checkN x = z at hz2 ⊢
    have HZZ := Asd.mk hzz
    clear hzz
    go_wp2
    go_ret2
    exact ⟨.slice none 0 0, ret_eq (by rw [HZZ.out]; rfl), by rw [HE.out]; exact World.ownsRow_nil _ _ _ _, HBX.out.below⟩

theorem rencode_calls (v0 v1 v2 v3 : Value) (x : PNode) (w : World) (h : rNode w [v0, v1, v2, v3] x) :
    Calls Try.prog 13 #[.agg #[v0, v1, v2, v3]] w (Encodes w x) := by
  have h2 := h
  obtain ⟨A1, n1, c1, A2, n2, c2, A3, n3, c3, rfl, rfl, rfl, rfl, hna⟩ := node_of h
  cases hx : x.1 with
  | true => rw [hx] at h2; exact rencode_leaf _ _ _ x w h2
  | false => rw [hx] at h2; exact rencode_inner _ _ _ x w h2
end Go.Proofs.Ytnohhmopiflboaa.Nod
