/- node.Encode: a leaf's load. -/
import Derived.Test.YtnohhmopiflboaaNode16
set_option linter.unusedVariables false
set_option linter.unusedSimpArgs false
namespace Go.Proofs.Ytnohhmopiflboaa.Nod
open Go.RowKit Go.Proofs.Ytnohhmopiflboaa.Base Go.Proofs.Ytnohhmopiflboaa.Byt Go.Proofs.Ytnohhmopiflboaa.Rd Go.Proofs.Ytnohhmopiflboaa.App

/-- What Encode answers. -/
def Encodes (w : World) (x : PNode) (e : Ending) (w' : World) : Prop :=
  ∃ v, e = .returned (.tuple #[v, .int .i64 (checkN x)]) ∧ OwnB w' w.heap.size v (encB x) ∧ Below w.heap.size w w'

/-- The argument's box stands, and nothing old has turned. -/
structure Box (w wr : World) (u : Array Value) (t : TypeId) : Prop where
  n : wr.heap[w.heap.size]? = some (.cells u t (0, 0))
  below : Below w.heap.size w wr
theorem Box.start {w : World} {u : Array Value} {t : TypeId} : Box w (w.alloc (.cells u t)) u t := ⟨blk_new _ _, (Below.refl _ _).alloc (Nat.le_refl _) _⟩
theorem Box.step {w a b : World} {u : Array Value} {t : TypeId} (h : Box w a u t) (hb : Below w.heap.size a b) (hk : KeepT t a b) : Box w b u t := ⟨hk _ _ _ h.n, h.below.trans hb⟩
theorem Box.old {w a b : World} {u : Array Value} {t : TypeId} (h : Box w a u t) (hb : Below a.heap.size a b) : Box w b u t := ⟨blk_below hb h.n, h.below.trans (hb.mono h.below.size)⟩
theorem Box.alloc {w a : World} {u : Array Value} {t : TypeId} (h : Box w a u t) (o : Obj) : Box w (a.alloc o) u t := h.old ((Below.refl _ _).alloc (Nat.le_refl _) o)
theorem Box.grew {w a b : World} {u : Array Value} {t : TypeId} (h : Box w a u t) (hg : Grew w.heap.size a b) (ht : t ≠ 5) : Box w b u t := h.step hg.below (hg.keep t ht)
theorem Box.drew {w a : World} {u : Array Value} {t : TypeId} (h : Box w a u t) : Box w a.drew u t := ⟨h.n, h.below.drew⟩
theorem Box.grown {w a b : World} {u : Array Value} {t : TypeId} (h : Box w a u t) {B s n : Nat} {e : TypeId} {v0 : Value} {xs : List Value} (ho : a.ownsRow B e s v0 n xs) (hg : a.grownBy b v0.ownBlock) (hB : w.heap.size ≤ B) (hne : e ≠ t) : Box w b u t :=
  ⟨blk_grown h.n ho hg hne, h.below.grown hg h.below.size (fun k hk => by have := ho.lt k hk; omega)⟩

set_option maxRecDepth 100000 in
set_option maxHeartbeats 3200000 in
theorem encode_leaf (v1 v2 v3 : Value) (x : PNode) (w : World) (h : rNode w [.bool true, v1, v2, v3] x) :
    Calls Try.prog 12 #[.agg #[.bool true, v1, v2, v3]] w (Encodes w x) := by
  have HR := Asd.mk h
  obtain ⟨A1, n1, c1, A2, n2, c2, A3, n3, c3, hv0, rfl, rfl, rfl, hna⟩ := node_of h
  have HNA := Asd.mk hna
  have HX0 : Asd (x.1 = true) := Asd.mk (by injection hv0 with h0; exact h0.symm)
  have HSN := Asd.mk hna.sane
  have hl1 := Asd.mk hna.cells.1
  clear h hna hv0
  by_cases hz : checkN x = 0
  · obtain ⟨hlen, hlen2, hcnt⟩ := leaf_len hz HSN.out HX0.out
    have HLR := Asd.mk (leaf_right (checkN_zero hz).1 HX0.out)
    have HZ := Asd.mk hz
    have HBD : Asd (bodyB x = 1 :: le2 x.2.1.length ++ (x.2.1.map cellB).flatten) := Asd.mk (by simp [bodyB, headB, partsB, HX0.out])
    have hn1 : 3 * n1 ≤ 508 := by rw [hl1.out] at hcnt; exact hcnt
    generalize hL : x.2.1.map cellB = L at hlen2 HBD
    have HL := Asd.mk hL
    have hLl : L.length = n1 := by rw [← hL, List.length_map, hl1.out]
    have hfl : (L.flatten).length ≤ 505 := by omega
    clear hz hlen hlen2 hcnt hL
    go_enter Try.func12, Try.ntmps12
    go_wp2_with fail
    refine (check_calls _ _ _ _ x _ (lasts_node _ _ _ _ (Box.start (w := w) (u := #[.bool true, .slice A1 n1 c1, .slice A2 n2 c2, .slice A3 n3 c3]) (t := 29)).below HR.out)).mono ?_
    rintro e w1 ⟨rfl, hb1⟩
    have HBX := Asd.mk ((Box.start (w := w) (u := #[.bool true, .slice A1 n1 c1, .slice A2 n2 c2, .slice A3 n3 c3]) (t := 29)).old hb1)
    rw [HZ.out]
    have p0 := (blk_cell HBX.out.n 0).trans rfl
    have p1 := (blk_cell HBX.out.n 1).trans rfl
    have hs1 : w.heap.size < w1.heap.size := blk_lt HBX.out.n
    have HOW1 : Asd (OwnM (w1.alloc (.cells #[.int .u8 1] 5)) w.heap.size (some ⟨w1.heap.size, 0, none⟩) 1 1 [1]) := Asd.mk (own_m (own_made (xs := [1]) (blk_new w1 _) (by omega) (by simp)) rfl)
    clear hb1
    go_wp2_with fail
    refine (two_m w.heap.size _ 1 1 [1] _ _ HOW1.out (by simp; omega) (by omega) (by omega)).mono ?_
    rintro e w2 ⟨A2', c2', rfl, ho2, hg2⟩
    have HO2 := Asd.mk ho2
    have HBX2 := Asd.mk ((HBX.out.alloc (.cells #[.int .u8 1] 5)).grew hg2 (by decide))
    have p1 := (blk_cell HBX2.out.n 1).trans rfl
    clear ho2 hg2
    go_wp2
    go_loopw [8, 63] (fun u i wr => ∃ (k m : Nat) (A : Option Addr) (c : Nat), k ≤ n1 ∧ i = .int .i64 (k : Int) ∧ u = .slice A m c ∧ Asd (OwnM wr w.heap.size A m c (1 :: le2 x.2.1.length ++ (L.take k).flatten)) ∧ Asd (Box w wr #[.bool true, .slice A1 n1 c1, .slice A2 n2 c2, .slice A3 n3 c3] 29)) (fun _ i _ => n1 - (intOf i).toNat)
    case atStart =>
      refine ⟨0, _, _, _, by omega, rfl, rfl, ⟨?_⟩, HBX2⟩
      have := HO2.out
      rw [hl1.out]
      simpa using this
    case round =>
      obtain ⟨k, m, A, c, hk, rfl, rfl, HO, HB⟩ := hrel
      have HLM := Asd.mk HO.out.len
      by_cases hlt : k < n1
      · have hkl : k < x.2.1.length := by rw [hl1.out]; exact hlt
        obtain ⟨b, o, Ak, nk, ck, Av, nv, cv, rfl, hbl, q0, q1, q2, q3, ib0, ib1, zk, zv, hnk, hnv⟩ := cell_at HNA.out.cells k hkl
        replace q0 := (HB.out.below.cell (p := ⟨b, o + k * 4, none⟩) hbl).trans q0
        replace q1 := (HB.out.below.cell (p := ⟨b, o + k * 4 + 1, none⟩) hbl).trans q1
        replace q2 := (HB.out.below.cell (p := ⟨b, o + k * 4 + 2, none⟩) hbl).trans q2
        replace q3 := (HB.out.below.cell (p := ⟨b, o + k * 4 + 3, none⟩) hbl).trans q3
        have hok := HLR.out.cells _ (List.getElem_mem hkl)
        have hts := flatten_snoc L k (by omega)
        have hfk := flatten_take_le L k
        have hlk : L[k]'(by omega) = cellB x.2.1[k] := by have := HL.out; subst this; simp
        rw [hlk] at hts
        generalize x.2.1[k] = cell at hts hok q2 q3 ib0 ib1
        obtain ⟨key, val, over, size⟩ := cell
        simp only [cellOk, cRight, Bool.and_eq_true, Bool.or_eq_true, decide_eq_true_eq] at hok
        dsimp only at ib0 ib1
        have hsize : 0 ≤ size := by omega
        have hover : 0 ≤ over := by rcases hok.2 with h | h; omega; (have := h.1; simp [isPage] at this; omega)
        have hnk2 : nk ≤ 128 := by have := hok.1; have := ib0.1; omega
        have hnv2 : nv ≤ 64 := by have := ib1.1; omega
        have hm1 : m ≤ 508 := by
          have h1 := HLM.out
          simp only [List.length_append, List.length_cons, le2_len, List.cons_append] at h1
          omega
        have HTS := Asd.mk hts
        have HIB0 := Asd.mk ib0
        have HIB1 := Asd.mk ib1
        have HZK := Asd.mk zk
        have HZV := Asd.mk zv
        clear ib0 ib1 zk zv hts hok hfk hlk
        simp only at q2 q3
        go_upto_region 16 with fail
        have HCB := Asd.mk (blk_new wr (.cells #[.slice Ak nk ck, .slice Av nv cv, .int .i64 over, .int .i64 size] 61))
        have HB1 := Asd.mk (HB.out.alloc (.cells #[.slice Ak nk ck, .slice Av nv cv, .int .i64 over, .int .i64 size] 61))
        have HO1 := Asd.mk (HO.out.alloc (.cells #[.slice Ak nk ck, .slice Av nv cv, .int .i64 over, .int .i64 size] 61))
        have HF0 := Asd.mk (src_bytes HIB0.out HZK.out)
        have HF1 := Asd.mk (src_bytes HIB1.out HZV.out)
        generalize wr.alloc (.cells #[.slice Ak nk ck, .slice Av nv cv, .int .i64 over, .int .i64 size] 61) = W1 at HCB HB1 HO1 ⊢
        have HS : Asd (∀ w', Grew w.heap.size W1 w' → w'.cell? ⟨wr.heap.size, 0, none⟩ = some (.slice Ak nk ck) ∧ w'.cell? ⟨wr.heap.size, 3, none⟩ = some (.int .i64 size)) := Asd.mk fun w' hg =>
          ⟨(blk_cell (hg.keep _ (by decide) _ _ _ HCB.out) 0).trans rfl, (blk_cell (hg.keep _ (by decide) _ _ _ HCB.out) 3).trans rfl⟩
        have HBS : Asd (w.heap.size ≤ W1.heap.size) := Asd.mk HB1.out.below.size
        clear q0 q1 q2 q3
        go_region_held3 (fun w' => w'.cell? ⟨wr.heap.size, 0, none⟩ = some (.slice Ak nk ck) ∧ w'.cell? ⟨wr.heap.size, 3, none⟩ = some (.int .i64 size))
          (first
            | exact HS.out _ HG4.out
            | exact HS.out _ HG3.out
            | exact HS.out _ HG2.out
            | exact HS.out _ ((Grew.refl _ _).drew.alloc HBS.out _)
            | exact HS.out _ (Grew.refl _ _).drew
            | fail)
          (first
            | (refine step_bytes (by rfl) _ _ (by rfl) w.heap.size A m c (by rfl) (HO1.out.drew.alloc _) (some ⟨W1.heap.size, 0, none⟩) 1 1 (by rfl) (feeds_one nk (blk_new _ _)) (by omega) (Nat.le_trans HBS.out (by simp)) ?_
               intro P2 d2 w2 hown2 hgr2
               have HOW2 := Asd.mk hown2
               have HG2 : Asd (Grew w.heap.size W1 w2) := Asd.mk (((Grew.refl _ W1).drew.alloc HBS.out _).trans hgr2)
               clear hown2 hgr2)
            | (refine step_bytes (by rfl) _ _ (by rfl) w.heap.size P2 (m + 1) d2 (by rfl) HOW2.out Ak nk ck (by rfl) (HF0.out.below (HB1.out.below.trans HG2.out.below)) (by omega) (Nat.le_trans HBS.out HG2.out.below.size) ?_
               intro P3 d3 w3 hown2 hgr2
               have HOW3 := Asd.mk hown2
               have HG3 : Asd (Grew w.heap.size W1 w3) := Asd.mk (HG2.out.trans hgr2)
               clear hown2 hgr2)
            | (go_at_call 35
               refine (two_m w.heap.size P3 (m + 1 + nk) d3 _ size w3 HOW3.out (Nat.le_trans HBS.out HG3.out.below.size) (by omega) hsize).mono ?_
               rintro e w4 ⟨P4, d4, rfl, hown4, hgr4⟩
               have HOW4 := Asd.mk hown4
               have HG4 : Asd (Grew w.heap.size W1 w4) := Asd.mk (HG3.out.trans hgr4)
               clear hown4 hgr4)
            | fail)
        have k2 := (blk_cell (HG4.out.keep _ (by decide) _ _ _ HCB.out) 2).trans rfl
        have HB4 := Asd.mk (HB1.out.grew HG4.out (by decide))
        have k1 := (blk_cell (HG4.out.keep _ (by decide) _ _ _ HCB.out) 1).trans rfl
        have HF4 := Asd.mk (HF1.out.below HB4.out.below)
        have HBS4 : Asd (w.heap.size ≤ w4.heap.size) := Asd.mk HB4.out.below.size
        clear HOW2 HOW3 HG2 HG3 HCB HS
        by_cases ho : over = 0
        · subst ho
          go_wp2_with (at_builtin; refine wpList_bytes rfl (.tmp 87) (.tmp 89) rfl w.heap.size P4 (m + 1 + nk + 2) d4 rfl HOW4.out Av nv cv rfl HF4.out (by omega) HBS4.out ?_)
          intro P5 d5 w5 hown5 hgr5
          have HOW5 := Asd.mk hown5
          have HB5 := Asd.mk (HB4.out.grew hgr5 (by decide))
          clear hown5 hgr5
          go_wp2
          go_roundw
          case rel =>
            refine ⟨k + 1, m + 1 + nk + 2 + nv, P5, d5, by omega, by go_num, rfl, ⟨?_⟩, HB5⟩
            have e := HOW5.out
            rw [HTS.out, cellB, if_pos rfl]
            have hln := HIB0.out.1
            simpa [List.append_assoc, hln] using e
          case measure => simp [intOf]; omega
        · have ho2 : (over != 0) = true := by rw [bne_iff_ne]; exact ho
          have HNE := Asd.mk ho
          clear ho
          go_wp2_with fail
          refine (two_m w.heap.size P4 (m + 1 + nk + 2) d4 _ over w4 HOW4.out HBS4.out (by omega) hover).mono ?_
          rintro e w5 ⟨P5, d5, rfl, hown5, hgr5⟩
          have HOW5 := Asd.mk hown5
          have HB5 := Asd.mk (HB4.out.grew hgr5 (by decide))
          clear hown5 hgr5
          go_wp2
          go_roundw
          case rel =>
            refine ⟨k + 1, m + 1 + nk + 2 + 2, P5, d5, by omega, by go_num, rfl, ⟨?_⟩, HB5⟩
            have e := HOW5.out
            rw [HTS.out, cellB, if_neg HNE.out]
            have hln := HIB0.out.1
            simpa [List.append_assoc, hln] using e
          case measure => simp [intOf]; omega
      · have hkn : L.take k = L := List.take_of_length_le (by omega)
        rw [hkn] at HO
        have hmm : m ≤ 508 ∧ 0 < m := by
          have h1 := HLM.out
          rw [hkn] at h1
          simp only [List.length_append, List.length_cons, le2_len, List.cons_append] at h1
          omega
        have hm1 := hmm.1
        have hm0 := hmm.2
        clear hkn hmm
        go_wp2_with fail
        refine (padded_m w.heap.size A m c _ wr HO.out HB.out.below.size hm0 hm1).mono ?_
        rintro e w5 ⟨P5, d5, rfl, hown5, hgr5⟩
        have HOW5 := Asd.mk hown5
        have HB5 := Asd.mk (HB.out.grew hgr5 (by decide))
        clear hown5 hgr5
        go_wp2
        go_ret2
        refine ⟨.slice P5 508 d5, ret_eq (by rw [HZ.out]; rfl), ?_, HB5.out.below⟩
        have e := HOW5.out.own
        rw [encB, if_pos HZ.out, HBD.out]
        exact e
  · have HZ := Asd.mk hz
    have hz2 : (checkN x != 0) = true := by rw [bne_iff_ne]; exact hz
    clear hz
    go_enter Try.func12, Try.ntmps12
    go_wp2_with fail
    refine (check_calls _ _ _ _ x _ (lasts_node _ _ _ _ (Box.start (w := w) (u := #[.bool true, .slice A1 n1 c1, .slice A2 n2 c2, .slice A3 n3 c3]) (t := 29)).below HR.out)).mono ?_
    rintro e w1 ⟨rfl, hb1⟩
    have HBX := Asd.mk ((Box.start (w := w) (u := #[.bool true, .slice A1 n1 c1, .slice A2 n2 c2, .slice A3 n3 c3]) (t := 29)).old hb1)
    have HE : Asd (encB x = []) := Asd.mk (by rw [encB, if_neg HZ.out])
    clear hb1
    generalize hzz : checkN x = z at hz2 ⊢
    have HZZ := Asd.mk hzz
    clear hzz
    go_wp2
    go_ret2
    exact ⟨.slice none 0 0, ret_eq (by rw [HZZ.out]; rfl), by rw [HE.out]; exact World.ownsRow_nil _ _ _ _, HBX.out.below⟩
end Go.Proofs.Ytnohhmopiflboaa.Nod
