/- The reference's reader reads an inner node. -/
import Derived.Test.YtnohhmopiflboaaNode46
set_option linter.unusedVariables false
set_option linter.unusedSimpArgs false
namespace Go.Proofs.Ytnohhmopiflboaa.Nod
open Go.RowKit Go.Proofs.Ytnohhmopiflboaa.Base Go.Proofs.Ytnohhmopiflboaa.Byt Go.Proofs.Ytnohhmopiflboaa.Rd Go.Proofs.Ytnohhmopiflboaa.App

theorem sNode_inner {s : SSt} (h1 : ¬ (sTake 1 s).1.getD 0 0 = 1) : sNode s = ((false, [], (sMany sEnt (sTwo (sTake 1 s).2).1.toNat (sTwo (sTwo (sTake 1 s).2).2).2).1.map (·.1), (sTwo (sTwo (sTake 1 s).2).2).1 :: (sMany sEnt (sTwo (sTake 1 s).2).1.toNat (sTwo (sTwo (sTake 1 s).2).2).2).1.map (·.2)), (sMany sEnt (sTwo (sTake 1 s).2).1.toNat (sTwo (sTwo (sTake 1 s).2).2).2).2) := by
  unfold sNode
  rw [if_neg h1]

set_option maxRecDepth 100000 in
set_option maxHeartbeats 6400000 in
theorem snode_inner (B g : Nat) (s : SSt) (w : World) (h : Rdr w B g s) (h1 : ¬ (sTake 1 s).1.getD 0 0 = 1) :
    Calls Try.prog 47 #[.pointer (some ⟨g, 0, none⟩)] w (SNoded w B g s) := by
  have hgl := h.lt
  have HGL := Asd.mk hgl
  have HR0 : Asd (Rdr (w.alloc (.cells #[.bool false, .slice none 0 0, .slice none 0 0, .slice none 0 0] 26)) B g s) := Asd.mk (h.below (below_alloc (Below.refl _ _) _))
  have HF0 : Asd (Fr (fun k => k = g) w (w.alloc (.cells #[.bool false, .slice none 0 0, .slice none 0 0, .slice none 0 0] 26))) := Asd.mk ((Fr.refl _ _).alloc _)
  have HRES0 := Asd.mk (blk_new w (.cells #[.bool false, .slice none 0 0, .slice none 0 0, .slice none 0 0] 26))
  have HSN := Asd.mk (sNode_inner h1)
  have HY := Asd.mk h1
  clear h h1
  go_enter Try.func47, Try.ntmps47
  go_wp2_with fail
  refine (stake_calls B g 1 s _ (by omega) HR0.out).mono ?_
  rintro e w1 ⟨hfr, hrd, A, c, rfl, hc2, hz, hib⟩
  have HST := Asd.mk (SdSt.start (x0 := false) HGL.out (blk_fr HRES0.out hfr (by omega)) (HF0.out.trans hfr (fun _ h _ => h) (fun _ h _ => h)) hrd)
  obtain ⟨b, o, rfl, hcell⟩ := hib.2.2 (by omega)
  have q0 := hcell 0 (by omega)
  have hy : (((((sTake 1 s).1.getD 0 0).toNat : Int)) == 1) = false := by
    rw [beq_eq_false_iff_ne]
    intro h9
    exact HY.out (by
      have h8 : ((sTake 1 s).1.getD 0 0).toNat = 1 := by omega
      exact UInt8.toNat_inj.1 h8)
  rw [Nat.add_zero] at q0
  generalize (sTake 1 s).1.getD 0 0 = y at q0 hy
  simp only [bcell] at q0
  generalize sTake 1 s = q at HST HSN
  clear hfr hrd hib hcell hz HY HR0 HF0 HRES0
  go_wp2_with fail
  refine (stwo_calls B g q.2 _ HST.out.rdr).mono ?_
  rintro e w3 ⟨hfr, hrd, rfl⟩
  have HST3 := Asd.mk (HST.out.took hfr hrd)
  have hn := sTwo_lt q.2
  generalize hnn : sTwo q.2 = nn at HST3 HSN hn
  obtain ⟨cnt, s1⟩ := nn
  dsimp only at HST3 HSN hn
  obtain ⟨N, rfl⟩ : ∃ N : Nat, cnt = (N : Int) := ⟨cnt.toNat, by omega⟩
  have hN : N < 65536 := by omega
  generalize hnb : w1.heap.size = nb at HST HST3
  have p0 := (blk_cell HST3.out.box 0).trans rfl
  have HSN2 : Asd (∀ kid0 s2, sTwo s1 = (kid0, s2) → sNode s = ((false, [], (sMany sEnt N s2).1.map (·.1), kid0 :: (sMany sEnt N s2).1.map (·.2)), (sMany sEnt N s2).2)) := Asd.mk (fun kid0 s2 h => by have := HSN.out; rw [h] at this; simpa using this)
  clear hfr hrd hn hnn HSN HST q0 hy
  dsimp only
  go_upto_region 4 with fail
  have HKR : Asd (∀ (V : World) (o : Obj) (s2 : SSt), SdSt w V B g nb s2 false (.slice none 0 0) (.slice none 0 0) (.slice none 0 0) [] [] [] [] [] → (V.alloc o).ownsRow (w.heap.size + 1) 3 1 (.slice none 0 0) 0 (icells [])) := Asd.mk fun V o s2 h => World.ownsRow.alloc h.kids o
  have HLE : Asd (0 = ([] : List Int).length) := Asd.mk rfl
  go_cut [4] (fun s9 wx => s9 = .int .i64 (N : Int) ∧ ∃ kid0 s2 A c, Asd (sTwo s1 = (kid0, s2)) ∧ Asd (SdSt w wx B g nb s2 false (.slice none 0 0) (.slice none 0 0) (.slice A 1 c) [] [] [kid0] [] []))
  case first =>
    have d0 : w3.cell? ⟨nb, 3, none⟩ = some (.slice none 0 0) := (blk_cell HST3.out.box 3).trans rfl
    rw [show Op.load 24 (.tmp 18) = id (Op.load 24 (.tmp 18)) from rfl]
    go_region_held3 (fun _ => True)
      (trivial)
      (first
        | (go_at_call 81
           refine (stwo_calls B g s1 w3.drew HST3.out.drew.rdr).mono ?_
           rintro e w4 ⟨hfr, hrd, rfl⟩
           have HS4 := Asd.mk (HST3.out.drew.took hfr hrd)
           have HEQ : Asd (sTwo s1 = ((sTwo s1).1, (sTwo s1).2)) := Asd.mk rfl
           generalize (sTwo s1).1 = kid0 at HEQ ⊢
           generalize (sTwo s1).2 = s2 at HEQ HS4
           have d3 := (blk_cell HS4.out.box 3).trans rfl
           have lt4 := blk_lt HS4.out.box
           have HSZ4 : Asd (w.heap.size + 1 ≤ w4.heap.size) := Asd.mk (by have := HS4.out.nb; omega)
           clear hfr hrd)
        | (refine step_src (by rfl) _ _ _ (by rfl) rowI (.slice none 0 0) (by rfl) (n := 0) (HKR.out _ _ _ HS4.out) (some ⟨w4.heap.size, 0, none⟩) 1 1 (by rfl) (Feeds.of_block (blk_new w4 _) rfl (by simp [Value.oneCell'])) (by unfold maxLen; omega) (by omega) (Nat.le_trans HSZ4.out (by simp)) ?_
           intro A5 c5 w5 ho5 hg5
           have HBX5 := Asd.mk (blk_grown (HS4.out.alloc _).box (HKR.out _ _ _ HS4.out) hg5 (by decide))
           have HS5 := Asd.mk ((HS4.out.alloc _).addKid hg5 ho5 HLE.out)
           have d5 := (blk_cell HBX5.out 3).trans rfl
           have z5 := blk_frozen HBX5.out 3
           clear ho5 hg5)
        | fail)
    all_goals
      go_wp2_with fail
      go_meet
      exact ⟨rfl, _, _, _, _, HEQ, HS5⟩
  case rest =>
    obtain ⟨rfl, kid0, s2, A0, cc0, HEQ, HSI⟩ := hcut
    have HSN3 := Asd.mk (HSN2.out _ _ HEQ.out)
    clear HKR HLE HST3 HSN2 HEQ
    go_wp2
    go_loopw [5] (fun i wr => ∃ (k : Nat) (s4 : SSt) (vk vp : Value) (es : List (PB × Int)) (qs : List Value), k ≤ N ∧ i = .int .i64 (k : Int) ∧ Asd (SdSt w wr B g nb s4 false (.slice none 0 0) vk vp [] (es.map (·.1)) (kid0 :: es.map (·.2)) [] qs) ∧ Asd (es.length = k) ∧ Asd (sNode s = ((false, [], (es ++ (sMany sEnt (N - k) s4).1).map (·.1), kid0 :: (es ++ (sMany sEnt (N - k) s4).1).map (·.2)), (sMany sEnt (N - k) s4).2))) (fun i _ => N - (intOf i).toNat)
    case atStart => exact ⟨0, s2, _, _, [], [], by omega, rfl, HSI, ⟨rfl⟩, ⟨by rw [HSN3.out]; simp⟩⟩
    case round =>
      obtain ⟨k, s4, vk, vp, es, qs, hk, rfl, HS, HK, HR⟩ := hrel
      have p0 := (blk_cell HS.out.box 0).trans rfl
      obtain ⟨A9, m9, c9, hr9, _⟩ := HS.out.rdr.out
      have r1 := (blk_cell hr9 1).trans rfl
      clear hr9
      by_cases hlt : k < N ∧ s4.2 = true
      · obtain ⟨hlt, hok⟩ := hlt
        rw [hok] at r1
        have HRR : Asd (sNode s = ((false, [], ((es ++ [(sEnt s4).1]) ++ (sMany sEnt (N - (k + 1)) (sEnt s4).2).1).map (·.1), kid0 :: ((es ++ [(sEnt s4).1]) ++ (sMany sEnt (N - (k + 1)) (sEnt s4).2).1).map (·.2)), (sMany sEnt (N - (k + 1)) (sEnt s4).2).2)) := Asd.mk (by
          have h1 := sMany_one sEnt (N - (k + 1)) s4 hok es
          rw [show N - (k + 1) + 1 = N - k by omega] at h1
          injection h1 with h1 h2
          rw [HR.out, h1, h2])
        have hvk := own_form HS.out.keys.own
        obtain ⟨Ak0, ck0, rfl⟩ := hvk
        have hvp := own_form HS.out.kids
        obtain ⟨Ap0, cp0, rfl⟩ := hvp
        have HLE : Asd (k = (es.map (·.1)).length) := Asd.mk (by rw [List.length_map, HK.out])
        have HLP : Asd (k + 1 = (kid0 :: es.map (·.2)).length) := Asd.mk (by rw [List.length_cons, List.length_map, HK.out])
        rw [← HLE.out, ← HLP.out] at HS
        clear hok
        go_upto_region 9 with fail
        have HKR : Asd (∀ (V : World) (o : Obj) (s5 : SSt), SdSt w V B g nb s5 false (.slice none 0 0) (.slice Ak0 k ck0) (.slice Ap0 (k + 1) cp0) [] (es.map (·.1)) (kid0 :: es.map (·.2)) [] qs → (V.alloc o).ownsRow (w.heap.size + 1) 31 1 (.slice Ak0 k ck0) k qs) := Asd.mk fun V o s5 h => by
          have := h.keys.own.alloc o
          rw [← HLE.out] at this
          exact this
        go_cut [5] (fun s9 wx => s9 = .int .i64 (k : Int) ∧ ∃ key s5 A c u, Asd (sKey s4 = (key, s5)) ∧ Asd (SdSt w wx B g nb s5 false (.slice none 0 0) (.slice A (k + 1) c) (.slice Ap0 (k + 1) cp0) [] (es.map (·.1) ++ [key]) (kid0 :: es.map (·.2)) [] (qs ++ [u])))
        case first =>
          have d0 : wr.cell? ⟨nb, 2, none⟩ = some (.slice Ak0 k ck0) := (blk_cell HS.out.box 2).trans rfl
          rw [show Op.load 23 (.tmp 39) = id (Op.load 23 (.tmp 39)) from rfl]
          go_region_held3 (fun _ => True)
            (trivial)
            (first
              | (go_at_call 82
                 refine (skey_calls B g s4 wr.drew HS.out.drew.rdr).mono ?_
                 rintro e w4 ⟨hfr, hrd, Ak, ck, rfl, hok⟩
                 have HS4 := Asd.mk (HS.out.drew.took hfr hrd)
                 have HEQ : Asd (sKey s4 = ((sKey s4).1, (sKey s4).2)) := Asd.mk rfl
                 generalize (sKey s4).1 = key at HEQ hok ⊢
                 generalize (sKey s4).2 = s5 at HEQ HS4
                 have d3 := (blk_cell HS4.out.box 2).trans rfl
                 have lt4 := blk_lt HS4.out.box
                 have HOK4 : Asd (OwnM w4 (w.heap.size + 1) Ak key.length ck key) := Asd.mk (own_base hok (by have := blk_lt HS.out.drew.box; have := HS4.out.nb; omega))
                 have HSZ4 : Asd (w.heap.size + 1 ≤ w4.heap.size) := Asd.mk (by have := HS4.out.nb; omega)
                 clear hfr hrd hok)
              | (refine step_src (by rfl) _ _ _ (by rfl) rowK (.slice Ak0 k ck0) (by rfl) (n := k) (HKR.out _ _ _ HS4.out) (some ⟨w4.heap.size, 0, none⟩) 1 1 (by rfl) (Feeds.of_block (blk_new w4 _) rfl (by simp [Value.oneCell'])) (by unfold maxLen; omega) (by omega) (Nat.le_trans HSZ4.out (by simp)) ?_
                 intro A5 c5 w5 ho5 hg5
                 have HBX5 := Asd.mk (blk_grown (HS4.out.alloc _).box (HKR.out _ _ _ HS4.out) hg5 (by decide))
                 have HS5 := Asd.mk ((HS4.out.alloc _).addKey (key := key) hg5 ho5 HLE.out (OwnM.own (HOK4.out.alloc _)))
                 have d5 := (blk_cell HBX5.out 2).trans rfl
                 have z5 := blk_frozen HBX5.out 2
                 clear ho5 hg5)
              | fail)
          all_goals
            go_wp2_with fail
            go_meet
            exact ⟨rfl, _, _, _, _, _, HEQ, HS5⟩
        case rest =>
          obtain ⟨rfl, key, s5, A9, c9, u9, HEQ, HS9⟩ := hcut
          have HEN : Asd (sEnt s4 = ((key, (sTwo s5).1), (sTwo s5).2)) := Asd.mk (by unfold sEnt; rw [HEQ.out])
          rw [HEN.out] at HRR
          clear HKR HS HEN HEQ
          go_upto_region 10 with fail
          have HLE2 := HLE
          clear HLE
          have HLE := HLP
          have HKR : Asd (∀ (V : World) (o : Obj) (s6 : SSt), SdSt w V B g nb s6 false (.slice none 0 0) (.slice A9 (k + 1) c9) (.slice Ap0 (k + 1) cp0) [] (es.map (·.1) ++ [key]) (kid0 :: es.map (·.2)) [] (qs ++ [u9]) → (V.alloc o).ownsRow (w.heap.size + 1) 3 1 (.slice Ap0 (k + 1) cp0) (k + 1) (icells (kid0 :: es.map (·.2)))) := Asd.mk fun V o s6 h => by
            have := World.ownsRow.alloc h.kids o
            rw [← HLP.out] at this
            exact this
          have d0 : wc.cell? ⟨nb, 3, none⟩ = some (.slice Ap0 (k + 1) cp0) := (blk_cell HS9.out.box 3).trans rfl
          rw [show Op.load 24 (.tmp 46) = id (Op.load 24 (.tmp 46)) from rfl]
          go_region_held3 (fun _ => True)
            (trivial)
            (first
              | (go_at_call 81
                 refine (stwo_calls B g s5 wc.drew HS9.out.drew.rdr).mono ?_
                 rintro e w4 ⟨hfr, hrd, rfl⟩
                 have HS4 := Asd.mk (HS9.out.drew.took hfr hrd)
                 generalize (sTwo s5).1 = kid at HRR ⊢
                 generalize (sTwo s5).2 = s6 at HRR HS4
                 have d3 := (blk_cell HS4.out.box 3).trans rfl
                 have lt4 := blk_lt HS4.out.box
                 have HSZ4 : Asd (w.heap.size + 1 ≤ w4.heap.size) := Asd.mk (by have := HS4.out.nb; omega)
                 clear hfr hrd)
              | (refine step_src (by rfl) _ _ _ (by rfl) rowI (.slice Ap0 (k + 1) cp0) (by rfl) (n := (k + 1)) (HKR.out _ _ _ HS4.out) (some ⟨w4.heap.size, 0, none⟩) 1 1 (by rfl) (Feeds.of_block (blk_new w4 _) rfl (by simp [Value.oneCell'])) (by unfold maxLen; omega) (by omega) (Nat.le_trans HSZ4.out (by simp)) ?_
                 intro A5 c5 w5 ho5 hg5
                 have HBX5 := Asd.mk (blk_grown (HS4.out.alloc _).box (HKR.out _ _ _ HS4.out) hg5 (by decide))
                 have HS5 := Asd.mk ((HS4.out.alloc _).addKid hg5 ho5 HLE.out)
                 have d5 := (blk_cell HBX5.out 3).trans rfl
                 have z5 := blk_frozen HBX5.out 3
                 clear ho5 hg5)
              | fail)
          all_goals
            go_wp2
            go_roundw
            case rel => exact ⟨k + 1, s6, _, _, es ++ [(key, kid)], _, by omega, by go_num, ⟨by have := HS5.out; simpa using this⟩, ⟨by simp [HK.out]⟩, HRR⟩
            case measure => simp [intOf]; omega
      · have HE : Asd (sNode s = ((false, [], es.map (·.1), kid0 :: es.map (·.2)), s4)) := Asd.mk (by
          have h1 := sMany_end sEnt (N - k) s4 (by
            by_cases h2 : k < N
            · right
              cases h3 : s4.2 with
              | false => rfl
              | true => exact absurd ⟨h2, h3⟩ hlt
            · left; omega) es
          injection h1 with h1 h2
          rw [HR.out, h1, h2])
        obtain ⟨Ak0, ck0, rfl⟩ := own_form HS.out.keys.own
        obtain ⟨Ap0, cp0, rfl⟩ := own_form HS.out.kids
        simp only [List.length_map, List.length_cons] at HS
        have HFIN := Asd.mk (sd_fin HS.out HE.out)
        have b1 := (blk_cell HS.out.box 1).trans rfl
        have b2 := (blk_cell HS.out.box 2).trans rfl
        have b3 := (blk_cell HS.out.box 3).trans rfl
        have e0 := (blk_cell HS.out.res 0).trans rfl
        have e1 := (blk_cell HS.out.res 1).trans rfl
        have e2 := (blk_cell HS.out.res 2).trans rfl
        have e3 := (blk_cell HS.out.res 3).trans rfl
        have x0 := blk_frozen HS.out.res 0
        have x1 := blk_frozen HS.out.res 1
        have x2 := blk_frozen HS.out.res 2
        have x3 := blk_frozen HS.out.res 3
        cases hs4 : s4.2 with
        | false =>
          rw [hs4] at r1
          clear hs4 hlt
          go_wp2
          all_goals
            (try simp only [Exit.inBlock, Exit.then])
            refine bodyPost_ret (results_cell_row rfl _ _ w.heap.size 26 _ (0, 0) _ rfl HFIN.out.2 Try.underlying26 rfl (by kernel_rfl)) rfl ?_
            exact HFIN.out.1
        | true =>
          rw [hs4] at r1
          have hge : ¬ k < N := fun h => hlt ⟨h, hs4⟩
          clear hs4 hlt
          go_wp2
          (try simp only [Exit.inBlock, Exit.then])
          refine bodyPost_ret (results_cell_row rfl _ _ w.heap.size 26 _ (0, 0) _ rfl HFIN.out.2 Try.underlying26 rfl (by kernel_rfl)) rfl ?_
          exact HFIN.out.1

theorem snode_calls (B g : Nat) (s : SSt) (w : World) (h : Rdr w B g s) :
    Calls Try.prog 47 #[.pointer (some ⟨g, 0, none⟩)] w (SNoded w B g s) := by
  by_cases h1 : (sTake 1 s).1.getD 0 0 = 1
  · exact snode_leaf B g s w h h1
  · exact snode_inner B g s w h h1
end Go.Proofs.Ytnohhmopiflboaa.Nod
