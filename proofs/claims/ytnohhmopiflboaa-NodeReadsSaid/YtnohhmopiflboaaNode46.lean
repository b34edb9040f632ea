/- The reference's reader reads a leaf. -/
import Derived.Test.YtnohhmopiflboaaNode45
import Derived.Test.YtnohhmopiflboaaNode33
set_option linter.unusedVariables false
set_option linter.unusedSimpArgs false
namespace Go.Proofs.Ytnohhmopiflboaa.Nod
open Go.RowKit Go.Proofs.Ytnohhmopiflboaa.Base Go.Proofs.Ytnohhmopiflboaa.Byt Go.Proofs.Ytnohhmopiflboaa.Rd Go.Proofs.Ytnohhmopiflboaa.App

theorem sMany_one {α : Type} (f : SSt → α × SSt) (m : Nat) (s : SSt) (h : s.2 = true) (cs : List α) :
    (cs ++ (sMany f (m + 1) s).1, (sMany f (m + 1) s).2) = ((cs ++ [(f s).1]) ++ (sMany f m (f s).2).1, (sMany f m (f s).2).2) := by
  simp [sMany, h]
theorem sMany_end {α : Type} (f : SSt → α × SSt) (m : Nat) (s : SSt) (h : m = 0 ∨ s.2 = false) (cs : List α) :
    (cs ++ (sMany f m s).1, (sMany f m s).2) = (cs, s) := by
  cases m with
  | zero => simp [sMany]
  | succ m =>
    rcases h with h | h
    · omega
    · simp [sMany, h]
theorem sNode_leaf {s : SSt} (h1 : (sTake 1 s).1.getD 0 0 = 1) : sNode s = ((true, (sMany sCell (sTwo (sTake 1 s).2).1.toNat (sTwo (sTake 1 s).2).2).1, [], []), (sMany sCell (sTwo (sTake 1 s).2).1.toNat (sTwo (sTake 1 s).2).2).2) := by
  unfold sNode
  rw [if_pos h1]
/-- The row of a cell's value, made anew. -/
theorem own_at {w w1 : World} {e g B : Nat} (h : Fr (fun k => k = g) (w.alloc (.cells #[] 5)) w1) (he : w.heap.size = e) (hg : g < e) (hB : B ≤ e) : w1.ownsRow B 5 1 (.slice (some ⟨e, 0, none⟩) 0 0) 0 [] := own_empty_fr h he hg hB

set_option maxRecDepth 100000 in
set_option maxHeartbeats 6400000 in
theorem snode_leaf (B g : Nat) (s : SSt) (w : World) (h : Rdr w B g s) (h1 : (sTake 1 s).1.getD 0 0 = 1) :
    Calls Try.prog 47 #[.pointer (some ⟨g, 0, none⟩)] w (SNoded w B g s) := by
  have hgl := h.lt
  have HGL := Asd.mk hgl
  have HR0 : Asd (Rdr (w.alloc (.cells #[.bool false, .slice none 0 0, .slice none 0 0, .slice none 0 0] 26)) B g s) := Asd.mk (h.below (below_alloc (Below.refl _ _) _))
  have HF0 : Asd (Fr (fun k => k = g) w (w.alloc (.cells #[.bool false, .slice none 0 0, .slice none 0 0, .slice none 0 0] 26))) := Asd.mk ((Fr.refl _ _).alloc _)
  have HRES0 := Asd.mk (blk_new w (.cells #[.bool false, .slice none 0 0, .slice none 0 0, .slice none 0 0] 26))
  have HSN := Asd.mk (sNode_leaf h1)
  have HY := Asd.mk h1
  clear h h1
  go_enter Try.func47, Try.ntmps47
  go_wp2_with fail
  refine (stake_calls B g 1 s _ (by omega) HR0.out).mono ?_
  rintro e w1 ⟨hfr, hrd, A, c, rfl, hc2, hz, hib⟩
  have HST := Asd.mk (SdSt.start (x0 := true) HGL.out (blk_fr HRES0.out hfr (by omega)) (HF0.out.trans hfr (fun _ h _ => h) (fun _ h _ => h)) hrd)
  obtain ⟨b, o, rfl, hcell⟩ := hib.2.2 (by omega)
  have q0 := hcell 0 (by omega)
  rw [HY.out, show bcell (1 : UInt8) = .int .u8 1 from rfl, Nat.add_zero] at q0
  generalize sTake 1 s = q at HST HSN
  clear hfr hrd hib hcell hz HY HR0 HF0 HRES0
  go_wp2_with fail
  refine (stwo_calls B g q.2 _ HST.out.rdr).mono ?_
  rintro e w3 ⟨hfr, hrd, rfl⟩
  have HST3 := Asd.mk (HST.out.took hfr hrd)
  have hn := sTwo_lt q.2
  generalize hnn : sTwo q.2 = nn at HST3 HSN hn
  obtain ⟨cnt, s1⟩ := nn
  dsimp only at HST3 HSN hn
  obtain ⟨N, rfl⟩ : ∃ N : Nat, cnt = (N : Int) := ⟨cnt.toNat, by omega⟩
  have HSN2 : Asd (sNode s = ((true, (sMany sCell N s1).1, [], []), (sMany sCell N s1).2)) := Asd.mk (by have := HSN.out; simpa using this)
  have hN : N < 65536 := by omega
  generalize hnb : w1.heap.size = nb at HST HST3
  have p0 := (blk_cell HST3.out.box 0).trans rfl
  clear hfr hrd hn hnn HSN HST q0
  dsimp only
  go_wp2
  go_loopw [5] (fun i wr => ∃ (k : Nat) (s4 : SSt) (vc : Value) (cs : List PCell) (ps : List PV), k ≤ N ∧ i = .int .i64 (k : Int) ∧ Asd (SdSt w wr B g nb s4 true vc (.slice none 0 0) (.slice none 0 0) cs [] [] ps []) ∧ Asd (cs.length = k) ∧ Asd (sNode s = ((true, (cs ++ (sMany sCell (N - k) s4).1), [], []), (sMany sCell (N - k) s4).2))) (fun i _ => N - (intOf i).toNat)
  case atStart => exact ⟨0, s1, _, [], [], by omega, rfl, HST3, ⟨rfl⟩, ⟨by rw [HSN2.out]; simp⟩⟩
  case round =>
    obtain ⟨k, s4, vc, cs, ps, hk, rfl, HS, HK, HR⟩ := hrel
    have p0 := (blk_cell HS.out.box 0).trans rfl
    obtain ⟨A9, m9, c9, hr9, _⟩ := HS.out.rdr.out
    have r1 := (blk_cell hr9 1).trans rfl
    clear hr9
    by_cases hlt : k < N ∧ s4.2 = true
    · obtain ⟨hlt, hok⟩ := hlt
      rw [hok] at r1
      have HRR : Asd (sNode s = ((true, ((cs ++ [(sCell s4).1]) ++ (sMany sCell (N - (k + 1)) (sCell s4).2).1), [], []), (sMany sCell (N - (k + 1)) (sCell s4).2).2)) := Asd.mk (by
        have h1 := sMany_one sCell (N - (k + 1)) s4 hok cs
        rw [show N - (k + 1) + 1 = N - k by omega] at h1
        injection h1 with h1 h2
        rw [HR.out, h1, h2])
      have HNB : Asd (nb < wr.heap.size) := Asd.mk (blk_lt HS.out.box)
      clear hok
      go_wp2_with fail
      refine (skey_calls B g s4 wr HS.out.rdr).mono ?_
      rintro e w4 ⟨hfr, hrd, Ak, ck, rfl, hok⟩
      have HS4 := Asd.mk (HS.out.took hfr hrd)
      have HCE : Asd (sCell s4 = if 64 < (sTwo (sKey s4).2).1 then (((sKey s4).1, [], (sTwo (sTwo (sKey s4).2).2).1, (sTwo (sKey s4).2).1), (sTwo (sTwo (sKey s4).2).2).2)
        else (((sKey s4).1, (sTake (sTwo (sKey s4).2).1.toNat (sTwo (sKey s4).2).2).1, 0, (sTwo (sKey s4).2).1), (sTake (sTwo (sKey s4).2).1.toNat (sTwo (sKey s4).2).2).2)) := Asd.mk rfl
      have hkl := sKey_len s4
      generalize sKey s4 = kk at HS4 HCE hok hkl ⊢
      obtain ⟨key, s5⟩ := kk
      dsimp only at HS4 HCE hok hkl ⊢
      have HOK4 : Asd (OwnM w4 (w.heap.size + 1) Ak key.length ck key) := Asd.mk (own_base hok (by have := HNB.out; have := HS.out.nb; omega))
      have HS4N : Asd (nb < w4.heap.size) := Asd.mk (blk_lt HS4.out.box)
      clear hfr hrd hok
      go_wp2_with fail
      refine (stwo_calls B g s5 w4 HS4.out.rdr).mono ?_
      rintro e w5 ⟨hfr, hrd, rfl⟩
      have HS5 := Asd.mk (HS4.out.took hfr hrd)
      have HOK5 : Asd (OwnM w5 (w.heap.size + 1) Ak key.length ck key) := Asd.mk ((above_fr hfr (by have := HS.out.old; omega)).own HOK4.out)
      have hn := sTwo_lt s5
      generalize sTwo s5 = nn at HS5 HCE hn ⊢
      obtain ⟨sz, s6⟩ := nn
      dsimp only at HS5 HCE hn ⊢
      obtain ⟨S, rfl⟩ : ∃ S : Nat, sz = (S : Int) := ⟨sz.toNat, by omega⟩
      have hS : S < 65536 := by omega
      have HNB5 : Asd (nb < w5.heap.size) := Asd.mk (blk_lt HS5.out.box)
      clear hfr hrd hn HS4 HOK4 p0 r1
      have HCB := Asd.mk (blk_new w5 (.cells #[.slice Ak key.length ck, .slice none 0 0, .int .i64 0, .int .i64 (S : Int)] 78))
      have HS6 := Asd.mk (HS5.out.alloc (.cells #[.slice Ak key.length ck, .slice none 0 0, .int .i64 0, .int .i64 (S : Int)] 78))
      have HOK6 := Asd.mk (HOK5.out.alloc (.cells #[.slice Ak key.length ck, .slice none 0 0, .int .i64 0, .int .i64 (S : Int)] 78))
      have HROW : Asd (∀ k, vc.ownBlock = some k → k < w5.heap.size) := Asd.mk (fun k hk => (HS5.out.cells.own.lt k hk).2)
      by_cases hbig : 64 < S
      · have hce : sCell s4 = ((key, [], (sTwo s6).1, (S : Int)), (sTwo s6).2) := by rw [HCE.out, if_pos (by omega)]
        rw [hce] at HRR
        clear hce HCE
        go_wp2_with fail
        refine (stwo_calls B g s6 _ HS6.out.rdr).mono ?_
        rintro e w7 ⟨hfr, hrd, rfl⟩
        have HS7 := Asd.mk (HS6.out.took hfr hrd)
        generalize sTwo s6 = nn at HS7 HRR ⊢
        obtain ⟨ov, s7⟩ := nn
        dsimp only at HS7 HRR ⊢
        have HCB7 := Asd.mk (blk_fr HCB.out hfr (by have := HNB5.out; have := HS5.out.nb; have := HS5.out.old; omega))
        have HK7 := Asd.mk ((above_fr hfr (B := w.heap.size + 1) (by have := HS.out.old; omega)).own HOK6.out)
        have c2 := (blk_cell HCB7.out 2).trans rfl
        have z2 := blk_frozen HCB7.out 2
        clear hfr hrd HS6 HOK6 HCB
        go_upto_region 15 with fail
        have HC8 := Asd.mk (blk_set HCB7.out 2 (.int .i64 ov))
        have HS8 := Asd.mk (HS7.out.setC HROW.out HCB7.out HNB5.out 2 (.int .i64 ov))
        have HOKK : Asd (OwnB (w7.setCell ⟨w5.heap.size, 2, none⟩ (.int .i64 ov)) (w.heap.size + 1) (.slice Ak key.length ck) key) := Asd.mk (OwnM.own (((KeepT.refl _ w7).setCell (p := ⟨w5.heap.size, 2, none⟩) HCB7.out (by decide) (.int .i64 ov)).own HK7.out))
        have HOKV : Asd (OwnB (w7.setCell ⟨w5.heap.size, 2, none⟩ (.int .i64 ov)) (w.heap.size + 1) (.slice none 0 0) []) := Asd.mk own_nil
        simp only [List.setIfInBounds_toArray, List.set_cons_zero, List.set_cons_succ] at HC8
        generalize w7.setCell ⟨w5.heap.size, 2, none⟩ (.int .i64 ov) = w8 at HC8 HS8 HOKK HOKV ⊢
        clear c2 z2
        have hvc := own_form HS8.out.cells.own
        rw [HK.out] at hvc
        obtain ⟨Av0, cv0, hvc⟩ := hvc
        have HVC := Asd.mk hvc
        have c0 := (blk_cell HC8.out 0).trans rfl
        have c1 := (blk_cell HC8.out 1).trans rfl
        have c2 := (blk_cell HC8.out 2).trans rfl
        have c3 := (blk_cell HC8.out 3).trans rfl
        have b1 := (blk_cell HS8.out.box 1).trans rfl
        have HSZ8 : Asd (w.heap.size + 1 ≤ w8.heap.size) := Asd.mk (by have := blk_lt HS8.out.box; have := HS8.out.nb; omega)
        have HOW : Asd ((w8.alloc (.cells #[.slice Ak key.length ck, .slice none 0 0, .int .i64 ov, .int .i64 (S : Int)] 78)).ownsRow (w.heap.size + 1) 78 4 vc k (cells4 ps)) := Asd.mk (by have := HS8.out.cells.own; rw [HK.out] at this; exact this.alloc _)
        have HS8A := Asd.mk (HS8.out.alloc (.cells #[.slice Ak key.length ck, .slice none 0 0, .int .i64 ov, .int .i64 (S : Int)] 78))
        have hlt8 := blk_lt HS8.out.box
        clear hvc
        go_wp2_with (at_builtin; refine wpList_src rfl (.tmp 72) (.tmp 74) _ rfl rowRC vc rfl HOW.out (some ⟨w8.heap.size, 0, none⟩) 1 1 rfl (Feeds.of_block (blk_new w8 _) rfl (by simp [Value.oneCell'])) (by unfold maxLen; omega) (by omega) (Nat.le_trans HSZ8.out (by simp)) ?_)
        intro A9 c9 w9 ho9 hg9
        have HBX9 := Asd.mk (blk_grown HS8A.out.box HOW.out hg9 (by decide))
        have HS9 := Asd.mk (HS8A.out.addCell (key := key) hg9 ho9 HK.out.symm (HOKK.out.alloc _) (HOKV.out.alloc _))
        have b9 := (blk_cell HBX9.out 1).trans rfl
        have z9 := blk_frozen HBX9.out 1
        clear ho9 hg9 c0 c1 c2 c3 b1
        go_wp2
        go_roundw
        case rel => exact ⟨k + 1, _, _, _, _, by omega, by go_num, HS9, ⟨by simp [HK.out]⟩, HRR⟩
        case measure => simp [intOf]; omega
      · have hce : sCell s4 = ((key, (sTake S s6).1, 0, (S : Int)), (sTake S s6).2) := by rw [HCE.out, if_neg (by omega)]; rfl
        rw [hce] at HRR
        have HS6B := Asd.mk (HS6.out.alloc (.cells #[] 5))
        have c3 := (blk_cell (blk_alloc HCB.out (.cells #[] 5)) 3).trans rfl
        clear hce HCE
        go_wp2_with fail
        refine (stake_calls B g S s6 _ (by omega) HS6B.out.rdr).mono ?_
        rintro e w6 ⟨hfr, hrd, Av, cv, rfl, hcv, hzv, hib⟩
        have HS6C := Asd.mk (HS6B.out.took hfr hrd)
        generalize sTake S s6 = nn at HS6C HRR hib hrd ⊢
        obtain ⟨val, s7⟩ := nn
        dsimp only at HS6C HRR hib hrd ⊢
        have HFR6 := Asd.mk hfr
        have HRD6 := Asd.mk hrd
        have HCB6 := Asd.mk (blk_fr (blk_alloc HCB.out (.cells #[] 5)) hfr (by have := HNB5.out; have := HS5.out.nb; have := HS5.out.old; omega))
        have HO6 : Asd (w6.ownsRow (w.heap.size + 1) 5 1 (.slice (some ⟨w5.heap.size + 1, 0, none⟩) 0 0) 0 []) := Asd.mk (own_at hfr (by simp) (by have := HNB5.out; have := HS5.out.nb; have := HS5.out.old; omega) (by have := HNB5.out; have := HS5.out.nb; omega))
        have HF6 := Asd.mk (src_bytes (c := cv) hib hzv)
        have hsz6 : w.heap.size + 1 ≤ w6.heap.size := by have := blk_lt HCB6.out; have := HNB5.out; have := HS5.out.nb; omega
        clear hfr hrd hib hzv c3 HS6B HS6C
        have c3 := (blk_cell HCB6.out 3).trans rfl
        go_wp2_with (at_builtin; refine wpList_src rfl (.tmp 64) (.tmp 68) _ rfl rowB _ rfl HO6.out Av S cv rfl HF6.out (by unfold maxLen; omega) (by omega) hsz6 ?_)
        intro Aw cw w7 ho7 hg7
        have HG7 : Asd (w6.grownBy w7 (some (w5.alloc (.cells #[.slice Ak key.length ck, .slice none 0 0, .int .i64 0, .int .i64 (S : Int)] 78)).heap.size)) := Asd.mk (by rw [show (w5.alloc (.cells #[.slice Ak key.length ck, .slice none 0 0, .int .i64 0, .int .i64 (S : Int)] 78)).heap.size = w5.heap.size + 1 by simp]; exact hg7)
        have HF7 := Asd.mk (fr_new HFR6.out HG7.out)
        have HS7 := Asd.mk (HS6.out.took HF7.out (HRD6.out.grown hg7 (fun k hk => by have h3 := HNB5.out; have h4 := HS5.out.nb; have h5 := HS5.out.old; have h6 : w5.heap.size + 1 = k := Option.some.inj hk; omega)))
        have HCB7 := Asd.mk (blk_fr HCB.out HF7.out (by have := HNB5.out; have := HS5.out.nb; have := HS5.out.old; omega))
        have HK7 := Asd.mk ((above_fr HF7.out (B := w.heap.size + 1) (by have := HS.out.old; omega)).own HOK6.out)
        have HV7 : Asd (OwnM w7 (w.heap.size + 1) Aw S cw val) := Asd.mk (by
          have h2 := ho7
          try simp only [Nat.zero_add, List.nil_append] at h2
          exact h2)
        clear ho7 hg7 c3
        have c2 := (blk_cell HCB7.out 1).trans rfl
        have z2 := blk_frozen HCB7.out 1
        go_upto_region 15 with fail
        have HC8 := Asd.mk (blk_set HCB7.out 1 (.slice Aw S cw))
        have HS8 := Asd.mk (HS7.out.setC HROW.out HCB7.out HNB5.out 1 (.slice Aw S cw))
        have HOKK : Asd (OwnB (w7.setCell ⟨w5.heap.size, 1, none⟩ (.slice Aw S cw)) (w.heap.size + 1) (.slice Ak key.length ck) key) := Asd.mk (OwnM.own (((KeepT.refl _ w7).setCell (p := ⟨w5.heap.size, 1, none⟩) HCB7.out (by decide) (.slice Aw S cw)).own HK7.out))
        have HOKV : Asd (OwnB (w7.setCell ⟨w5.heap.size, 1, none⟩ (.slice Aw S cw)) (w.heap.size + 1) (.slice Aw S cw) val) := Asd.mk (OwnM.own (((KeepT.refl _ w7).setCell (p := ⟨w5.heap.size, 1, none⟩) HCB7.out (by decide) (.slice Aw S cw)).own HV7.out))
        simp only [List.setIfInBounds_toArray, List.set_cons_zero, List.set_cons_succ] at HC8
        generalize w7.setCell ⟨w5.heap.size, 1, none⟩ (.slice Aw S cw) = w8 at HC8 HS8 HOKK HOKV ⊢
        clear c2 z2
        have hvc := own_form HS8.out.cells.own
        rw [HK.out] at hvc
        obtain ⟨Av0, cv0, hvc⟩ := hvc
        have HVC := Asd.mk hvc
        have c0 := (blk_cell HC8.out 0).trans rfl
        have c1 := (blk_cell HC8.out 1).trans rfl
        have c2 := (blk_cell HC8.out 2).trans rfl
        have c3 := (blk_cell HC8.out 3).trans rfl
        have b1 := (blk_cell HS8.out.box 1).trans rfl
        have HSZ8 : Asd (w.heap.size + 1 ≤ w8.heap.size) := Asd.mk (by have := blk_lt HS8.out.box; have := HS8.out.nb; omega)
        have HOW : Asd ((w8.alloc (.cells #[.slice Ak key.length ck, .slice Aw S cw, .int .i64 0, .int .i64 (S : Int)] 78)).ownsRow (w.heap.size + 1) 78 4 vc k (cells4 ps)) := Asd.mk (by have := HS8.out.cells.own; rw [HK.out] at this; exact this.alloc _)
        have HS8A := Asd.mk (HS8.out.alloc (.cells #[.slice Ak key.length ck, .slice Aw S cw, .int .i64 0, .int .i64 (S : Int)] 78))
        have hlt8 := blk_lt HS8.out.box
        clear hvc
        go_wp2_with (at_builtin; refine wpList_src rfl (.tmp 72) (.tmp 74) _ rfl rowRC vc rfl HOW.out (some ⟨w8.heap.size, 0, none⟩) 1 1 rfl (Feeds.of_block (blk_new w8 _) rfl (by simp [Value.oneCell'])) (by unfold maxLen; omega) (by omega) (Nat.le_trans HSZ8.out (by simp)) ?_)
        intro A9 c9 w9 ho9 hg9
        have HBX9 := Asd.mk (blk_grown HS8A.out.box HOW.out hg9 (by decide))
        have HS9 := Asd.mk (HS8A.out.addCell (key := key) hg9 ho9 HK.out.symm (HOKK.out.alloc _) (HOKV.out.alloc _))
        have b9 := (blk_cell HBX9.out 1).trans rfl
        have z9 := blk_frozen HBX9.out 1
        clear ho9 hg9 c0 c1 c2 c3 b1
        go_wp2
        go_roundw
        case rel => exact ⟨k + 1, _, _, _, _, by omega, by go_num, HS9, ⟨by simp [HK.out]⟩, HRR⟩
        case measure => simp [intOf]; omega
    · have HE : Asd (sNode s = ((true, cs, [], []), s4)) := Asd.mk (by
        have h1 := sMany_end sCell (N - k) s4 (by
          by_cases h2 : k < N
          · right
            cases h3 : s4.2 with
            | false => rfl
            | true => exact absurd ⟨h2, h3⟩ hlt
          · left; omega) cs
        injection h1 with h1 h2
        rw [HR.out, h1, h2])
      obtain ⟨Av0, cv0, hvc⟩ := own_form HS.out.cells.own
      subst hvc
      have HFIN := Asd.mk (sd_fin HS.out HE.out)
      have b1 := (blk_cell HS.out.box 1).trans rfl
      have b2 := (blk_cell HS.out.box 2).trans rfl
      have b3 := (blk_cell HS.out.box 3).trans rfl
      have e0 := (blk_cell HS.out.res 0).trans rfl
      have e1 := (blk_cell HS.out.res 1).trans rfl
      have e2 := (blk_cell HS.out.res 2).trans rfl
      have e3 := (blk_cell HS.out.res 3).trans rfl
      have x0 := blk_frozen HS.out.res 0
      have x1 := blk_frozen HS.out.res 1
      have x2 := blk_frozen HS.out.res 2
      have x3 := blk_frozen HS.out.res 3
      have hcl := HK.out
      cases hs4 : s4.2 with
      | false =>
        rw [hs4] at r1
        clear hs4 hlt hcl
        go_wp2
        all_goals
          (try simp only [Exit.inBlock, Exit.then])
          refine bodyPost_ret (results_cell_row rfl _ _ w.heap.size 26 _ (0, 0) _ rfl HFIN.out.2 Try.underlying26 rfl (by kernel_rfl)) rfl ?_
          exact HFIN.out.1
      | true =>
        rw [hs4] at r1
        have hge : ¬ k < N := fun h => hlt ⟨h, hs4⟩
        clear hs4 hlt hcl
        go_wp2
        (try simp only [Exit.inBlock, Exit.then])
        refine bodyPost_ret (results_cell_row rfl _ _ w.heap.size 26 _ (0, 0) _ rfl HFIN.out.2 Try.underlying26 rfl (by kernel_rfl)) rfl ?_
        exact HFIN.out.1
end Go.Proofs.Ytnohhmopiflboaa.Nod
