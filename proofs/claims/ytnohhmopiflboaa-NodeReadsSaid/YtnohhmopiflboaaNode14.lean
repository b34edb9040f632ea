/- Its: the node as the program has it; all of it is the call's own. -/
import Derived.Test.YtnohhmopiflboaaNode13
set_option linter.unusedVariables false
set_option linter.unusedSimpArgs false
namespace Go.Proofs.Ytnohhmopiflboaa.Nod
open Go.RowKit Go.Proofs.Ytnohhmopiflboaa.Base Go.Proofs.Ytnohhmopiflboaa.Byt Go.Proofs.Ytnohhmopiflboaa.Rd Go.Proofs.Ytnohhmopiflboaa.App

set_option maxRecDepth 100000 in
set_option maxHeartbeats 3200000 in
theorem its_calls (v0 v1 v2 v3 : Value) (x : PNode) (w : World) (h : rNode w [v0, v1, v2, v3] x) :
    Calls Try.prog 11 #[.agg #[v0, v1, v2, v3]] w (GivesNode 61 w x) := by
  obtain ⟨A1, n1, c1, A2, n2, c2, A3, n3, c3, rfl, rfl, rfl, rfl, hna⟩ := node_of h
  have HNA := Asd.mk hna
  have HSN := Asd.mk hna.sane
  have hl1 := Asd.mk hna.cells.1
  have hl2 := Asd.mk hna.keys.1
  have hl3 := Asd.mk hna.kids.1
  have hb1 : n1 * 64 ≤ 140737488351232 := hna.b1
  have hb2 : n2 * 24 ≤ 140737488351232 := hna.b2
  have hb3 : n3 * 8 ≤ 140737488351232 := hna.b3
  have HSRC := Asd.mk (src_kids hna.kids hna.z3)
  generalize hx0 : x.1 = x0
  have HX0 := Asd.mk hx0
  clear h hna hx0
  go_enter Try.func11, Try.ntmps11
  go_upto_region 1 with fail
  have HN := Asd.mk (blk_alloc (blk_new w (.cells #[.bool x0, .slice A1 n1 c1, .slice A2 n2 c2, .slice A3 n3 c3] 26)) (.cells #[.bool false, .slice none 0 0, .slice none 0 0, .slice none 0 0] 29))
  have HR := Asd.mk (blk_new (w.alloc (.cells #[.bool x0, .slice A1 n1 c1, .slice A2 n2 c2, .slice A3 n3 c3] 26)) (.cells #[.bool false, .slice none 0 0, .slice none 0 0, .slice none 0 0] 29))
  have HB0 := Asd.mk (below_alloc (below_alloc (Below.refl w.heap.size w) (.cells #[.bool x0, .slice A1 n1 c1, .slice A2 n2 c2, .slice A3 n3 c3] 26)) (.cells #[.bool false, .slice none 0 0, .slice none 0 0, .slice none 0 0] 29))
  have hsz : ((w.alloc (.cells #[.bool x0, .slice A1 n1 c1, .slice A2 n2 c2, .slice A3 n3 c3] 26)).alloc (.cells #[.bool false, .slice none 0 0, .slice none 0 0, .slice none 0 0] 29)).heap.size = w.heap.size + 2 := by simp
  have hszr : (w.alloc (.cells #[.bool x0, .slice A1 n1 c1, .slice A2 n2 c2, .slice A3 n3 c3] 26)).heap.size = w.heap.size + 1 := by simp
  rw [hszr] at HR
  generalize ((w.alloc (.cells #[.bool x0, .slice A1 n1 c1, .slice A2 n2 c2, .slice A3 n3 c3] 26)).alloc (.cells #[.bool false, .slice none 0 0, .slice none 0 0, .slice none 0 0] 29)) = W0 at HN HR HB0 hsz ⊢
  clear hszr
  have HS : Asd (∀ w', Below W0.heap.size W0 w' → w'.cell? ⟨w.heap.size, 0, none⟩ = some (.bool x0) ∧ w'.cell? ⟨w.heap.size, 3, none⟩ = some (.slice A3 n3 c3) ∧ Below W0.heap.size W0 w') := Asd.mk fun w' hb =>
    ⟨(blk_cell ((hb.block _ (blk_lt HN.out)).trans HN.out) 0).trans rfl, (blk_cell ((hb.block _ (blk_lt HN.out)).trans HN.out) 3).trans rfl, hb⟩
  have HX : Asd (∀ (V : World) (b : Nat), V.heap.size = b → (V.alloc (.cells #[.bool false, .slice none 0 0, .slice none 0 0, .slice none 0 0] 29)).heap[b]? = some (.cells #[.bool false, .slice none 0 0, .slice none 0 0, .slice none 0 0] 29 (0, 0))) := Asd.mk fun V b h1 => by subst h1; exact blk_new _ _
  have HOE : Asd (∀ (V : World) (b : Nat), V.heap.size = b → w.heap.size + 2 ≤ b → (V.alloc (.cells #[] 3)).ownsRow (w.heap.size + 2) 3 1 (.slice (some ⟨b, 0, none⟩) 0 0) 0 []) := Asd.mk fun V b h1 h2 => own_empty_new h1 h2
  go_cut [3] (fun s wx => ∃ (g : Nat) (u : Value), s = .pointer (some ⟨g, 0, none⟩) ∧ Mid 26 29 w wx g #[.bool x0, .slice A1 n1 c1, .slice A2 n2 c2, .slice A3 n3 c3] #[.bool x0, .slice none 0 0, .slice none 0 0, u] ∧ OwnKids wx w.heap.size u x.2.2.2)
  case first =>
    go_region_held3 (fun w' => w'.cell? ⟨w.heap.size, 0, none⟩ = some (.bool x0) ∧ w'.cell? ⟨w.heap.size, 3, none⟩ = some (.slice A3 n3 c3) ∧ Below W0.heap.size W0 w')
      (first
        | (go_split_ands; exact HS.out _ (by assumption))
        | exact HS.out _ (Below.refl _ _).drew
        | (go_split_ands; exact HS.out _ (below_alloc (by assumption) _))
        | exact HS.out _ HB1.out
        | exact HS.out _ (below_alloc HB1.out _)
        | (go_split_ands; refine HS.out _ ?_; refine below_set (below_set (below_set (below_set (by assumption) (by first | omega | (simp; omega)) _) (by first | omega | (simp; omega)) _) (by first | omega | (simp; omega)) _) (by first | omega | (simp; omega)) _))
      (first
        | (go_split_ands
           refine step_src0 (by rfl) _ _ _ (by rfl) rowI (w.heap.size + 2) (by rfl) (by first | exact HOE.out _ _ hsz (by simp) | exact HOE.out _ _ (by simp [hsz]) (by omega) | exact (HOE.out _ _ hsz (by simp)).alloc _ | exact (HOE.out _ _ (by simp [hsz]) (by omega)).alloc _ | fail) A3 n3 c3 (by rfl) (HSRC.out.below (HB0.out.trans (Below.mono (by assumption) (by omega : w.heap.size ≤ W0.heap.size)))) (by unfold maxLen; omega) (by omega) (by simp; omega) ?_
           intro gg cap w1 hown0 hgrow0
           have HB1 : Asd (Below W0.heap.size W0 w1) := Asd.mk (below_grown_at (by assumption) hgrow0 (by omega))
           have hs1 : w.heap.size + 2 < w1.heap.size := Nat.lt_of_lt_of_le (by simp; omega) hgrow0.size
           try (have hxb := (hgrow0.block (w.heap.size + 2) (by simp; omega) (by simp)).trans (blk_alloc (HX.out W0.drew _ hsz) _)
                have q0 := (blk_cell hxb 0).trans rfl
                have q1 := (blk_cell hxb 1).trans rfl
                have q2 := (blk_cell hxb 2).trans rfl
                have q3 := (blk_cell hxb 3).trans rfl
                have z0 := blk_frozen hxb 0
                have z1 := blk_frozen hxb 1
                have z2 := blk_frozen hxb 2
                have z3 := blk_frozen hxb 3)
           try (have hxb := (hgrow0.block (w.heap.size + 3) (by simp; omega) (by simp)).trans (HX.out (W0.drew.alloc _) _ (by simp; omega))
                have q0 := (blk_cell hxb 0).trans rfl
                have q1 := (blk_cell hxb 1).trans rfl
                have q2 := (blk_cell hxb 2).trans rfl
                have q3 := (blk_cell hxb 3).trans rfl
                have z0 := blk_frozen hxb 0
                have z1 := blk_frozen hxb 1
                have z2 := blk_frozen hxb 2
                have z3 := blk_frozen hxb 3))
        | fail)
    all_goals
      go_wp2_with fail
      go_meet
    · exact ⟨_, _, rfl, fin_alloc HN.out HR.out HB0.out hsz HB1.out hown0 hl3.out⟩
    · exact ⟨_, _, rfl, fin_set (by decide) HN.out HR.out HB0.out hsz HB1.out hown0 hl3.out (by omega) hxb⟩
    · exact ⟨_, _, rfl, fin_set (by decide) HN.out HR.out HB0.out hsz HB1.out hown0 hl3.out (by omega) hxb⟩
  case rest =>
    obtain ⟨g, u, rfl, hm, hkd⟩ := hcut
    have HM := Asd.mk hm
    have HKD := Asd.mk hkd
    have p1 := (blk_cell hm.n 1).trans rfl
    clear hm hkd HS HX HOE HN HR HB0 hsz
    go_wp2
    go_loopw [4] (fun i wr => ∃ (k : Nat) (vc : Value) (ps : List PV), k ≤ n1 ∧ i = .int .i64 (k : Int) ∧ Asd (Mid 26 29 w wr g #[.bool x0, .slice A1 n1 c1, .slice A2 n2 c2, .slice A3 n3 c3] #[.bool x0, vc, .slice none 0 0, u]) ∧ Asd (OwnCells 61 wr w.heap.size vc (x.2.1.take k) ps) ∧ Asd (OwnKids wr w.heap.size u x.2.2.2)) (fun i _ => n1 - (intOf i).toNat)
    case atStart => exact ⟨0, .slice none 0 0, [], by omega, rfl, HM, ⟨OwnCells.nil _ _ _⟩, HKD⟩
    case round =>
      obtain ⟨k, vc, ps, hk, rfl, HM, HC, HKD⟩ := hrel
      have p1 := (blk_cell HM.out.n 1).trans rfl
      by_cases hlt : k < n1
      · have hkl : k < x.2.1.length := by rw [hl1.out]; exact hlt
        obtain ⟨b, o, Ak, nk, ck, Av, nv, cv, rfl, hbl, q0, q1, q2, q3, ib0, ib1, zk, zv, hnk, hnv⟩ := cell_at (HNA.out.below HM.out.below).cells k hkl
        have HTS := Asd.mk (take_snoc x.2.1 k hkl)
        have HTL : Asd (k = (x.2.1.take k).length) := Asd.mk (by rw [List.length_take]; omega)
        generalize hcell : x.2.1[k] = cell at HTS q2 q3 ib0 ib1
        obtain ⟨key, val, over, size⟩ := cell
        have HIB0 := Asd.mk ib0
        have HIB1 := Asd.mk ib1
        have HZK := Asd.mk zk
        have HZV := Asd.mk zv
        clear ib0 ib1 zk zv hcell
        simp only at q2 q3
        go_upto_region 6 with fail
        have HCB := Asd.mk (blk_new wr (.cells #[.slice Ak nk ck, .slice Av nv cv, .int .i64 over, .int .i64 size] 78))
        have HM1 := Asd.mk (HM.out.alloc (.cells #[.slice Ak nk ck, .slice Av nv cv, .int .i64 over, .int .i64 size] 78))
        have HC1 := Asd.mk (HC.out.keep ((KeepT.refl _ _).alloc (.cells #[.slice Ak nk ck, .slice Av nv cv, .int .i64 over, .int .i64 size] 78)) ((KeepT.refl _ _).alloc _))
        have HKD1 := Asd.mk (HKD.out.keep ((KeepT.refl _ _).alloc (.cells #[.slice Ak nk ck, .slice Av nv cv, .int .i64 over, .int .i64 size] 78)))
        have HB1 := Asd.mk (below_alloc (Below.refl _ wr) (.cells #[.slice Ak nk ck, .slice Av nv cv, .int .i64 over, .int .i64 size] 78))
        generalize wr.alloc (.cells #[.slice Ak nk ck, .slice Av nv cv, .int .i64 over, .int .i64 size] 78) = W1 at HCB HM1 HC1 HKD1 HB1 ⊢
        have HI0 : Asd (IsBytes W1.drew Ak nk key) := Asd.mk (HIB0.out.below HB1.out.drew)
        have HI1 : Asd (IsBytes W1.drew Av nv val) := Asd.mk (HIB1.out.below HB1.out.drew)
        have hvc : ∃ A c, vc = .slice A k c := by
          obtain ⟨A, c, e⟩ := own_form HC1.out.own
          exact ⟨A, c, by rw [e, ← HTL.out]⟩
        have HOW : Asd (W1.ownsRow w.heap.size 61 4 vc k (cells4 ps)) := Asd.mk (by have := HC1.out.own; rw [← HTL.out] at this; exact this)
        have HS : Asd (∀ w', KeepT 78 W1 w' → w'.cell? ⟨wr.heap.size, 0, none⟩ = some (.slice Ak nk ck) ∧ w'.cell? ⟨wr.heap.size, 1, none⟩ = some (.slice Av nv cv) ∧ w'.cell? ⟨wr.heap.size, 2, none⟩ = some (.int .i64 over) ∧ w'.cell? ⟨wr.heap.size, 3, none⟩ = some (.int .i64 size) ∧ KeepT 78 W1 w') := Asd.mk fun w' hb =>
          ⟨(blk_cell (hb _ _ _ HCB.out) 0).trans rfl, (blk_cell (hb _ _ _ HCB.out) 1).trans rfl, (blk_cell (hb _ _ _ HCB.out) 2).trans rfl, (blk_cell (hb _ _ _ HCB.out) 3).trans rfl, hb⟩
        have x1 : W1.cell? ⟨g, 1, none⟩ = some vc := (blk_cell HM1.out.x 1).trans rfl
        clear p1 q0 q1 q2 q3
        rw [show Op.load 27 (.tmp 26) = id (Op.load 27 (.tmp 26)) from rfl]
        go_region_held3 (fun w' => w'.cell? ⟨wr.heap.size, 0, none⟩ = some (.slice Ak nk ck) ∧ w'.cell? ⟨wr.heap.size, 1, none⟩ = some (.slice Av nv cv) ∧ w'.cell? ⟨wr.heap.size, 2, none⟩ = some (.int .i64 over) ∧ w'.cell? ⟨wr.heap.size, 3, none⟩ = some (.int .i64 size) ∧ KeepT 78 W1 w')
          (first
            | exact HS.out _ (KeepT.refl _ _)
            | exact HS.out _ HK2.out
            | exact HS.out _ (KeepT.alloc HK2.out _)
            | exact HS.out _ (KeepT.setCell HK2.out HM4.out.x (by decide) _)
            | (go_split_ands; exact HS.out _ (by assumption))
            | fail)
          (first
            | (go_at_call_of 24 (Value.slice Ak nk ck)
               refine (clone_calls Ak nk ck key W1.drew HI0.out HZK.out).mono ?_
               rintro e w2 ⟨vk, rfl, hok, hf2⟩
               obtain ⟨Ak', ck', rfl⟩ := own_form hok
               have HOK := Asd.mk hok
               have HF2 := Asd.mk hf2
               have HK2 : Asd (KeepT 78 W1 w2) := Asd.mk ((KeepT.refl _ _).drew.fr hf2)
               have HM2 := Asd.mk (HM1.out.drew.fr hf2)
               have HI2 : Asd (IsBytes w2 Av nv val) := Asd.mk (HI1.out.below (hf2.below (fun _ h => h.elim)))
               have x2 := (blk_cell HM2.out.x 1).trans rfl
               clear hok hf2)
            | (go_at_call_of 24 (Value.slice Av nv cv)
               refine (clone_calls Av nv cv val w2 HI2.out HZV.out).mono ?_
               rintro e w3 ⟨vk, rfl, hok, hf2⟩
               obtain ⟨Av', cv', rfl⟩ := own_form hok
               have HOV := Asd.mk hok
               have HF3 := Asd.mk hf2
               have HK3 : Asd (KeepT 78 W1 w3) := Asd.mk (HK2.out.fr hf2)
               have HK2 := HK3
               have HM3 := Asd.mk (HM2.out.fr hf2)
               have HOW3 : Asd (w3.ownsRow w.heap.size 61 4 vc k (cells4 ps)) := Asd.mk ((((KeepT.refl _ W1).drew.fr HF2.out).fr HF3.out).own HOW.out)
               have x3 := (blk_cell HM3.out.x 1).trans rfl
               have lt3 := blk_lt HM3.out.x
               clear hok hf2)
            | (refine step_src (by rfl) _ _ _ (by rfl) rowC vc (by rfl) (HOW3.out.alloc _) (some ⟨w3.heap.size, 0, none⟩) 1 1 (by rfl) (Feeds.of_block (blk_new _ _) rfl (by simp [Value.oneCell'])) (by unfold maxLen; omega) (by omega) (Nat.le_trans HM3.out.below.size (by simp)) ?_
               intro A4 c4 w4 hown4 hgr4
               have HGR := Asd.mk hgr4
               have HOW4 := Asd.mk hown4
               have HM4 := Asd.mk ((HM3.out.alloc _).grown (HOW3.out.alloc _) hgr4 (Nat.le_refl _) (by decide) (by decide))
               have HK4 : Asd (KeepT 78 W1 w4) := Asd.mk ((HK2.out.alloc _).grown (HOW3.out.alloc _) hgr4 (by decide))
               have HK2 := HK4
               have x4 := (blk_cell HM4.out.x 1).trans rfl
               have z4 := blk_frozen HM4.out.x 1
               clear hown4 hgr4)
            | fail)
        all_goals
          have HF := Asd.mk (cell_round (T := 61) (by decide) (by decide) (by decide) (by decide) (by decide) (by decide) HM1.out HC1.out HKD1.out HF2.out HOK.out HF3.out HOV.out HGR.out HOW4.out HTL.out)
          clear HGR HOW4 HM4 HK4 x4 z4
          go_wp2
          go_roundw
          case rel => exact ⟨k + 1, .slice A4 (k + 1) c4, _, by omega, by go_num, ⟨HF.out.1⟩, ⟨by rw [HTS.out]; exact HF.out.2.1⟩, ⟨HF.out.2.2⟩⟩
          case measure => simp [intOf]; omega
      · have hkn : x.2.1.take k = x.2.1 := List.take_of_length_le (by rw [hl1.out]; omega)
        rw [hkn] at HC
        clear hkn
        have p2 := (blk_cell HM.out.n 2).trans rfl
        go_wp2
        go_loopw [6] (fun i wr => ∃ (k : Nat) (v2 : Value) (qs : List Value), k ≤ n2 ∧ i = .int .i64 (k : Int) ∧ Asd (Mid 26 29 w wr g #[.bool x0, .slice A1 n1 c1, .slice A2 n2 c2, .slice A3 n3 c3] #[.bool x0, vc, v2, u]) ∧ Asd (OwnCells 61 wr w.heap.size vc x.2.1 ps) ∧ Asd (OwnKeys wr w.heap.size v2 (x.2.2.1.take k) qs) ∧ Asd (OwnKids wr w.heap.size u x.2.2.2)) (fun i _ => n2 - (intOf i).toNat)
        case atStart => exact ⟨0, .slice none 0 0, [], by omega, rfl, HM, HC, ⟨OwnKeys.nil _ _⟩, HKD⟩
        clear p1 p2
        clear HM HC HKD
        case round =>
          obtain ⟨k, v2, qs, hk, rfl, HM, HC, HKY, HKD⟩ := hrel
          have p2 := (blk_cell HM.out.n 2).trans rfl
          by_cases hlt : k < n2
          · have hkl : k < x.2.2.1.length := by rw [hl2.out]; exact hlt
            obtain ⟨b, o, Ak, nk, ck, rfl, hbl, q0, ib0, zk, hnk⟩ := key_at (HNA.out.below HM.out.below).keys k hkl
            obtain ⟨b', o', _, _, _, hA, hbl', _⟩ := key_at HNA.out.keys k hkl
            cases hA
            have HTS := Asd.mk (take_snoc x.2.2.1 k hkl)
            have HTL : Asd (k = (x.2.2.1.take k).length) := Asd.mk (by rw [List.length_take]; omega)
            generalize x.2.2.1[k] = key at HTS ib0
            have HI0 : Asd (IsBytes wr.drew Ak nk key) := Asd.mk (ib0.below (Below.refl _ _).drew)
            have HZK := Asd.mk zk
            have hi0 : (0 : Int) ≤ (k : Int) := by omega
            have hi1 : (k : Int) < (n2 : Int) := by omega
            have hv2 : ∃ A c, v2 = .slice A k c := by
              obtain ⟨A, c, e⟩ := own_form HKY.out.own
              exact ⟨A, c, by rw [e, ← HTL.out]⟩
            have HOW : Asd (wr.ownsRow w.heap.size 31 1 v2 k qs) := Asd.mk (by have := HKY.out.own; rw [← HTL.out] at this; exact this)
            have HBK : Asd (∀ w' v, Mid 26 29 w w' g #[.bool x0, .slice A1 n1 c1, .slice (some ⟨b, o, none⟩) n2 c2, .slice A3 n3 c3] v → w'.cell? ⟨b, o + k, none⟩ = some (.slice Ak nk ck)) := Asd.mk fun w' v hm => by
              rw [← q0]
              exact (hm.below.cell (p := ⟨b, o + k, none⟩) hbl').trans (HM.out.below.cell (p := ⟨b, o + k, none⟩) hbl').symm
            have HS : Asd (∀ w' v, Mid 26 29 w w' g #[.bool x0, .slice A1 n1 c1, .slice (some ⟨b, o, none⟩) n2 c2, .slice A3 n3 c3] v → w'.cell? ⟨w.heap.size, 2, none⟩ = some (.slice (some ⟨b, o, none⟩) n2 c2) ∧ w'.cell? ⟨b, o + k, none⟩ = some (.slice Ak nk ck)) := Asd.mk fun w' v hm =>
              ⟨(blk_cell hm.n 2).trans rfl, HBK.out _ _ hm⟩
            have x1 : wr.cell? ⟨g, 2, none⟩ = some v2 := (blk_cell HM.out.x 2).trans rfl
            clear ib0 zk
            go_upto_region 10 with fail
            clear p2 q0
            rw [show Op.load 23 (.tmp 49) = id (Op.load 23 (.tmp 49)) from rfl]
            go_region_held3 (fun w' => w'.cell? ⟨w.heap.size, 2, none⟩ = some (.slice (some ⟨b, o, none⟩) n2 c2) ∧ w'.cell? ⟨b, o + k, none⟩ = some (.slice Ak nk ck))
              (first
                | exact HS.out _ _ HM4.out
                | exact HS.out _ _ (HM4.out.set _ _)
                | exact HS.out _ _ HM2.out
                | exact HS.out _ _ (HM2.out.alloc _)
                | exact HS.out _ _ HM.out
                | exact HS.out _ _ HM.out.drew
                | fail)
              (first
                | (go_at_call_of 24 (Value.slice Ak nk ck)
                   refine (clone_calls Ak nk ck key wr.drew HI0.out HZK.out).mono ?_
                   rintro e w2 ⟨vk, rfl, hok, hf2⟩
                   obtain ⟨Ak', ck', rfl⟩ := own_form hok
                   have HOK := Asd.mk hok
                   have HF2 := Asd.mk hf2
                   have HM2 := Asd.mk (HM.out.drew.fr hf2)
                   have HOW2 : Asd (w2.ownsRow w.heap.size 31 1 v2 k qs) := Asd.mk (((KeepT.refl _ wr).drew.fr hf2).own HOW.out)
                   have x2 := (blk_cell HM2.out.x 2).trans rfl
                   have lt2 := blk_lt HM2.out.x
                   clear hok hf2)
                | (refine step_src (by rfl) _ _ _ (by rfl) rowK v2 (by rfl) (HOW2.out.alloc _) (some ⟨w2.heap.size, 0, none⟩) 1 1 (by rfl) (Feeds.of_block (blk_new _ _) rfl (by simp [Value.oneCell'])) (by unfold maxLen; omega) (by omega) (Nat.le_trans HM2.out.below.size (by simp)) ?_
                   intro A4 c4 w4 hown4 hgr4
                   have HGR := Asd.mk hgr4
                   have HOW4 := Asd.mk hown4
                   have HM4 := Asd.mk ((HM2.out.alloc _).grown (HOW2.out.alloc _) hgr4 (Nat.le_refl _) (by decide) (by decide))
                   have x4 := (blk_cell HM4.out.x 2).trans rfl
                   have z4 := blk_frozen HM4.out.x 2
                   clear hown4 hgr4)
                | fail)
            all_goals
              have HF := Asd.mk (key_round (T := 61) (by decide) (by decide) (by decide) (by decide) (by decide) (by decide) HM.out HC.out HKY.out HKD.out HF2.out HOK.out HGR.out HOW4.out HTL.out)
              clear HGR HOW4 HM4 x4 z4
              go_wp2
              go_roundw
              case rel => exact ⟨k + 1, .slice A4 (k + 1) c4, _, by omega, by go_num, ⟨HF.out.1⟩, ⟨HF.out.2.1⟩, ⟨by rw [HTS.out]; exact HF.out.2.2.1⟩, ⟨HF.out.2.2.2⟩⟩
              case measure => simp [intOf]; omega
          · have hkn : x.2.2.1.take k = x.2.2.1 := List.take_of_length_le (by rw [hl2.out]; omega)
            rw [hkn] at HKY
            clear hkn
            have hkk : k = n2 := by omega
            subst hkk
            obtain ⟨Ac, cc, rfl⟩ := own_form HC.out.own
            obtain ⟨Ay, cy, rfl⟩ := own_form HKY.out.own
            obtain ⟨Au, cu, rfl⟩ := own_form HKD.out
            have HFIN := Asd.mk (its_fin (T := 61) (by decide) (by decide) (by decide) (by decide) HX0.out HM.out HC.out HKY.out HKD.out)
            have g0 := (blk_cell HM.out.x 0).trans rfl
            have g1 := (blk_cell HM.out.x 1).trans rfl
            have g2 := (blk_cell HM.out.x 2).trans rfl
            have g3 := (blk_cell HM.out.x 3).trans rfl
            have r0 := (blk_cell HM.out.r 0).trans rfl
            have r1 := (blk_cell HM.out.r 1).trans rfl
            have r2 := (blk_cell HM.out.r 2).trans rfl
            have r3 := (blk_cell HM.out.r 3).trans rfl
            have f0 := blk_frozen HM.out.r 0
            have f1 := blk_frozen HM.out.r 1
            have f2 := blk_frozen HM.out.r 2
            have f3 := blk_frozen HM.out.r 3
            go_wp2
            (try simp only [Exit.inBlock, Exit.then])
            refine bodyPost_ret (results_cell_row rfl _ _ (w.heap.size + 1) 29 _ (0, 0) _ rfl HFIN.out.2 Try.underlying29 rfl (by kernel_rfl)) rfl ?_
            exact HFIN.out.1
end Go.Proofs.Ytnohhmopiflboaa.Nod
