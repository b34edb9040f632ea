/- EvalPart: the walk. -/
import Derived.Test.YtbeeaikilcnpgaaGreatDoorQc8
import Derived.Test.YtbeeaikilcnpgaaGreatDoorQdPart
set_option linter.unusedVariables false
set_option linter.unusedSimpArgs false
namespace Go.Proofs.YtbeeaikilcnpgaaGreatDoor.Exp
open Go.RowKit Go.Proofs.YtbeeaikilcnpgaaGreatDoor.Base Go.Proofs.YtbeeaikilcnpgaaGreatDoor.App Go.Proofs.YtbeeaikilcnpgaaGreatDoor.Byt Go.Proofs.YtbeeaikilcnpgaaGreatDoor.Lex Go.Proofs.YtbeeaikilcnpgaaGreatDoor.Rd

set_option maxRecDepth 100000 in
set_option maxHeartbeats 25600000 in
/-- quarrylaw16.EvalPart. -/
theorem part_calls (x : Ex) (hN : bulkX x ≤ 1048576) (hr : rngX x) (A : Option Addr) (c : Nat) (us : List Vl) (RA : Option Addr) (ca : Nat) (WA : Option Addr) (wn wc : Nat) (ws : List Int) (w : World) (hl : LexW w) (hh : Held (fun _ => True) w x.args (.slice A x.args.length c)) (ha : RowW w RA us) (hs : IsSl (rInt .i64) 1 w WA wn ws) (hwn : wn ≤ 140737488351232) :
    Calls Tryz.prog 4 #[exV x (.slice A x.args.length c), .slice RA us.length ca, .slice WA wn wc] w fun e w' => e = .returned (.bool true) ∧ Below w.heap.size w w' := by
  have HH := Asd.mk hh
  have HA := Asd.mk ha
  have HSL := Asd.mk hs
  have HN := Asd.mk hN
  have HRN := Asd.mk hr
  have HPR := Asd.mk (PartOf.refl x)
  have HRI := Asd.mk (rights_ok x (few_of x hN))
  have HSI := Asd.mk (size_ok x hN)
  have HTW := Asd.mk (two_ok x (few_of x hN))
  have HRA := Asd.mk (row_calls us ha.len RA ca)
  have HX := Asd.mk (blk_new w (xK x (.slice A x.args.length c)))
  have HB : Asd (Below w.heap.size w (w.alloc (xK x (.slice A x.args.length c)))) := Asd.mk (below_alloc (Below.refl _ _) _)
  have HHs := Asd.mk (held_mono (Q := fun g => g < w.heap.size) hh (fun g hg _ => hg))
  have HL := Asd.mk hl
  clear hh ha hN hr hl hs
  unfold RightsOK at HRI
  unfold SizeOK at HSI
  unfold TwoOK at HTW
  generalize hm : x.args.length = m at HX HB HH HHs HRI HSI HTW ⊢
  have HM := Asd.mk hm
  clear hm
  unfold exV
  go_enter Tryz.func4, Tryz.ntmps4
  go_upto_region 1 with fail
  generalize w.alloc _ = w1 at HX HB ⊢
  go_wp2_with fail
  refine (works16_calls _ (HL.out.below HB.out)).mono ?_
  rintro e w2 ⟨rfl, hb2⟩
  have HB2 : Asd (Below w.heap.size w w2) := Asd.mk (HB.out.trans (hb2.mono HB.out.size))
  have HX2 := Asd.mk (blk_below hb2 HX.out)
  clear hb2 HB HX
  have HHK : Asd (∀ w', Below w2.heap.size w2 w' → Held (fun _ => True) w' x.args (.slice A m c)) := Asd.mk fun w' h => held_below HH.out (chain_below HB2.out h HB2.out.size)
  have HHJ : Asd (∀ w', Below w2.heap.size w2 w' → Held (fun g => g < w.heap.size) w' x.args (.slice A m c)) := Asd.mk fun w' h => held_below HHs.out (chain_below HB2.out h HB2.out.size)
  have HAK : Asd (∀ w', Below w2.heap.size w2 w' → RowW w' RA us) := Asd.mk fun w' h => HA.out.below (chain_below HB2.out h HB2.out.size)
  have HWK : Asd (∀ w', Below w2.heap.size w2 w' → IsSl (rInt .i64) 1 w' WA wn ws) := Asd.mk fun w' h => HSL.out.below (lasts_int _) (chain_below HB2.out h HB2.out.size)
  have HBs : Asd (Below w2.heap.size w2 w2) := Asd.mk (Below.refl _ _)
  have HWS : Asd (w.heap.size < w2.heap.size) := Asd.mk (blk_lt HX2.out)
  clear HH HHs HA HSL
  obtain ⟨f0, f1, f2, f3, f4, f5, f6, f7, f8, f9⟩ := ex_cells (x := x) (blk_below HBs.out HX2.out)
  go_wp2_with fail
  refine (HRI.out _ A c _ (HHK.out _ HBs.out)).mono ?_
  rintro e wa0 ⟨rfl, hb0⟩
  have HBa0 : Asd (Below w2.heap.size w2 wa0) := Asd.mk (below_step HBs.out hb0)
  clear f0 f1 f2 f3 f4 f5 f6 f7 f8 f9 hb0
  cases h0 : rightX x with
  | false =>
    have HBE := Asd.mk (chain_below HB2.out HBa0.out HB2.out.size)
    go_wp2
    go_ret
    exact ⟨ret_eq rfl, HBE.out⟩
  | true =>
    obtain ⟨f0, f1, f2, f3, f4, f5, f6, f7, f8, f9⟩ := ex_cells (x := x) (blk_below HBa0.out HX2.out)
    go_wp2_with fail
    refine (HRA.out _ (HAK.out _ HBa0.out).vals).mono ?_
    rintro e wa1 ⟨rfl, hb1⟩
    have HBa1 : Asd (Below w2.heap.size w2 wa1) := Asd.mk (below_step HBa0.out hb1)
    clear f0 f1 f2 f3 f4 f5 f6 f7 f8 f9 hb1
    cases h1 : (us.all fun v => chkV v == 0) with
    | false =>
      have HBE := Asd.mk (chain_below HB2.out HBa1.out HB2.out.size)
      go_wp2
      go_ret
      exact ⟨ret_eq rfl, HBE.out⟩
    | true =>
      obtain ⟨f0, f1, f2, f3, f4, f5, f6, f7, f8, f9⟩ := ex_cells (x := x) (blk_below HBa1.out HX2.out)
      go_wp2_with fail
      refine (HSI.out _ A c _ (HHK.out _ HBa1.out)).mono ?_
      rintro e wa2 ⟨rfl, hb2⟩
      have HBa2 : Asd (Below w2.heap.size w2 wa2) := Asd.mk (below_step HBa1.out hb2)
      clear f0 f1 f2 f3 f4 f5 f6 f7 f8 f9 hb2
      cases h2 : decide (300 < ((sizeX x : Nat) : Int)) with
      | true =>
        have HBE := Asd.mk (chain_below HB2.out HBa2.out HB2.out.size)
        go_wp2
        go_ret
        exact ⟨ret_eq rfl, HBE.out⟩
      | false =>
        obtain ⟨f0, f1, f2, f3, f4, f5, f6, f7, f8, f9⟩ := ex_cells (x := x) (blk_below HBa2.out HX2.out)
        have HR1 := Asd.mk h0
        have HR2 := Asd.mk h1
        clear HRI HSI HRA
        have HP := Asd.mk (blk_new wa2 (.cells #[.int .i64 x.kind, .int .i64 x.op, .int .i64 x.v.kind, .int .i64 x.v.int, .string ⟨x.v.text.toArray⟩, .string ⟨x.table.toArray⟩, .string ⟨x.name.toArray⟩, .int .i64 x.col, .int .i64 x.ty, .slice A m c] 26 (0, 0)))
        have HB3 : Asd (Below w2.heap.size w2 (wa2.alloc (.cells #[.int .i64 x.kind, .int .i64 x.op, .int .i64 x.v.kind, .int .i64 x.v.int, .string ⟨x.v.text.toArray⟩, .string ⟨x.table.toArray⟩, .string ⟨x.name.toArray⟩, .int .i64 x.col, .int .i64 x.ty, .slice A m c] 26 (0, 0)))) := Asd.mk (below_step HBa2.out (below_alloc (Below.refl _ _) _))
        have HBP : Asd (w2.heap.size ≤ wa2.heap.size) := Asd.mk HBa2.out.size
        go_upto_region 6 with fail
        generalize wa2.alloc (.cells #[.int .i64 x.kind, .int .i64 x.op, .int .i64 x.v.kind, .int .i64 x.v.int, .string ⟨x.v.text.toArray⟩, .string ⟨x.table.toArray⟩, .string ⟨x.name.toArray⟩, .int .i64 x.col, .int .i64 x.ty, .slice A m c] 26 (0, 0)) = w3 at HP HB3 ⊢
        generalize wa2.heap.size = bp at HP HBP ⊢
        clear f0 f1 f2 f3 f4 f5 f6 f7 f8 f9 h0 h1 h2 HBa2
        have HST : Asd (∃ p A' c', w3.heap[bp]? = some (xK p (.slice A' p.args.length c')) ∧ Held (fun g => g < w.heap.size) w3 p.args (.slice A' p.args.length c') ∧ PartOf x p) := Asd.mk ⟨x, A, c, by rw [HM.out]; exact HP.out, by rw [HM.out]; exact HHJ.out _ HB3.out, HPR.out⟩
        go_wp2
        go_loopw [8] (fun i wr => ∃ k : Nat, k ≤ 10 ∧ i = .int .i64 (k : Int) ∧ Asd (Below w2.heap.size w2 wr) ∧ Asd (∃ p A' c', wr.heap[bp]? = some (xK p (.slice A' p.args.length c')) ∧ Held (fun g => g < w.heap.size) wr p.args (.slice A' p.args.length c') ∧ PartOf x p)) (fun i _ => 10 - (intOf i).toNat)
        case atStart => exact ⟨0, by omega, rfl, HB3, HST⟩
        case round =>
          obtain ⟨k, hk, rfl, HBR, HPS⟩ := hrel
          obtain ⟨p, A', c', hp1, hp2, hp3⟩ := HPS.out
          have HP1 := Asd.mk hp1
          have HP2 := Asd.mk hp2
          have HP3 := Asd.mk hp3
          clear hp1 hp2 hp3 HPS HST HB3 HP HPR
          generalize hpn : p.args.length = n at HP1 HP2
          have HPN := Asd.mk hpn
          have hn20 : n ≤ 1048576 := by have h1 := bulkXL_len p.args; have h2 := HP3.out.bulk; have h3 := HN.out; rw [bulkX_eq p] at h2; omega
          clear hpn
          obtain ⟨y0, y1, y2, y3, y4, y5, y6, y7, y8, y9⟩ := ex_cells (x := p) HP1.out
          have hk0 : (0 : Int) ≤ (k : Int) := by omega
          have yf := fun j => blk_frozen HP1.out j
          by_cases hg1 : k < wn
          · by_cases hg2 : k < 10
            · by_cases hg3 : 0 < n
              · have HG3 := Asd.mk hg3
                obtain ⟨r, hr1, hr2⟩ : ∃ r : Nat, r < n ∧ (IntKind.u64.wrap (ws.getD k 0)).tmod ((n : Nat) : Int) = ((r : Nat) : Int) := remW _ n hg3 hn20
                obtain ⟨hwl, hws⟩ := HWK.out _ HBR.out
                obtain ⟨wb, wo, rfl, hwb, hwe⟩ := hws (by omega)
                have hkl : k < ws.length := by omega
                obtain ⟨es, he1, he2, he3, he4⟩ := hwe k hkl
                have x0 : wr.cell? ⟨wb, wo + k, none⟩ = some (.int .i64 (ws.getD k 0)) := by
                  have h := he2 0 (by omega)
                  simp only [Nat.mul_one, Nat.add_zero] at h
                  rw [h, he3, List.getD_eq_getElem?_getD, List.getElem?_eq_getElem hkl]
                  rfl
                generalize ws.getD k 0 = wv at hr2 x0
                clear hwl hws hwe he1 he2 he3 he4 es hkl
                have hnu : IntKind.u64.wrap ((n : Nat) : Int) = ((n : Nat) : Int) := by simp [IntKind.wrap, IntKind.signed, IntKind.bits]; omega
                have hri : IntKind.i64.wrap ((r : Nat) : Int) = ((r : Nat) : Int) := by rw [IntKind.wrap_i64]; omega
                have hpx : r < p.args.length := by rw [HPN.out]; exact hr1
                obtain ⟨g, o, A1, n1, c1, he1, hrr, hh1⟩ := held_at HP2.out r hpx
                subst he1
                obtain ⟨A1', c1', he2⟩ := held_len hh1
                have hn1 : n1 = p.args[r].args.length := by injection he2
                subst hn1
                clear he2 A1' c1'
                have HPA := Asd.mk (HP3.out.arg r hpx)
                generalize p.args[r] = a at hrr hh1 HPA
                have HHA := Asd.mk hh1
                clear hpx
                generalize han : a.args.length = na at hrr hh1 HHA
                have HAN := Asd.mk han
                clear han hh1
                have hgl := World.block_lt_of_cell? wr _ (hrr 0 (by omega))
                have d0 : wr.cell? ⟨g, o + r * 10, none⟩ = some (.int .i64 a.kind) := hrr 0 (by omega)
                have d1 : wr.cell? ⟨g, o + r * 10 + 1, none⟩ = some (.int .i64 a.op) := hrr 1 (by omega)
                have d2 : wr.cell? ⟨g, o + r * 10 + 2, none⟩ = some (.int .i64 a.v.kind) := hrr 2 (by omega)
                have d3 : wr.cell? ⟨g, o + r * 10 + 3, none⟩ = some (.int .i64 a.v.int) := hrr 3 (by omega)
                have d4 : wr.cell? ⟨g, o + r * 10 + 4, none⟩ = some (.string ⟨a.v.text.toArray⟩) := hrr 4 (by omega)
                have d5 : wr.cell? ⟨g, o + r * 10 + 5, none⟩ = some (.string ⟨a.table.toArray⟩) := hrr 5 (by omega)
                have d6 : wr.cell? ⟨g, o + r * 10 + 6, none⟩ = some (.string ⟨a.name.toArray⟩) := hrr 6 (by omega)
                have d7 : wr.cell? ⟨g, o + r * 10 + 7, none⟩ = some (.int .i64 a.col) := hrr 7 (by omega)
                have d8 : wr.cell? ⟨g, o + r * 10 + 8, none⟩ = some (.int .i64 a.ty) := hrr 8 (by omega)
                have d9 : wr.cell? ⟨g, o + r * 10 + 9, none⟩ = some (.slice A1 na c1) := hrr 9 (by omega)
                clear hrr
                have hr0 : (0 : Int) ≤ (r : Int) := by omega
                have hrn : (r : Int) < (n : Int) := by omega
                have HOB : Asd (g < bp) := Asd.mk (by have h1 := held_in HP2.out (by rw [HPN.out]; exact HG3.out); have h2 := HWS.out; have h3 := HBP.out; omega)
                go_upto_region 9 with fail
                have HNEW := Asd.mk (put_box (x := a) HP1.out HBR.out HBP.out HHA.out (fun g hg he => by have h2 := HWS.out; have h3 := HBP.out; omega))
                go_region
                obtain ⟨hn1, hn2, hn3⟩ := HNEW.out
                rw [← HAN.out] at hn1 hn2 hn3 ⊢
                have HN1 := Asd.mk hn1
                have HN2 := Asd.mk hn2
                have HN3 := Asd.mk hn3
                clear hn1 hn2 hn3 HNEW
                go_wp2
                go_roundw
                case rel => exact ⟨k + 1, by omega, by go_num, HN1, Asd.mk ⟨a, A1, c1, HN2.out, HN3.out, HPA.out⟩⟩
                case measure => simp [intOf]; omega
              · skip
                go_wp2_with fail
                refine (eval0 us p n HPN.out (Nat.le_trans HP3.out.bulk HN.out) (HP3.out.rng HRN.out) (HP3.out.right HR1.out) HR2.out A' c' RA ca _ (HAK.out _ HBR.out) (held_mono HP2.out fun _ _ _ => trivial)).mono ?_
                rintro e w4 ⟨rfl, hb4⟩
                have HB4 : Asd (Below w2.heap.size w2 w4) := Asd.mk (below_step HBR.out hb4)
                have HP4 := Asd.mk (blk_below hb4 HP1.out)
                have HD4 := Asd.mk (held_below HP2.out hb4)
                clear hb4 yf HP1 HP2
                clear y0 y1 y2 y3 y4 y5 y6 y7 y8 y9
                simp only [vC]
                have HB5 : Asd (Below w2.heap.size w2 (w4.alloc (.cells #[.int .i64 (resVal (evE us [] p)).kind, .int .i64 (resVal (evE us [] p)).int, .string ⟨(resVal (evE us [] p)).text.toArray⟩] 23 (0, 0)))) := Asd.mk (below_step HB4.out (below_alloc (Below.refl _ _) _))
                have HV5 := Asd.mk (blk_new w4 (.cells #[.int .i64 (resVal (evE us [] p)).kind, .int .i64 (resVal (evE us [] p)).int, .string ⟨(resVal (evE us [] p)).text.toArray⟩] 23 (0, 0)))
                have HP5 := Asd.mk (blk_below (below_alloc (Below.refl _ w4) (.cells #[.int .i64 (resVal (evE us [] p)).kind, .int .i64 (resVal (evE us [] p)).int, .string ⟨(resVal (evE us [] p)).text.toArray⟩] 23 (0, 0))) HP4.out)
                have HD5 := Asd.mk (held_below HD4.out (below_alloc (Below.refl _ w4) (.cells #[.int .i64 (resVal (evE us [] p)).kind, .int .i64 (resVal (evE us [] p)).int, .string ⟨(resVal (evE us [] p)).text.toArray⟩] 23 (0, 0))))
                go_upto_region 11 with fail
                generalize w4.alloc (.cells #[.int .i64 (resVal (evE us [] p)).kind, .int .i64 (resVal (evE us [] p)).int, .string ⟨(resVal (evE us [] p)).text.toArray⟩] 23 (0, 0)) = w5 at HV5 HP5 HD5 HB5 ⊢
                clear HP4 HD4
                have HNZ := Asd.mk (evE_nz us [] p)
                generalize hq : evE us [] p = q at HNZ HV5 ⊢
                have HQ := Asd.mk hq
                clear hq
                cases q with
                | error ne =>
                  have hz := HNZ.out ne rfl
                  have hnz : (ne != 0) = true := by rw [bne_iff_ne]; exact hz
                  simp only [resNum]
                  have HBE := Asd.mk (chain_below HB2.out HB5.out HB2.out.size)
                  clear HNZ
                  go_wp2
                  go_ret
                  exact ⟨ret_eq rfl, HBE.out⟩
                | ok u =>
                  simp only [resNum]
                  simp only [resVal] at HV5
                  obtain ⟨f0, f1, f2, f3, f4, f5, f6, f7, f8, f9⟩ := ex_cells (x := x) (blk_below HB5.out HX2.out)
                  go_wp2_with fail
                  refine (HTW.out _ A c _ (HHK.out _ HB5.out)).mono ?_
                  rintro e w6 ⟨rfl, hb6⟩
                  have HB6 : Asd (Below w2.heap.size w2 w6) := Asd.mk (below_step HB5.out hb6)
                  have HP6 := Asd.mk (blk_below hb6 HP5.out)
                  have HD6 := Asd.mk (held_below HD5.out hb6)
                  have HV6 := Asd.mk (blk_below hb6 HV5.out)
                  clear hb6 HP5 HD5 HV5 HNZ
                  clear f0 f1 f2 f3 f4 f5 f6 f7 f8 f9
                  cases hcx : hasCol x with
                  | true =>
                    have HBE := Asd.mk (chain_below HB2.out HB6.out HB2.out.size)
                    go_wp2
                    go_ret
                    exact ⟨ret_eq rfl, HBE.out⟩
                  | false =>
                    have HCX := Asd.mk hcx
                    clear hcx
                    obtain ⟨f0, f1, f2, f3, f4, f5, f6, f7, f8, f9⟩ := ex_cells (x := x) (blk_below HB6.out HX2.out)
                    go_wp2_with fail
                    refine (eval0 us x m HM.out HN.out HRN.out HR1.out HR2.out A c RA ca _ (HAK.out _ HB6.out) (HHK.out _ HB6.out)).mono ?_
                    rintro e w7 ⟨rfl, hb7⟩
                    have HB7 : Asd (Below w2.heap.size w2 w7) := Asd.mk (below_step HB6.out hb7)
                    have HP7 := Asd.mk (blk_below hb7 HP6.out)
                    have HD7 := Asd.mk (held_below HD6.out hb7)
                    have HV7 := Asd.mk (blk_below hb7 HV6.out)
                    clear hb7 HP6 HD6 HV6
                    clear f0 f1 f2 f3 f4 f5 f6 f7 f8 f9
                    generalize hq2 : evE us [] x = q2
                    have HQ2 := Asd.mk hq2
                    clear hq2
                    simp only [vC]
                    have hba8 : Below w7.heap.size w7 (w7.alloc (.cells #[.int .i64 (resVal q2).kind, .int .i64 (resVal q2).int, .string ⟨(resVal q2).text.toArray⟩] 23 (0, 0))) := below_alloc (Below.refl _ _) _
                    have HU8 := Asd.mk (blk_new w7 (.cells #[.int .i64 (resVal q2).kind, .int .i64 (resVal q2).int, .string ⟨(resVal q2).text.toArray⟩] 23 (0, 0)))
                    have HB8 := Asd.mk (below_step HB7.out hba8)
                    have HP8 := Asd.mk (blk_below hba8 HP7.out)
                    have HD8 := Asd.mk (held_below HD7.out hba8)
                    have HV8 := Asd.mk (blk_below hba8 HV7.out)
                    go_upto_region 14 with fail
                    clear hba8
                    generalize w7.alloc (.cells #[.int .i64 (resVal q2).kind, .int .i64 (resVal q2).int, .string ⟨(resVal q2).text.toArray⟩] 23 (0, 0)) = w8 at HU8 HB8 HP8 HD8 HV8 ⊢
                    clear HP7 HD7 HV7
                    obtain ⟨f0, f1, f2, f3, f4, f5, f6, f7, f8, f9⟩ := ex_cells (x := x) (blk_below HB8.out HX2.out)
                    obtain ⟨y0, y1, y2, y3, y4, y5, y6, y7, y8, y9⟩ := ex_cells (x := p) HP8.out
                    have z0 := (blk_cell HV8.out 0).trans rfl
                    have z1 := (blk_cell HV8.out 1).trans rfl
                    have z2 := (blk_cell HV8.out 2).trans rfl
                    have hba9 : Below w8.heap.size w8 (w8.alloc (kK (p, u) (.slice A' n c'))) := below_alloc (Below.refl _ _) _
                    have HK9 := Asd.mk (blk_new w8 (kK (p, u) (.slice A' n c')))
                    have HB9 := Asd.mk (below_step HB8.out hba9)
                    have HD9 := Asd.mk (held_below HD8.out hba9)
                    have HU9 := Asd.mk (blk_below hba9 HU8.out)
                    clear hba9
                    go_wp2_with fail
                    refine (evalK us x p m HM.out HN.out HRN.out HR1.out HR2.out HP3.out HCX.out HQ.out HQ2.out A c RA ca _ (HAK.out _ HB9.out) (HHK.out _ HB9.out) HK9.out HD9.out).mono ?_
                    rintro e w10 ⟨rfl, hb10⟩
                    have HB10 : Asd (Below w2.heap.size w2 w10) := Asd.mk (below_step HB9.out hb10)
                    have HU10 := Asd.mk (blk_below hb10 HU9.out)
                    clear hb10 HU9 HK9 HD9 HV8 HP8 HD8 z0 z1 z2
                    clear f0 f1 f2 f3 f4 f5 f6 f7 f8 f9
                    clear y0 y1 y2 y3 y4 y5 y6 y7 y8 y9
                    simp only [vC]
                    have hba11 : Below w10.heap.size w10 (w10.alloc (.cells #[.int .i64 (resVal q2).kind, .int .i64 (resVal q2).int, .string ⟨(resVal q2).text.toArray⟩] 23 (0, 0))) := below_alloc (Below.refl _ _) _
                    have HT11 := Asd.mk (blk_new w10 (.cells #[.int .i64 (resVal q2).kind, .int .i64 (resVal q2).int, .string ⟨(resVal q2).text.toArray⟩] 23 (0, 0)))
                    have HB11 := Asd.mk (below_step HB10.out hba11)
                    have HU11 := Asd.mk (blk_below hba11 HU10.out)
                    have HEQ : Asd (∀ W, (binOp .eql 23 (.agg #[.int .i64 (resVal q2).kind, .int .i64 (resVal q2).int, .string ⟨(resVal q2).text.toArray⟩]) (.agg #[.int .i64 (resVal q2).kind, .int .i64 (resVal q2).int, .string ⟨(resVal q2).text.toArray⟩])).run Tryz.prog W = .ok (.bool true) W) := Asd.mk fun W => by rw [val_eql]; simp
                    go_upto_region 15 with fail
                    clear hba11
                    generalize w10.alloc (.cells #[.int .i64 (resVal q2).kind, .int .i64 (resVal q2).int, .string ⟨(resVal q2).text.toArray⟩] 23 (0, 0)) = w11 at HT11 HB11 HU11 ⊢
                    clear HU10 HU8
                    generalize (resVal q2).kind = q20 at HT11 HU11 HEQ
                    generalize (resVal q2).int = q21 at HT11 HU11 HEQ
                    generalize (⟨(resVal q2).text.toArray⟩ : ByteArray) = q22 at HT11 HU11 HEQ
                    generalize resNum q2 = q23
                    have g0 := (blk_cell HT11.out 0).trans rfl
                    have g1 := (blk_cell HT11.out 1).trans rfl
                    have g2 := (blk_cell HT11.out 2).trans rfl
                    have k0 := (blk_cell HU11.out 0).trans rfl
                    have k1 := (blk_cell HU11.out 1).trans rfl
                    have k2 := (blk_cell HU11.out 2).trans rfl
                    have heq := HEQ.out
                    have HBE := Asd.mk (chain_below HB2.out HB11.out HB2.out.size)
                    clear HB11 HB10 HB9
                    go_wp2
                    go_ret
                    exact ⟨ret_eq rfl, HBE.out⟩
            · skip
              go_wp2_with fail
              refine (eval0 us p n HPN.out (Nat.le_trans HP3.out.bulk HN.out) (HP3.out.rng HRN.out) (HP3.out.right HR1.out) HR2.out A' c' RA ca _ (HAK.out _ HBR.out) (held_mono HP2.out fun _ _ _ => trivial)).mono ?_
              rintro e w4 ⟨rfl, hb4⟩
              have HB4 : Asd (Below w2.heap.size w2 w4) := Asd.mk (below_step HBR.out hb4)
              have HP4 := Asd.mk (blk_below hb4 HP1.out)
              have HD4 := Asd.mk (held_below HP2.out hb4)
              clear hb4 yf HP1 HP2
              clear y0 y1 y2 y3 y4 y5 y6 y7 y8 y9
              simp only [vC]
              have HB5 : Asd (Below w2.heap.size w2 (w4.alloc (.cells #[.int .i64 (resVal (evE us [] p)).kind, .int .i64 (resVal (evE us [] p)).int, .string ⟨(resVal (evE us [] p)).text.toArray⟩] 23 (0, 0)))) := Asd.mk (below_step HB4.out (below_alloc (Below.refl _ _) _))
              have HV5 := Asd.mk (blk_new w4 (.cells #[.int .i64 (resVal (evE us [] p)).kind, .int .i64 (resVal (evE us [] p)).int, .string ⟨(resVal (evE us [] p)).text.toArray⟩] 23 (0, 0)))
              have HP5 := Asd.mk (blk_below (below_alloc (Below.refl _ w4) (.cells #[.int .i64 (resVal (evE us [] p)).kind, .int .i64 (resVal (evE us [] p)).int, .string ⟨(resVal (evE us [] p)).text.toArray⟩] 23 (0, 0))) HP4.out)
              have HD5 := Asd.mk (held_below HD4.out (below_alloc (Below.refl _ w4) (.cells #[.int .i64 (resVal (evE us [] p)).kind, .int .i64 (resVal (evE us [] p)).int, .string ⟨(resVal (evE us [] p)).text.toArray⟩] 23 (0, 0))))
              go_upto_region 11 with fail
              generalize w4.alloc (.cells #[.int .i64 (resVal (evE us [] p)).kind, .int .i64 (resVal (evE us [] p)).int, .string ⟨(resVal (evE us [] p)).text.toArray⟩] 23 (0, 0)) = w5 at HV5 HP5 HD5 HB5 ⊢
              clear HP4 HD4
              have HNZ := Asd.mk (evE_nz us [] p)
              generalize hq : evE us [] p = q at HNZ HV5 ⊢
              have HQ := Asd.mk hq
              clear hq
              cases q with
              | error ne =>
                have hz := HNZ.out ne rfl
                have hnz : (ne != 0) = true := by rw [bne_iff_ne]; exact hz
                simp only [resNum]
                have HBE := Asd.mk (chain_below HB2.out HB5.out HB2.out.size)
                clear HNZ
                go_wp2
                go_ret
                exact ⟨ret_eq rfl, HBE.out⟩
              | ok u =>
                simp only [resNum]
                simp only [resVal] at HV5
                obtain ⟨f0, f1, f2, f3, f4, f5, f6, f7, f8, f9⟩ := ex_cells (x := x) (blk_below HB5.out HX2.out)
                go_wp2_with fail
                refine (HTW.out _ A c _ (HHK.out _ HB5.out)).mono ?_
                rintro e w6 ⟨rfl, hb6⟩
                have HB6 : Asd (Below w2.heap.size w2 w6) := Asd.mk (below_step HB5.out hb6)
                have HP6 := Asd.mk (blk_below hb6 HP5.out)
                have HD6 := Asd.mk (held_below HD5.out hb6)
                have HV6 := Asd.mk (blk_below hb6 HV5.out)
                clear hb6 HP5 HD5 HV5 HNZ
                clear f0 f1 f2 f3 f4 f5 f6 f7 f8 f9
                cases hcx : hasCol x with
                | true =>
                  have HBE := Asd.mk (chain_below HB2.out HB6.out HB2.out.size)
                  go_wp2
                  go_ret
                  exact ⟨ret_eq rfl, HBE.out⟩
                | false =>
                  have HCX := Asd.mk hcx
                  clear hcx
                  obtain ⟨f0, f1, f2, f3, f4, f5, f6, f7, f8, f9⟩ := ex_cells (x := x) (blk_below HB6.out HX2.out)
                  go_wp2_with fail
                  refine (eval0 us x m HM.out HN.out HRN.out HR1.out HR2.out A c RA ca _ (HAK.out _ HB6.out) (HHK.out _ HB6.out)).mono ?_
                  rintro e w7 ⟨rfl, hb7⟩
                  have HB7 : Asd (Below w2.heap.size w2 w7) := Asd.mk (below_step HB6.out hb7)
                  have HP7 := Asd.mk (blk_below hb7 HP6.out)
                  have HD7 := Asd.mk (held_below HD6.out hb7)
                  have HV7 := Asd.mk (blk_below hb7 HV6.out)
                  clear hb7 HP6 HD6 HV6
                  clear f0 f1 f2 f3 f4 f5 f6 f7 f8 f9
                  generalize hq2 : evE us [] x = q2
                  have HQ2 := Asd.mk hq2
                  clear hq2
                  simp only [vC]
                  have hba8 : Below w7.heap.size w7 (w7.alloc (.cells #[.int .i64 (resVal q2).kind, .int .i64 (resVal q2).int, .string ⟨(resVal q2).text.toArray⟩] 23 (0, 0))) := below_alloc (Below.refl _ _) _
                  have HU8 := Asd.mk (blk_new w7 (.cells #[.int .i64 (resVal q2).kind, .int .i64 (resVal q2).int, .string ⟨(resVal q2).text.toArray⟩] 23 (0, 0)))
                  have HB8 := Asd.mk (below_step HB7.out hba8)
                  have HP8 := Asd.mk (blk_below hba8 HP7.out)
                  have HD8 := Asd.mk (held_below HD7.out hba8)
                  have HV8 := Asd.mk (blk_below hba8 HV7.out)
                  go_upto_region 14 with fail
                  clear hba8
                  generalize w7.alloc (.cells #[.int .i64 (resVal q2).kind, .int .i64 (resVal q2).int, .string ⟨(resVal q2).text.toArray⟩] 23 (0, 0)) = w8 at HU8 HB8 HP8 HD8 HV8 ⊢
                  clear HP7 HD7 HV7
                  obtain ⟨f0, f1, f2, f3, f4, f5, f6, f7, f8, f9⟩ := ex_cells (x := x) (blk_below HB8.out HX2.out)
                  obtain ⟨y0, y1, y2, y3, y4, y5, y6, y7, y8, y9⟩ := ex_cells (x := p) HP8.out
                  have z0 := (blk_cell HV8.out 0).trans rfl
                  have z1 := (blk_cell HV8.out 1).trans rfl
                  have z2 := (blk_cell HV8.out 2).trans rfl
                  have hba9 : Below w8.heap.size w8 (w8.alloc (kK (p, u) (.slice A' n c'))) := below_alloc (Below.refl _ _) _
                  have HK9 := Asd.mk (blk_new w8 (kK (p, u) (.slice A' n c')))
                  have HB9 := Asd.mk (below_step HB8.out hba9)
                  have HD9 := Asd.mk (held_below HD8.out hba9)
                  have HU9 := Asd.mk (blk_below hba9 HU8.out)
                  clear hba9
                  go_wp2_with fail
                  refine (evalK us x p m HM.out HN.out HRN.out HR1.out HR2.out HP3.out HCX.out HQ.out HQ2.out A c RA ca _ (HAK.out _ HB9.out) (HHK.out _ HB9.out) HK9.out HD9.out).mono ?_
                  rintro e w10 ⟨rfl, hb10⟩
                  have HB10 : Asd (Below w2.heap.size w2 w10) := Asd.mk (below_step HB9.out hb10)
                  have HU10 := Asd.mk (blk_below hb10 HU9.out)
                  clear hb10 HU9 HK9 HD9 HV8 HP8 HD8 z0 z1 z2
                  clear f0 f1 f2 f3 f4 f5 f6 f7 f8 f9
                  clear y0 y1 y2 y3 y4 y5 y6 y7 y8 y9
                  simp only [vC]
                  have hba11 : Below w10.heap.size w10 (w10.alloc (.cells #[.int .i64 (resVal q2).kind, .int .i64 (resVal q2).int, .string ⟨(resVal q2).text.toArray⟩] 23 (0, 0))) := below_alloc (Below.refl _ _) _
                  have HT11 := Asd.mk (blk_new w10 (.cells #[.int .i64 (resVal q2).kind, .int .i64 (resVal q2).int, .string ⟨(resVal q2).text.toArray⟩] 23 (0, 0)))
                  have HB11 := Asd.mk (below_step HB10.out hba11)
                  have HU11 := Asd.mk (blk_below hba11 HU10.out)
                  have HEQ : Asd (∀ W, (binOp .eql 23 (.agg #[.int .i64 (resVal q2).kind, .int .i64 (resVal q2).int, .string ⟨(resVal q2).text.toArray⟩]) (.agg #[.int .i64 (resVal q2).kind, .int .i64 (resVal q2).int, .string ⟨(resVal q2).text.toArray⟩])).run Tryz.prog W = .ok (.bool true) W) := Asd.mk fun W => by rw [val_eql]; simp
                  go_upto_region 15 with fail
                  clear hba11
                  generalize w10.alloc (.cells #[.int .i64 (resVal q2).kind, .int .i64 (resVal q2).int, .string ⟨(resVal q2).text.toArray⟩] 23 (0, 0)) = w11 at HT11 HB11 HU11 ⊢
                  clear HU10 HU8
                  generalize (resVal q2).kind = q20 at HT11 HU11 HEQ
                  generalize (resVal q2).int = q21 at HT11 HU11 HEQ
                  generalize (⟨(resVal q2).text.toArray⟩ : ByteArray) = q22 at HT11 HU11 HEQ
                  generalize resNum q2 = q23
                  have g0 := (blk_cell HT11.out 0).trans rfl
                  have g1 := (blk_cell HT11.out 1).trans rfl
                  have g2 := (blk_cell HT11.out 2).trans rfl
                  have k0 := (blk_cell HU11.out 0).trans rfl
                  have k1 := (blk_cell HU11.out 1).trans rfl
                  have k2 := (blk_cell HU11.out 2).trans rfl
                  have heq := HEQ.out
                  have HBE := Asd.mk (chain_below HB2.out HB11.out HB2.out.size)
                  clear HB11 HB10 HB9
                  go_wp2
                  go_ret
                  exact ⟨ret_eq rfl, HBE.out⟩
          · have HG1 := Asd.mk hg1
            go_wp2_with fail
            refine (eval0 us p n HPN.out (Nat.le_trans HP3.out.bulk HN.out) (HP3.out.rng HRN.out) (HP3.out.right HR1.out) HR2.out A' c' RA ca _ (HAK.out _ HBR.out) (held_mono HP2.out fun _ _ _ => trivial)).mono ?_
            rintro e w4 ⟨rfl, hb4⟩
            have HB4 : Asd (Below w2.heap.size w2 w4) := Asd.mk (below_step HBR.out hb4)
            have HP4 := Asd.mk (blk_below hb4 HP1.out)
            have HD4 := Asd.mk (held_below HP2.out hb4)
            clear hb4 yf HP1 HP2
            clear y0 y1 y2 y3 y4 y5 y6 y7 y8 y9
            simp only [vC]
            have HB5 : Asd (Below w2.heap.size w2 (w4.alloc (.cells #[.int .i64 (resVal (evE us [] p)).kind, .int .i64 (resVal (evE us [] p)).int, .string ⟨(resVal (evE us [] p)).text.toArray⟩] 23 (0, 0)))) := Asd.mk (below_step HB4.out (below_alloc (Below.refl _ _) _))
            have HV5 := Asd.mk (blk_new w4 (.cells #[.int .i64 (resVal (evE us [] p)).kind, .int .i64 (resVal (evE us [] p)).int, .string ⟨(resVal (evE us [] p)).text.toArray⟩] 23 (0, 0)))
            have HP5 := Asd.mk (blk_below (below_alloc (Below.refl _ w4) (.cells #[.int .i64 (resVal (evE us [] p)).kind, .int .i64 (resVal (evE us [] p)).int, .string ⟨(resVal (evE us [] p)).text.toArray⟩] 23 (0, 0))) HP4.out)
            have HD5 := Asd.mk (held_below HD4.out (below_alloc (Below.refl _ w4) (.cells #[.int .i64 (resVal (evE us [] p)).kind, .int .i64 (resVal (evE us [] p)).int, .string ⟨(resVal (evE us [] p)).text.toArray⟩] 23 (0, 0))))
            go_upto_region 11 with fail
            generalize w4.alloc (.cells #[.int .i64 (resVal (evE us [] p)).kind, .int .i64 (resVal (evE us [] p)).int, .string ⟨(resVal (evE us [] p)).text.toArray⟩] 23 (0, 0)) = w5 at HV5 HP5 HD5 HB5 ⊢
            clear HP4 HD4
            have HNZ := Asd.mk (evE_nz us [] p)
            generalize hq : evE us [] p = q at HNZ HV5 ⊢
            have HQ := Asd.mk hq
            clear hq
            cases q with
            | error ne =>
              have hz := HNZ.out ne rfl
              have hnz : (ne != 0) = true := by rw [bne_iff_ne]; exact hz
              simp only [resNum]
              have HBE := Asd.mk (chain_below HB2.out HB5.out HB2.out.size)
              clear HNZ
              go_wp2
              go_ret
              exact ⟨ret_eq rfl, HBE.out⟩
            | ok u =>
              simp only [resNum]
              simp only [resVal] at HV5
              obtain ⟨f0, f1, f2, f3, f4, f5, f6, f7, f8, f9⟩ := ex_cells (x := x) (blk_below HB5.out HX2.out)
              go_wp2_with fail
              refine (HTW.out _ A c _ (HHK.out _ HB5.out)).mono ?_
              rintro e w6 ⟨rfl, hb6⟩
              have HB6 : Asd (Below w2.heap.size w2 w6) := Asd.mk (below_step HB5.out hb6)
              have HP6 := Asd.mk (blk_below hb6 HP5.out)
              have HD6 := Asd.mk (held_below HD5.out hb6)
              have HV6 := Asd.mk (blk_below hb6 HV5.out)
              clear hb6 HP5 HD5 HV5 HNZ
              clear f0 f1 f2 f3 f4 f5 f6 f7 f8 f9
              cases hcx : hasCol x with
              | true =>
                have HBE := Asd.mk (chain_below HB2.out HB6.out HB2.out.size)
                go_wp2
                go_ret
                exact ⟨ret_eq rfl, HBE.out⟩
              | false =>
                have HCX := Asd.mk hcx
                clear hcx
                obtain ⟨f0, f1, f2, f3, f4, f5, f6, f7, f8, f9⟩ := ex_cells (x := x) (blk_below HB6.out HX2.out)
                go_wp2_with fail
                refine (eval0 us x m HM.out HN.out HRN.out HR1.out HR2.out A c RA ca _ (HAK.out _ HB6.out) (HHK.out _ HB6.out)).mono ?_
                rintro e w7 ⟨rfl, hb7⟩
                have HB7 : Asd (Below w2.heap.size w2 w7) := Asd.mk (below_step HB6.out hb7)
                have HP7 := Asd.mk (blk_below hb7 HP6.out)
                have HD7 := Asd.mk (held_below HD6.out hb7)
                have HV7 := Asd.mk (blk_below hb7 HV6.out)
                clear hb7 HP6 HD6 HV6
                clear f0 f1 f2 f3 f4 f5 f6 f7 f8 f9
                generalize hq2 : evE us [] x = q2
                have HQ2 := Asd.mk hq2
                clear hq2
                simp only [vC]
                have hba8 : Below w7.heap.size w7 (w7.alloc (.cells #[.int .i64 (resVal q2).kind, .int .i64 (resVal q2).int, .string ⟨(resVal q2).text.toArray⟩] 23 (0, 0))) := below_alloc (Below.refl _ _) _
                have HU8 := Asd.mk (blk_new w7 (.cells #[.int .i64 (resVal q2).kind, .int .i64 (resVal q2).int, .string ⟨(resVal q2).text.toArray⟩] 23 (0, 0)))
                have HB8 := Asd.mk (below_step HB7.out hba8)
                have HP8 := Asd.mk (blk_below hba8 HP7.out)
                have HD8 := Asd.mk (held_below HD7.out hba8)
                have HV8 := Asd.mk (blk_below hba8 HV7.out)
                go_upto_region 14 with fail
                clear hba8
                generalize w7.alloc (.cells #[.int .i64 (resVal q2).kind, .int .i64 (resVal q2).int, .string ⟨(resVal q2).text.toArray⟩] 23 (0, 0)) = w8 at HU8 HB8 HP8 HD8 HV8 ⊢
                clear HP7 HD7 HV7
                obtain ⟨f0, f1, f2, f3, f4, f5, f6, f7, f8, f9⟩ := ex_cells (x := x) (blk_below HB8.out HX2.out)
                obtain ⟨y0, y1, y2, y3, y4, y5, y6, y7, y8, y9⟩ := ex_cells (x := p) HP8.out
                have z0 := (blk_cell HV8.out 0).trans rfl
                have z1 := (blk_cell HV8.out 1).trans rfl
                have z2 := (blk_cell HV8.out 2).trans rfl
                have hba9 : Below w8.heap.size w8 (w8.alloc (kK (p, u) (.slice A' n c'))) := below_alloc (Below.refl _ _) _
                have HK9 := Asd.mk (blk_new w8 (kK (p, u) (.slice A' n c')))
                have HB9 := Asd.mk (below_step HB8.out hba9)
                have HD9 := Asd.mk (held_below HD8.out hba9)
                have HU9 := Asd.mk (blk_below hba9 HU8.out)
                clear hba9
                go_wp2_with fail
                refine (evalK us x p m HM.out HN.out HRN.out HR1.out HR2.out HP3.out HCX.out HQ.out HQ2.out A c RA ca _ (HAK.out _ HB9.out) (HHK.out _ HB9.out) HK9.out HD9.out).mono ?_
                rintro e w10 ⟨rfl, hb10⟩
                have HB10 : Asd (Below w2.heap.size w2 w10) := Asd.mk (below_step HB9.out hb10)
                have HU10 := Asd.mk (blk_below hb10 HU9.out)
                clear hb10 HU9 HK9 HD9 HV8 HP8 HD8 z0 z1 z2
                clear f0 f1 f2 f3 f4 f5 f6 f7 f8 f9
                clear y0 y1 y2 y3 y4 y5 y6 y7 y8 y9
                simp only [vC]
                have hba11 : Below w10.heap.size w10 (w10.alloc (.cells #[.int .i64 (resVal q2).kind, .int .i64 (resVal q2).int, .string ⟨(resVal q2).text.toArray⟩] 23 (0, 0))) := below_alloc (Below.refl _ _) _
                have HT11 := Asd.mk (blk_new w10 (.cells #[.int .i64 (resVal q2).kind, .int .i64 (resVal q2).int, .string ⟨(resVal q2).text.toArray⟩] 23 (0, 0)))
                have HB11 := Asd.mk (below_step HB10.out hba11)
                have HU11 := Asd.mk (blk_below hba11 HU10.out)
                have HEQ : Asd (∀ W, (binOp .eql 23 (.agg #[.int .i64 (resVal q2).kind, .int .i64 (resVal q2).int, .string ⟨(resVal q2).text.toArray⟩]) (.agg #[.int .i64 (resVal q2).kind, .int .i64 (resVal q2).int, .string ⟨(resVal q2).text.toArray⟩])).run Tryz.prog W = .ok (.bool true) W) := Asd.mk fun W => by rw [val_eql]; simp
                go_upto_region 15 with fail
                clear hba11
                generalize w10.alloc (.cells #[.int .i64 (resVal q2).kind, .int .i64 (resVal q2).int, .string ⟨(resVal q2).text.toArray⟩] 23 (0, 0)) = w11 at HT11 HB11 HU11 ⊢
                clear HU10 HU8
                generalize (resVal q2).kind = q20 at HT11 HU11 HEQ
                generalize (resVal q2).int = q21 at HT11 HU11 HEQ
                generalize (⟨(resVal q2).text.toArray⟩ : ByteArray) = q22 at HT11 HU11 HEQ
                generalize resNum q2 = q23
                have g0 := (blk_cell HT11.out 0).trans rfl
                have g1 := (blk_cell HT11.out 1).trans rfl
                have g2 := (blk_cell HT11.out 2).trans rfl
                have k0 := (blk_cell HU11.out 0).trans rfl
                have k1 := (blk_cell HU11.out 1).trans rfl
                have k2 := (blk_cell HU11.out 2).trans rfl
                have heq := HEQ.out
                have HBE := Asd.mk (chain_below HB2.out HB11.out HB2.out.size)
                clear HB11 HB10 HB9
                go_wp2
                go_ret
                exact ⟨ret_eq rfl, HBE.out⟩
end Go.Proofs.YtbeeaikilcnpgaaGreatDoor.Exp
