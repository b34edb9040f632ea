/- ExprLeft: the walk. -/
import Derived.Test.YtcefmhofidoloaaGreatDoorQc10
import Derived.Test.YtcefmhofidoloaaGreatDoorQdLeftP2
set_option linter.unusedVariables false
set_option linter.unusedSimpArgs false
namespace Go.Proofs.YtcefmhofidoloaaGreatDoor.Exp
open Go.RowKit Go.Proofs.YtcefmhofidoloaaGreatDoor.Base Go.Proofs.YtcefmhofidoloaaGreatDoor.App Go.Proofs.YtcefmhofidoloaaGreatDoor.Byt Go.Proofs.YtcefmhofidoloaaGreatDoor.Lex

set_option maxRecDepth 100000 in
set_option maxHeartbeats 12800000 in
theorem left_calls (w : World) (op : Int) (h0 : (Lit.int .i64 op).wf = true) (na : Int) (h1 : (Lit.int .i64 na).wf = true) (nb : Int) (h2 : (Lit.int .i64 nb).wf = true) (nc : Int) (h3 : (Lit.int .i64 nc).wf = true) (hl : LexW w) (he : EtyW w) (hp : Lib.TabIs Tryz.prog w "internal/strconv.uint64pow10" .u64 Lib.pow10Tab) :
    Calls Tryz.prog 9 #[.int .i64 op, .int .i64 na, .int .i64 nb, .int .i64 nc] w fun e w' => e = .returned (.bool true) ∧ Below w.heap.size w w' := by
  clear h0 h1 h2 h3
  obtain ⟨j, hj, hjx⟩ := rem8 op
  obtain ⟨da, hda, HSA⟩ := small_calls na
  obtain ⟨db, hdb, HSB⟩ := small_calls nb
  obtain ⟨dc, hdc, HSC⟩ := small_calls nc
  obtain ⟨hr1, hr2, hr3⟩ := left_words hda hdb hdc hj
  have HR1 := Asd.mk hr1
  have HR2 := Asd.mk hr2
  have HR3 := Asd.mk hr3
  have HNX := Asd.mk (nice_of hr1)
  have HNY := Asd.mk (nice_of hr3)
  have HXY := Asd.mk (same_not (leftO.getD j 0) da db dc)
  have HLEN := Asd.mk (left_len (leftO_ok hj).1 (leftO_ok hj).2 da db dc)
  have HCA := Asd.mk HSA
  have HCB := Asd.mk HSB
  have HCC := Asd.mk HSC
  have HAT := Asd.mk (signs_at hj)
  have HTL := Asd.mk (leftT_len hj)
  generalize leftE (leftO.getD j 0) da db dc = x at HR1 HR2 HNX HXY HLEN
  generalize rightE (leftO.getD j 0) da db dc = y at HR3 HNY HXY HLEN
  clear hr1 hr2 hr3 HSA HSB HSC hda hdb hdc
  have HW : Asd (LawW w) := Asd.mk ⟨hl, he, hp⟩
  clear hl he hp
  go_enter Tryz.func9, Tryz.ntmps9
  go_wp2_with fail
  refine (works13_calls w HW.out).mono ?_
  rintro e w0 ⟨rfl, hb0⟩
  have HB0 := Asd.mk hb0
  have HW0 := Asd.mk (HW.out.below hb0)
  clear hb0
  have HSG := Asd.mk (blk_new w0 (.cells #[.string ⟨#[43]⟩, .string ⟨#[45]⟩, .string ⟨#[42]⟩, .string ⟨#[47]⟩, .string ⟨#[37]⟩, .string ⟨#[124, 124]⟩, .string ⟨#[97, 110, 100]⟩, .string ⟨#[111, 114]⟩] 9 (0, 0)))
  have HBS : Asd (Below w0.heap.size w0 _) := Asd.mk (below_alloc (Below.refl _ w0) (.cells #[.string ⟨#[43]⟩, .string ⟨#[45]⟩, .string ⟨#[42]⟩, .string ⟨#[47]⟩, .string ⟨#[37]⟩, .string ⟨#[124, 124]⟩, .string ⟨#[97, 110, 100]⟩, .string ⟨#[111, 114]⟩] 9 (0, 0)))
  go_upto_region 4 with fail
  generalize w0.alloc (.cells #[.string ⟨#[43]⟩, .string ⟨#[45]⟩, .string ⟨#[42]⟩, .string ⟨#[47]⟩, .string ⟨#[37]⟩, .string ⟨#[124, 124]⟩, .string ⟨#[97, 110, 100]⟩, .string ⟨#[111, 114]⟩] 9 (0, 0)) = w1 at HSG HBS ⊢
  have HBw1 : Asd (Below w.heap.size w w1) := Asd.mk (HB0.out.trans (HBS.out.mono HB0.out.size))
  have HWw1 := Asd.mk (HW0.out.below HBS.out)
  have hsj : w1.cell? ⟨w0.heap.size, j, none⟩ = some (.string ⟨(leftT.getD j []).toArray⟩) := by
    rw [blk_cell HSG.out, List.getElem?_toArray]
    exact HAT.out
  have hj0 : (0 : Int) ≤ (j : Int) := by omega
  have hj8 : (j : Int) < 8 := by omega
  clear HAT
  generalize leftT.getD j [] = s at hsj HR1 HR2 HR3 HTL
  go_wp2_with fail
  refine (HCA.out w1).mono ?_
  rintro e w2 ⟨rfl, hb2⟩
  have HBw2 : Asd (Below w.heap.size w w2) := Asd.mk (HBw1.out.trans (hb2.mono HBw1.out.size))
  have HWw2 := Asd.mk (HWw1.out.below hb2)
  clear hb2 hsj hjx hj0 hj8 hj
  go_wp2_with fail
  refine (HCB.out w2).mono ?_
  rintro e w3 ⟨rfl, hb3⟩
  have HBw3 : Asd (Below w.heap.size w w3) := Asd.mk (HBw2.out.trans (hb3.mono HBw2.out.size))
  have HWw3 := Asd.mk (HWw2.out.below hb3)
  clear hb3
  go_wp2_with fail
  refine (HCC.out w3).mono ?_
  rintro e w4 ⟨rfl, hb4⟩
  have HBw4 : Asd (Below w.heap.size w w4) := Asd.mk (HBw3.out.trans (hb4.mono HBw3.out.size))
  have HWw4 := Asd.mk (HWw3.out.below hb4)
  clear hb4 HCA HCB HCC
  have HXa : Asd ((⟨(digB da).toArray⟩ : ByteArray).data.toList = digB da) := Asd.mk rfl
  have hxa : (⟨(digB da).toArray⟩ : ByteArray).size ≤ 1 := by show (digB da).toArray.size ≤ 1; simp [digB]
  generalize (⟨(digB da).toArray⟩ : ByteArray) = xa at HXa hxa ⊢
  have HXb : Asd ((⟨(digB db).toArray⟩ : ByteArray).data.toList = digB db) := Asd.mk rfl
  have hxb : (⟨(digB db).toArray⟩ : ByteArray).size ≤ 1 := by show (digB db).toArray.size ≤ 1; simp [digB]
  generalize (⟨(digB db).toArray⟩ : ByteArray) = xb at HXb hxb ⊢
  have HXc : Asd ((⟨(digB dc).toArray⟩ : ByteArray).data.toList = digB dc) := Asd.mk rfl
  have hxc : (⟨(digB dc).toArray⟩ : ByteArray).size ≤ 1 := by show (digB dc).toArray.size ≤ 1; simp [digB]
  generalize (⟨(digB dc).toArray⟩ : ByteArray) = xc at HXc hxc ⊢
  have HXs : Asd ((⟨s.toArray⟩ : ByteArray).data.toList = s) := Asd.mk rfl
  have hxs : (⟨s.toArray⟩ : ByteArray).size ≤ 3 := by show s.toArray.size ≤ 3; have := HTL.out; simpa using this
  generalize (⟨s.toArray⟩ : ByteArray) = xs at HXs hxs ⊢
  clear HTL
  go_wp2_with fail
  have HS1 : Asd ((xa ++ (⟨#[32]⟩ : ByteArray) ++ xs ++ (⟨#[32]⟩ : ByteArray) ++ xb ++ (⟨#[32]⟩ : ByteArray) ++ xs ++ (⟨#[32]⟩ : ByteArray) ++ xc).data.toList = oneT da db dc s) := Asd.mk (by simp only [ByteArray.data_append, Array.toList_append, HXa.out, HXb.out, HXc.out, HXs.out]; rfl)
  generalize xa ++ (⟨#[32]⟩ : ByteArray) ++ xs ++ (⟨#[32]⟩ : ByteArray) ++ xb ++ (⟨#[32]⟩ : ByteArray) ++ xs ++ (⟨#[32]⟩ : ByteArray) ++ xc = t1 at HS1 ⊢
  refine (words_calls t1 w4 HWw4.out.lex).mono ?_
  rintro e w5 ⟨hbw5, A1, m1, c1, rfl, ht1⟩
  rw [HS1.out] at ht1
  have HBw5 : Asd (Below w.heap.size w w5) := Asd.mk (HBw4.out.trans (hbw5.mono HBw4.out.size))
  have HWw5 := Asd.mk (HWw4.out.below hbw5)
  have HT1 := Asd.mk ht1
  clear hbw5 ht1 HS1
  go_wp2_with fail
  refine (read_words A1 m1 c1 (oneT da db dc s) w5 HWw5.out.lex.shaped HT1.out).mono ?_
  rintro e w6 ⟨hbw6, hr⟩
  have HBw6 : Asd (Below w.heap.size w w6) := Asd.mk (HBw5.out.trans (hbw6.mono HBw5.out.size))
  have HWw6 := Asd.mk (HWw5.out.below hbw6)
  clear hbw6 HT1
  rw [HR1.out] at hr
  obtain ⟨sv, rfl, hh⟩ := hr
  simp only at hh
  obtain ⟨As1, cs1, rfl⟩ := held_len hh
  have HH01 := Asd.mk hh
  clear hh
  unfold exV
  have HA1 := Asd.mk (blk_new w6 (.cells #[.int .i64 x.kind, .int .i64 x.op, .int .i64 x.v.kind, .int .i64 x.v.int, .string ⟨x.v.text.toArray⟩, .string ⟨x.table.toArray⟩, .string ⟨x.name.toArray⟩, .int .i64 x.col, .int .i64 x.ty, .slice As1 x.args.length cs1] 58 (0, 0)))
  have HBA1 : Asd (Below w6.heap.size w6 _) := Asd.mk (below_alloc (Below.refl _ w6) (.cells #[.int .i64 x.kind, .int .i64 x.op, .int .i64 x.v.kind, .int .i64 x.v.int, .string ⟨x.v.text.toArray⟩, .string ⟨x.table.toArray⟩, .string ⟨x.name.toArray⟩, .int .i64 x.col, .int .i64 x.ty, .slice As1 x.args.length cs1] 58 (0, 0)))
  go_upto_region 7 with fail
  generalize w6.alloc (.cells #[.int .i64 x.kind, .int .i64 x.op, .int .i64 x.v.kind, .int .i64 x.v.int, .string ⟨x.v.text.toArray⟩, .string ⟨x.table.toArray⟩, .string ⟨x.name.toArray⟩, .int .i64 x.col, .int .i64 x.ty, .slice As1 x.args.length cs1] 58 (0, 0)) = w7 at HA1 HBA1 ⊢
  have HBw7 : Asd (Below w.heap.size w w7) := Asd.mk (HBw6.out.trans (HBA1.out.mono HBw6.out.size))
  have HWw7 := Asd.mk (HWw6.out.below HBA1.out)
  have HH1 := Asd.mk (held_below HH01.out HBA1.out)
  go_wp2_with fail
  have HS2 : Asd (((⟨#[40]⟩ : ByteArray) ++ xa ++ (⟨#[32]⟩ : ByteArray) ++ xs ++ (⟨#[32]⟩ : ByteArray) ++ xb ++ (⟨#[41, 32]⟩ : ByteArray) ++ xs ++ (⟨#[32]⟩ : ByteArray) ++ xc).data.toList = twoT da db dc s) := Asd.mk (by simp only [ByteArray.data_append, Array.toList_append, HXa.out, HXb.out, HXc.out, HXs.out]; rfl)
  generalize (⟨#[40]⟩ : ByteArray) ++ xa ++ (⟨#[32]⟩ : ByteArray) ++ xs ++ (⟨#[32]⟩ : ByteArray) ++ xb ++ (⟨#[41, 32]⟩ : ByteArray) ++ xs ++ (⟨#[32]⟩ : ByteArray) ++ xc = t2 at HS2 ⊢
  refine (words_calls t2 w7 HWw7.out.lex).mono ?_
  rintro e w8 ⟨hbw8, A2, m2, c2, rfl, ht2⟩
  rw [HS2.out] at ht2
  have HBw8 : Asd (Below w.heap.size w w8) := Asd.mk (HBw7.out.trans (hbw8.mono HBw7.out.size))
  have HWw8 := Asd.mk (HWw7.out.below hbw8)
  have HA1 := Asd.mk (blk_below hbw8 HA1.out)
  have HH1 := Asd.mk (held_below HH1.out hbw8)
  have HT2 := Asd.mk ht2
  clear hbw8 ht2 HS2
  go_wp2_with fail
  refine (read_words A2 m2 c2 (twoT da db dc s) w8 HWw8.out.lex.shaped HT2.out).mono ?_
  rintro e w9 ⟨hbw9, hr⟩
  have HBw9 : Asd (Below w.heap.size w w9) := Asd.mk (HBw8.out.trans (hbw9.mono HBw8.out.size))
  have HWw9 := Asd.mk (HWw8.out.below hbw9)
  have HA1 := Asd.mk (blk_below hbw9 HA1.out)
  have HH1 := Asd.mk (held_below HH1.out hbw9)
  clear hbw9 HT2
  rw [HR2.out] at hr
  obtain ⟨sv, rfl, hh⟩ := hr
  simp only at hh
  obtain ⟨As2, cs2, rfl⟩ := held_len hh
  have HH02 := Asd.mk hh
  clear hh
  unfold exV
  have HA2 := Asd.mk (blk_new w9 (.cells #[.int .i64 x.kind, .int .i64 x.op, .int .i64 x.v.kind, .int .i64 x.v.int, .string ⟨x.v.text.toArray⟩, .string ⟨x.table.toArray⟩, .string ⟨x.name.toArray⟩, .int .i64 x.col, .int .i64 x.ty, .slice As2 x.args.length cs2] 58 (0, 0)))
  have HBA2 : Asd (Below w9.heap.size w9 _) := Asd.mk (below_alloc (Below.refl _ w9) (.cells #[.int .i64 x.kind, .int .i64 x.op, .int .i64 x.v.kind, .int .i64 x.v.int, .string ⟨x.v.text.toArray⟩, .string ⟨x.table.toArray⟩, .string ⟨x.name.toArray⟩, .int .i64 x.col, .int .i64 x.ty, .slice As2 x.args.length cs2] 58 (0, 0)))
  go_upto_region 8 with fail
  generalize w9.alloc (.cells #[.int .i64 x.kind, .int .i64 x.op, .int .i64 x.v.kind, .int .i64 x.v.int, .string ⟨x.v.text.toArray⟩, .string ⟨x.table.toArray⟩, .string ⟨x.name.toArray⟩, .int .i64 x.col, .int .i64 x.ty, .slice As2 x.args.length cs2] 58 (0, 0)) = w10 at HA2 HBA2 ⊢
  have HBw10 : Asd (Below w.heap.size w w10) := Asd.mk (HBw9.out.trans (HBA2.out.mono HBw9.out.size))
  have HWw10 := Asd.mk (HWw9.out.below HBA2.out)
  have HH2 := Asd.mk (held_below HH02.out HBA2.out)
  have HA1 := Asd.mk (blk_below HBA2.out HA1.out)
  have HH1 := Asd.mk (held_below HH1.out HBA2.out)
  go_wp2_with fail
  have HS3 : Asd ((xa ++ (⟨#[32]⟩ : ByteArray) ++ xs ++ (⟨#[32, 40]⟩ : ByteArray) ++ xb ++ (⟨#[32]⟩ : ByteArray) ++ xs ++ (⟨#[32]⟩ : ByteArray) ++ xc ++ (⟨#[41]⟩ : ByteArray)).data.toList = triT da db dc s) := Asd.mk (by simp only [ByteArray.data_append, Array.toList_append, HXa.out, HXb.out, HXc.out, HXs.out]; rfl)
  generalize xa ++ (⟨#[32]⟩ : ByteArray) ++ xs ++ (⟨#[32, 40]⟩ : ByteArray) ++ xb ++ (⟨#[32]⟩ : ByteArray) ++ xs ++ (⟨#[32]⟩ : ByteArray) ++ xc ++ (⟨#[41]⟩ : ByteArray) = t3 at HS3 ⊢
  refine (words_calls t3 w10 HWw10.out.lex).mono ?_
  rintro e w11 ⟨hbw11, A3, m3, c3, rfl, ht3⟩
  rw [HS3.out] at ht3
  have HBw11 : Asd (Below w.heap.size w w11) := Asd.mk (HBw10.out.trans (hbw11.mono HBw10.out.size))
  have HWw11 := Asd.mk (HWw10.out.below hbw11)
  have HA1 := Asd.mk (blk_below hbw11 HA1.out)
  have HH1 := Asd.mk (held_below HH1.out hbw11)
  have HA2 := Asd.mk (blk_below hbw11 HA2.out)
  have HH2 := Asd.mk (held_below HH2.out hbw11)
  have HT3 := Asd.mk ht3
  clear hbw11 ht3 HS3
  go_wp2_with fail
  refine (read_words A3 m3 c3 (triT da db dc s) w11 HWw11.out.lex.shaped HT3.out).mono ?_
  rintro e w12 ⟨hbw12, hr⟩
  have HBw12 : Asd (Below w.heap.size w w12) := Asd.mk (HBw11.out.trans (hbw12.mono HBw11.out.size))
  have HWw12 := Asd.mk (HWw11.out.below hbw12)
  have HA1 := Asd.mk (blk_below hbw12 HA1.out)
  have HH1 := Asd.mk (held_below HH1.out hbw12)
  have HA2 := Asd.mk (blk_below hbw12 HA2.out)
  have HH2 := Asd.mk (held_below HH2.out hbw12)
  clear hbw12 HT3
  rw [HR3.out] at hr
  obtain ⟨sv, rfl, hh⟩ := hr
  simp only at hh
  obtain ⟨As3, cs3, rfl⟩ := held_len hh
  have HH03 := Asd.mk hh
  clear hh
  unfold exV
  have HA3 := Asd.mk (blk_new w12 (.cells #[.int .i64 y.kind, .int .i64 y.op, .int .i64 y.v.kind, .int .i64 y.v.int, .string ⟨y.v.text.toArray⟩, .string ⟨y.table.toArray⟩, .string ⟨y.name.toArray⟩, .int .i64 y.col, .int .i64 y.ty, .slice As3 y.args.length cs3] 58 (0, 0)))
  have HBA3 : Asd (Below w12.heap.size w12 _) := Asd.mk (below_alloc (Below.refl _ w12) (.cells #[.int .i64 y.kind, .int .i64 y.op, .int .i64 y.v.kind, .int .i64 y.v.int, .string ⟨y.v.text.toArray⟩, .string ⟨y.table.toArray⟩, .string ⟨y.name.toArray⟩, .int .i64 y.col, .int .i64 y.ty, .slice As3 y.args.length cs3] 58 (0, 0)))
  go_upto_region 9 with fail
  generalize w12.alloc (.cells #[.int .i64 y.kind, .int .i64 y.op, .int .i64 y.v.kind, .int .i64 y.v.int, .string ⟨y.v.text.toArray⟩, .string ⟨y.table.toArray⟩, .string ⟨y.name.toArray⟩, .int .i64 y.col, .int .i64 y.ty, .slice As3 y.args.length cs3] 58 (0, 0)) = w13 at HA3 HBA3 ⊢
  have HBw13 : Asd (Below w.heap.size w w13) := Asd.mk (HBw12.out.trans (HBA3.out.mono HBw12.out.size))
  have HWw13 := Asd.mk (HWw12.out.below HBA3.out)
  have HH3 := Asd.mk (held_below HH03.out HBA3.out)
  have HA1 := Asd.mk (blk_below HBA3.out HA1.out)
  have HH1 := Asd.mk (held_below HH1.out HBA3.out)
  have HA2 := Asd.mk (blk_below HBA3.out HA2.out)
  have HH2 := Asd.mk (held_below HH2.out HBA3.out)
  have e0 := (blk_cell HA1.out 0).trans rfl
  have e1 := (blk_cell HA1.out 1).trans rfl
  have e2 := (blk_cell HA1.out 2).trans rfl
  have e3 := (blk_cell HA1.out 3).trans rfl
  have e4 := (blk_cell HA1.out 4).trans rfl
  have e5 := (blk_cell HA1.out 5).trans rfl
  have e6 := (blk_cell HA1.out 6).trans rfl
  have e7 := (blk_cell HA1.out 7).trans rfl
  have e8 := (blk_cell HA1.out 8).trans rfl
  have e9 := (blk_cell HA1.out 9).trans rfl
  have f0 := (blk_cell HA2.out 0).trans rfl
  have f1 := (blk_cell HA2.out 1).trans rfl
  have f2 := (blk_cell HA2.out 2).trans rfl
  have f3 := (blk_cell HA2.out 3).trans rfl
  have f4 := (blk_cell HA2.out 4).trans rfl
  have f5 := (blk_cell HA2.out 5).trans rfl
  have f6 := (blk_cell HA2.out 6).trans rfl
  have f7 := (blk_cell HA2.out 7).trans rfl
  have f8 := (blk_cell HA2.out 8).trans rfl
  have f9 := (blk_cell HA2.out 9).trans rfl
  have g0 := (blk_cell HA3.out 0).trans rfl
  have g1 := (blk_cell HA3.out 1).trans rfl
  have g2 := (blk_cell HA3.out 2).trans rfl
  have g3 := (blk_cell HA3.out 3).trans rfl
  have g4 := (blk_cell HA3.out 4).trans rfl
  have g5 := (blk_cell HA3.out 5).trans rfl
  have g6 := (blk_cell HA3.out 6).trans rfl
  have g7 := (blk_cell HA3.out 7).trans rfl
  have g8 := (blk_cell HA3.out 8).trans rfl
  have g9 := (blk_cell HA3.out 9).trans rfl
  have HC1 := Asd.mk (fun W (hb : Below w13.heap.size w13 W) => same_calls _ _ x x (.slice As1 x.args.length cs1) (.slice As2 x.args.length cs2) W HNX.out.few (held_below HH1.out hb) (held_below HH2.out hb))
  have HC2 := Asd.mk (fun W (hb : Below w13.heap.size w13 W) => same_calls _ _ x y (.slice As1 x.args.length cs1) (.slice As3 y.args.length cs3) W HNX.out.few (held_below HH1.out hb) (held_below HH3.out hb))
  have HP1 := Asd.mk (fun W (hb : Below w13.heap.size w13 W) => print_ok x HNX.out.ok HNX.out.val HNX.out.size _ (.slice As1 x.args.length cs1) W (prw_below HWw13.out.prw hb) (held_below HH1.out hb))
  have HP2 := Asd.mk (fun W (hb : Below w13.heap.size w13 W) => print_ok y HNY.out.ok HNY.out.val HNY.out.size _ (.slice As3 y.args.length cs3) W (prw_below HWw13.out.prw hb) (held_below HH3.out hb))
  have hpl := HNX.out.size
  generalize prE litV x = t at HP1 HLEN hpl
  generalize prE litV y = u at HP2 HLEN
  unfold exV at HC1 HC2 HP1 HP2
  have hlen : ((u.length : Int) == (t.length : Int) + 2) = true := by have := HLEN.out; rw [beq_iff_eq]; omega
  have HS : Asd (∀ w', Below w13.heap.size w13 w' → w'.cell? ⟨w6.heap.size, 0, none⟩ = some (.int .i64 x.kind) ∧ w'.cell? ⟨w6.heap.size, 1, none⟩ = some (.int .i64 x.op) ∧ w'.cell? ⟨w6.heap.size, 2, none⟩ = some (.int .i64 x.v.kind) ∧ w'.cell? ⟨w6.heap.size, 3, none⟩ = some (.int .i64 x.v.int) ∧ w'.cell? ⟨w6.heap.size, 4, none⟩ = some (.string ⟨x.v.text.toArray⟩) ∧ w'.cell? ⟨w6.heap.size, 5, none⟩ = some (.string ⟨x.table.toArray⟩) ∧ w'.cell? ⟨w6.heap.size, 6, none⟩ = some (.string ⟨x.name.toArray⟩) ∧ w'.cell? ⟨w6.heap.size, 7, none⟩ = some (.int .i64 x.col) ∧ w'.cell? ⟨w6.heap.size, 8, none⟩ = some (.int .i64 x.ty) ∧ w'.cell? ⟨w6.heap.size, 9, none⟩ = some (.slice As1 x.args.length cs1) ∧ w'.cell? ⟨w9.heap.size, 0, none⟩ = some (.int .i64 x.kind) ∧ w'.cell? ⟨w9.heap.size, 1, none⟩ = some (.int .i64 x.op) ∧ w'.cell? ⟨w9.heap.size, 2, none⟩ = some (.int .i64 x.v.kind) ∧ w'.cell? ⟨w9.heap.size, 3, none⟩ = some (.int .i64 x.v.int) ∧ w'.cell? ⟨w9.heap.size, 4, none⟩ = some (.string ⟨x.v.text.toArray⟩) ∧ w'.cell? ⟨w9.heap.size, 5, none⟩ = some (.string ⟨x.table.toArray⟩) ∧ w'.cell? ⟨w9.heap.size, 6, none⟩ = some (.string ⟨x.name.toArray⟩) ∧ w'.cell? ⟨w9.heap.size, 7, none⟩ = some (.int .i64 x.col) ∧ w'.cell? ⟨w9.heap.size, 8, none⟩ = some (.int .i64 x.ty) ∧ w'.cell? ⟨w9.heap.size, 9, none⟩ = some (.slice As2 x.args.length cs2) ∧ w'.cell? ⟨w12.heap.size, 0, none⟩ = some (.int .i64 y.kind) ∧ w'.cell? ⟨w12.heap.size, 1, none⟩ = some (.int .i64 y.op) ∧ w'.cell? ⟨w12.heap.size, 2, none⟩ = some (.int .i64 y.v.kind) ∧ w'.cell? ⟨w12.heap.size, 3, none⟩ = some (.int .i64 y.v.int) ∧ w'.cell? ⟨w12.heap.size, 4, none⟩ = some (.string ⟨y.v.text.toArray⟩) ∧ w'.cell? ⟨w12.heap.size, 5, none⟩ = some (.string ⟨y.table.toArray⟩) ∧ w'.cell? ⟨w12.heap.size, 6, none⟩ = some (.string ⟨y.name.toArray⟩) ∧ w'.cell? ⟨w12.heap.size, 7, none⟩ = some (.int .i64 y.col) ∧ w'.cell? ⟨w12.heap.size, 8, none⟩ = some (.int .i64 y.ty) ∧ w'.cell? ⟨w12.heap.size, 9, none⟩ = some (.slice As3 y.args.length cs3) ∧ Below w13.heap.size w13 w') := Asd.mk fun w' h => ⟨(h.cell (World.block_lt_of_cell? w13 _ e0)).trans e0, (h.cell (World.block_lt_of_cell? w13 _ e1)).trans e1, (h.cell (World.block_lt_of_cell? w13 _ e2)).trans e2, (h.cell (World.block_lt_of_cell? w13 _ e3)).trans e3, (h.cell (World.block_lt_of_cell? w13 _ e4)).trans e4, (h.cell (World.block_lt_of_cell? w13 _ e5)).trans e5, (h.cell (World.block_lt_of_cell? w13 _ e6)).trans e6, (h.cell (World.block_lt_of_cell? w13 _ e7)).trans e7, (h.cell (World.block_lt_of_cell? w13 _ e8)).trans e8, (h.cell (World.block_lt_of_cell? w13 _ e9)).trans e9, (h.cell (World.block_lt_of_cell? w13 _ f0)).trans f0, (h.cell (World.block_lt_of_cell? w13 _ f1)).trans f1, (h.cell (World.block_lt_of_cell? w13 _ f2)).trans f2, (h.cell (World.block_lt_of_cell? w13 _ f3)).trans f3, (h.cell (World.block_lt_of_cell? w13 _ f4)).trans f4, (h.cell (World.block_lt_of_cell? w13 _ f5)).trans f5, (h.cell (World.block_lt_of_cell? w13 _ f6)).trans f6, (h.cell (World.block_lt_of_cell? w13 _ f7)).trans f7, (h.cell (World.block_lt_of_cell? w13 _ f8)).trans f8, (h.cell (World.block_lt_of_cell? w13 _ f9)).trans f9, (h.cell (World.block_lt_of_cell? w13 _ g0)).trans g0, (h.cell (World.block_lt_of_cell? w13 _ g1)).trans g1, (h.cell (World.block_lt_of_cell? w13 _ g2)).trans g2, (h.cell (World.block_lt_of_cell? w13 _ g3)).trans g3, (h.cell (World.block_lt_of_cell? w13 _ g4)).trans g4, (h.cell (World.block_lt_of_cell? w13 _ g5)).trans g5, (h.cell (World.block_lt_of_cell? w13 _ g6)).trans g6, (h.cell (World.block_lt_of_cell? w13 _ g7)).trans g7, (h.cell (World.block_lt_of_cell? w13 _ g8)).trans g8, (h.cell (World.block_lt_of_cell? w13 _ g9)).trans g9, h⟩
  go_upto_region 9 with fail
  refine wp_region_held_drew (S := fun w' => w'.cell? ⟨w6.heap.size, 0, none⟩ = some (.int .i64 x.kind) ∧ w'.cell? ⟨w6.heap.size, 1, none⟩ = some (.int .i64 x.op) ∧ w'.cell? ⟨w6.heap.size, 2, none⟩ = some (.int .i64 x.v.kind) ∧ w'.cell? ⟨w6.heap.size, 3, none⟩ = some (.int .i64 x.v.int) ∧ w'.cell? ⟨w6.heap.size, 4, none⟩ = some (.string ⟨x.v.text.toArray⟩) ∧ w'.cell? ⟨w6.heap.size, 5, none⟩ = some (.string ⟨x.table.toArray⟩) ∧ w'.cell? ⟨w6.heap.size, 6, none⟩ = some (.string ⟨x.name.toArray⟩) ∧ w'.cell? ⟨w6.heap.size, 7, none⟩ = some (.int .i64 x.col) ∧ w'.cell? ⟨w6.heap.size, 8, none⟩ = some (.int .i64 x.ty) ∧ w'.cell? ⟨w6.heap.size, 9, none⟩ = some (.slice As1 x.args.length cs1) ∧ w'.cell? ⟨w9.heap.size, 0, none⟩ = some (.int .i64 x.kind) ∧ w'.cell? ⟨w9.heap.size, 1, none⟩ = some (.int .i64 x.op) ∧ w'.cell? ⟨w9.heap.size, 2, none⟩ = some (.int .i64 x.v.kind) ∧ w'.cell? ⟨w9.heap.size, 3, none⟩ = some (.int .i64 x.v.int) ∧ w'.cell? ⟨w9.heap.size, 4, none⟩ = some (.string ⟨x.v.text.toArray⟩) ∧ w'.cell? ⟨w9.heap.size, 5, none⟩ = some (.string ⟨x.table.toArray⟩) ∧ w'.cell? ⟨w9.heap.size, 6, none⟩ = some (.string ⟨x.name.toArray⟩) ∧ w'.cell? ⟨w9.heap.size, 7, none⟩ = some (.int .i64 x.col) ∧ w'.cell? ⟨w9.heap.size, 8, none⟩ = some (.int .i64 x.ty) ∧ w'.cell? ⟨w9.heap.size, 9, none⟩ = some (.slice As2 x.args.length cs2) ∧ w'.cell? ⟨w12.heap.size, 0, none⟩ = some (.int .i64 y.kind) ∧ w'.cell? ⟨w12.heap.size, 1, none⟩ = some (.int .i64 y.op) ∧ w'.cell? ⟨w12.heap.size, 2, none⟩ = some (.int .i64 y.v.kind) ∧ w'.cell? ⟨w12.heap.size, 3, none⟩ = some (.int .i64 y.v.int) ∧ w'.cell? ⟨w12.heap.size, 4, none⟩ = some (.string ⟨y.v.text.toArray⟩) ∧ w'.cell? ⟨w12.heap.size, 5, none⟩ = some (.string ⟨y.table.toArray⟩) ∧ w'.cell? ⟨w12.heap.size, 6, none⟩ = some (.string ⟨y.name.toArray⟩) ∧ w'.cell? ⟨w12.heap.size, 7, none⟩ = some (.int .i64 y.col) ∧ w'.cell? ⟨w12.heap.size, 8, none⟩ = some (.int .i64 y.ty) ∧ w'.cell? ⟨w12.heap.size, 9, none⟩ = some (.slice As3 y.args.length cs3) ∧ Below w13.heap.size w13 w') (by kernel_rfl) (HS.out _ (Below.refl _ _).drew) (fun hHeld => ?_)
  refine wpAnyH_take (i := 0) (oi := ({ dst := some 98, op := Op.move (Operand.tmp 16), type := 42, pos := "more.go:42", after := #[], guard := none } : Oper)) (v := ?va0) rfl (by kernel_rfl) (by kernel_rfl) (by kernel_rfl) (fun _ _ _ h => h) (Or.inl ⟨by rfl, ?ha0⟩) (by assumption) ?ra0
  case ha0 => (intro w hSw; (try dsimp only at hSw); go_simp; try (with_reducible rfl))
  try simp only [Act.put, List.setIfInBounds_toArray, List.set_cons_zero, List.set_cons_succ]
  refine wpAnyH_take (i := 1) (oi := ({ dst := some 99, op := Op.binOp BinOp.eql 42 (Operand.tmp 98) (Operand.const Value.nilIface) 42, type := 4, pos := "more.go:42", after := #[{ on := 0, ground := Ground.data }], guard := none } : Oper)) (v := ?va1) rfl (by kernel_rfl) (by kernel_rfl) (by kernel_rfl) (fun _ _ _ h => h) (Or.inl ⟨by rfl, ?ha1⟩) (by assumption) ?ra1
  case ha1 => (intro w hSw; (try dsimp only at hSw); go_simp; try (with_reducible rfl))
  try simp only [Act.put, List.setIfInBounds_toArray, List.set_cons_zero, List.set_cons_succ]
  refine wpAnyH_take (i := 2) (oi := ({ dst := some 100, op := Op.move (Operand.tmp 99), type := 4, pos := "more.go:42", after := #[{ on := 1, ground := Ground.data }], guard := none } : Oper)) (v := ?va2) rfl (by kernel_rfl) (by kernel_rfl) (by kernel_rfl) (fun _ _ _ h => h) (Or.inl ⟨by rfl, ?ha2⟩) (by assumption) ?ra2
  case ha2 => (intro w hSw; (try dsimp only at hSw); go_simp; try (with_reducible rfl))
  try simp only [Act.put, List.setIfInBounds_toArray, List.set_cons_zero, List.set_cons_succ]
  refine wpAnyH_take (i := 3) (oi := ({ dst := some 101, op := Op.move (Operand.tmp 19), type := 42, pos := "more.go:42", after := #[{ on := 2, ground := Ground.guard }], guard := some (2, true) } : Oper)) (v := ?va3) rfl (by kernel_rfl) (by kernel_rfl) (by kernel_rfl) (fun _ _ _ h => h) (Or.inl ⟨by rfl, ?ha3⟩) (by assumption) ?ra3
  case ha3 => (intro w hSw; (try dsimp only at hSw); go_simp; try (with_reducible rfl))
  try simp only [Act.put, List.setIfInBounds_toArray, List.set_cons_zero, List.set_cons_succ]
  refine wpAnyH_take (i := 4) (oi := ({ dst := some 102, op := Op.binOp BinOp.eql 42 (Operand.tmp 101) (Operand.const Value.nilIface) 42, type := 4, pos := "more.go:42", after := #[{ on := 3, ground := Ground.data }, { on := 2, ground := Ground.guard }], guard := some (2, true) } : Oper)) (v := ?va4) rfl (by kernel_rfl) (by kernel_rfl) (by kernel_rfl) (fun _ _ _ h => h) (Or.inl ⟨by rfl, ?ha4⟩) (by assumption) ?ra4
  case ha4 => (intro w hSw; (try dsimp only at hSw); go_simp; try (with_reducible rfl))
  try simp only [Act.put, List.setIfInBounds_toArray, List.set_cons_zero, List.set_cons_succ]
  refine wpAnyH_take (i := 5) (oi := ({ dst := some 103, op := Op.pick (Operand.tmp 100) (Operand.tmp 102) (Operand.const (Value.bool false)), type := 4, pos := "more.go:42", after := #[{ on := 2, ground := Ground.data }, { on := 4, ground := Ground.data }], guard := none } : Oper)) (v := ?va5) rfl (by kernel_rfl) (by kernel_rfl) (by kernel_rfl) (fun _ _ _ h => h) (Or.inl ⟨by rfl, ?ha5⟩) (by assumption) ?ra5
  case ha5 => (intro w hSw; (try dsimp only at hSw); go_simp; try (with_reducible rfl))
  try simp only [Act.put, List.setIfInBounds_toArray, List.set_cons_zero, List.set_cons_succ]
  refine wpAnyH_take (i := 6) (oi := ({ dst := some 104, op := Op.move (Operand.tmp 103), type := 4, pos := "more.go:42", after := #[{ on := 5, ground := Ground.data }, { on := 2, ground := Ground.chain }], guard := none } : Oper)) (v := ?va6) rfl (by kernel_rfl) (by kernel_rfl) (by kernel_rfl) (fun _ _ _ h => h) (Or.inl ⟨by rfl, ?ha6⟩) (by assumption) ?ra6
  case ha6 => (intro w hSw; (try dsimp only at hSw); go_simp; try (with_reducible rfl))
  try simp only [Act.put, List.setIfInBounds_toArray, List.set_cons_zero, List.set_cons_succ]
  refine wpAnyH_take (i := 7) (oi := ({ dst := some 105, op := Op.move (Operand.tmp 22), type := 42, pos := "more.go:42", after := #[{ on := 6, ground := Ground.guard }], guard := some (6, true) } : Oper)) (v := ?va7) rfl (by kernel_rfl) (by kernel_rfl) (by kernel_rfl) (fun _ _ _ h => h) (Or.inl ⟨by rfl, ?ha7⟩) (by assumption) ?ra7
  case ha7 => (intro w hSw; (try dsimp only at hSw); go_simp; try (with_reducible rfl))
  try simp only [Act.put, List.setIfInBounds_toArray, List.set_cons_zero, List.set_cons_succ]
  refine wpAnyH_take (i := 8) (oi := ({ dst := some 106, op := Op.binOp BinOp.eql 42 (Operand.tmp 105) (Operand.const Value.nilIface) 42, type := 4, pos := "more.go:42", after := #[{ on := 7, ground := Ground.data }, { on := 6, ground := Ground.guard }], guard := some (6, true) } : Oper)) (v := ?va8) rfl (by kernel_rfl) (by kernel_rfl) (by kernel_rfl) (fun _ _ _ h => h) (Or.inl ⟨by rfl, ?ha8⟩) (by assumption) ?ra8
  case ha8 => (intro w hSw; (try dsimp only at hSw); go_simp; try (with_reducible rfl))
  try simp only [Act.put, List.setIfInBounds_toArray, List.set_cons_zero, List.set_cons_succ]
  refine wpAnyH_take (i := 9) (oi := ({ dst := some 107, op := Op.pick (Operand.tmp 104) (Operand.tmp 106) (Operand.const (Value.bool false)), type := 4, pos := "more.go:42", after := #[{ on := 6, ground := Ground.data }, { on := 8, ground := Ground.data }], guard := none } : Oper)) (v := ?va9) rfl (by kernel_rfl) (by kernel_rfl) (by kernel_rfl) (fun _ _ _ h => h) (Or.inl ⟨by rfl, ?ha9⟩) (by assumption) ?ra9
  case ha9 => (intro w hSw; (try dsimp only at hSw); go_simp; try (with_reducible rfl))
  try simp only [Act.put, List.setIfInBounds_toArray, List.set_cons_zero, List.set_cons_succ]
  refine wpAnyH_take (i := 10) (oi := ({ dst := some 108, op := Op.move (Operand.tmp 107), type := 4, pos := "more.go:42", after := #[{ on := 9, ground := Ground.data }, { on := 6, ground := Ground.chain }], guard := none } : Oper)) (v := ?va10) rfl (by kernel_rfl) (by kernel_rfl) (by kernel_rfl) (fun _ _ _ h => h) (Or.inl ⟨by rfl, ?ha10⟩) (by assumption) ?ra10
  case ha10 => (intro w hSw; (try dsimp only at hSw); go_simp; try (with_reducible rfl))
  try simp only [Act.put, List.setIfInBounds_toArray, List.set_cons_zero, List.set_cons_succ]
  refine wpAnyH_take (i := 11) (oi := ({ dst := some 109, op := Op.load 58 (Operand.tmp 14), type := 58, pos := "more.go:42", after := #[{ on := 10, ground := Ground.guard }], guard := some (10, true) } : Oper)) (v := ?va11) rfl (by kernel_rfl) (by kernel_rfl) (by kernel_rfl) (fun _ _ _ h => h) (Or.inl ⟨by rfl, ?ha11⟩) (by assumption) ?ra11
  case ha11 => (intro w hSw; (try dsimp only at hSw); go_simp; try (with_reducible rfl))
  try simp only [Act.put, List.setIfInBounds_toArray, List.set_cons_zero, List.set_cons_succ]
  refine wpAnyH_take (i := 12) (oi := ({ dst := some 110, op := Op.load 58 (Operand.tmp 17), type := 58, pos := "more.go:42", after := #[{ on := 10, ground := Ground.guard }], guard := some (10, true) } : Oper)) (v := ?va12) rfl (by kernel_rfl) (by kernel_rfl) (by kernel_rfl) (fun _ _ _ h => h) (Or.inl ⟨by rfl, ?ha12⟩) (by assumption) ?ra12
  case ha12 => (intro w hSw; (try dsimp only at hSw); go_simp; try (with_reducible rfl))
  try simp only [Act.put, List.setIfInBounds_toArray, List.set_cons_zero, List.set_cons_succ]
  refine wpAnyH_ready (rs := [13]) (by kernel_rfl) (by simp) ?_
  refine AllReadyH.cons (o := ({ dst := some 111, op := Op.call { callee := Callee.value (Operand.func 24), args := #[Operand.tmp 109, Operand.tmp 110], argTypes := #[58, 58] }, type := 4, pos := "more.go:42", after := #[{ on := 11, ground := Ground.data }, { on := 12, ground := Ground.data }, { on := 10, ground := Ground.chain }, { on := 10, ground := Ground.guard }], guard := some (10, true) } : Oper)) rfl (fun K hK => ?_) AllReadyH.nil
  go_simp
  refine (HC1.out _ (Below.refl _ _).drew).mono ?_
  rintro e wb ⟨rfl, hbb⟩
  rw [sameE_refl]
  go_wp2_with fail
  refine hK.out _ _ (HS.out _ (below_step (Below.refl _ _).drew hbb)) (fun hHeld => ?_)
  clear hK K
  try simp only [Act.put, List.setIfInBounds_toArray, List.set_cons_zero, List.set_cons_succ]
  refine wpAnyH_take (i := 14) (oi := ({ dst := some 112, op := Op.pick (Operand.tmp 108) (Operand.tmp 111) (Operand.const (Value.bool false)), type := 4, pos := "more.go:42", after := #[{ on := 10, ground := Ground.data }, { on := 13, ground := Ground.data }], guard := none } : Oper)) (v := ?va14) rfl (by kernel_rfl) (by kernel_rfl) (by kernel_rfl) (fun _ _ _ h => h) (Or.inl ⟨by rfl, ?ha14⟩) (by assumption) ?ra14
  case ha14 => (intro w hSw; (try dsimp only at hSw); go_simp; try (with_reducible rfl))
  try simp only [Act.put, List.setIfInBounds_toArray, List.set_cons_zero, List.set_cons_succ]
  refine wpAnyH_take (i := 15) (oi := ({ dst := some 113, op := Op.move (Operand.tmp 112), type := 4, pos := "more.go:42", after := #[{ on := 14, ground := Ground.data }, { on := 13, ground := Ground.chain }], guard := none } : Oper)) (v := ?va15) rfl (by kernel_rfl) (by kernel_rfl) (by kernel_rfl) (fun _ _ _ h => h) (Or.inl ⟨by rfl, ?ha15⟩) (by assumption) ?ra15
  case ha15 => (intro w hSw; (try dsimp only at hSw); go_simp; try (with_reducible rfl))
  try simp only [Act.put, List.setIfInBounds_toArray, List.set_cons_zero, List.set_cons_succ]
  refine wpAnyH_take (i := 16) (oi := ({ dst := some 114, op := Op.load 58 (Operand.tmp 14), type := 58, pos := "more.go:42", after := #[{ on := 15, ground := Ground.guard }], guard := some (15, true) } : Oper)) (v := ?va16) rfl (by kernel_rfl) (by kernel_rfl) (by kernel_rfl) (fun _ _ _ h => h) (Or.inl ⟨by rfl, ?ha16⟩) (by assumption) ?ra16
  case ha16 => (intro w hSw; (try dsimp only at hSw); go_simp; try (with_reducible rfl))
  try simp only [Act.put, List.setIfInBounds_toArray, List.set_cons_zero, List.set_cons_succ]
  refine wpAnyH_take (i := 17) (oi := ({ dst := some 115, op := Op.load 58 (Operand.tmp 20), type := 58, pos := "more.go:42", after := #[{ on := 15, ground := Ground.guard }], guard := some (15, true) } : Oper)) (v := ?va17) rfl (by kernel_rfl) (by kernel_rfl) (by kernel_rfl) (fun _ _ _ h => h) (Or.inl ⟨by rfl, ?ha17⟩) (by assumption) ?ra17
  case ha17 => (intro w hSw; (try dsimp only at hSw); go_simp; try (with_reducible rfl))
  try simp only [Act.put, List.setIfInBounds_toArray, List.set_cons_zero, List.set_cons_succ]
  refine wpAnyH_ready (rs := [18]) (by kernel_rfl) (by simp) ?_
  refine AllReadyH.cons (o := ({ dst := some 116, op := Op.call { callee := Callee.value (Operand.func 24), args := #[Operand.tmp 114, Operand.tmp 115], argTypes := #[58, 58] }, type := 4, pos := "more.go:42", after := #[{ on := 16, ground := Ground.data }, { on := 17, ground := Ground.data }, { on := 15, ground := Ground.chain }, { on := 15, ground := Ground.guard }], guard := some (15, true) } : Oper)) rfl (fun K hK => ?_) AllReadyH.nil
  go_simp
  refine (HC2.out _ hHeld.2.2.2.2.2.2.2.2.2.2.2.2.2.2.2.2.2.2.2.2.2.2.2.2.2.2.2.2.2.2).mono ?_
  rintro e wc ⟨rfl, hbc⟩
  rw [HXY.out]
  go_wp2_with fail
  refine hK.out _ _ (HS.out _ (below_step hHeld.2.2.2.2.2.2.2.2.2.2.2.2.2.2.2.2.2.2.2.2.2.2.2.2.2.2.2.2.2.2 hbc)) (fun hHeld => ?_)
  clear hK K
  try simp only [Act.put, List.setIfInBounds_toArray, List.set_cons_zero, List.set_cons_succ]
  refine wpAnyH_take (i := 19) (oi := ({ dst := some 117, op := Op.unOp UnOp.not 4 (Operand.tmp 116), type := 4, pos := "more.go:42", after := #[{ on := 18, ground := Ground.data }, { on := 15, ground := Ground.guard }], guard := some (15, true) } : Oper)) (v := ?va19) rfl (by kernel_rfl) (by kernel_rfl) (by kernel_rfl) (fun _ _ _ h => h) (Or.inl ⟨by rfl, ?ha19⟩) (by assumption) ?ra19
  case ha19 => (intro w hSw; (try dsimp only at hSw); go_simp; try (with_reducible rfl))
  try simp only [Act.put, List.setIfInBounds_toArray, List.set_cons_zero, List.set_cons_succ]
  refine wpAnyH_take (i := 20) (oi := ({ dst := some 118, op := Op.pick (Operand.tmp 113) (Operand.tmp 117) (Operand.const (Value.bool false)), type := 4, pos := "more.go:42", after := #[{ on := 15, ground := Ground.data }, { on := 19, ground := Ground.data }], guard := none } : Oper)) (v := ?va20) rfl (by kernel_rfl) (by kernel_rfl) (by kernel_rfl) (fun _ _ _ h => h) (Or.inl ⟨by rfl, ?ha20⟩) (by assumption) ?ra20
  case ha20 => (intro w hSw; (try dsimp only at hSw); go_simp; try (with_reducible rfl))
  try simp only [Act.put, List.setIfInBounds_toArray, List.set_cons_zero, List.set_cons_succ]
  refine wpAnyH_take (i := 21) (oi := ({ dst := some 119, op := Op.move (Operand.tmp 118), type := 4, pos := "more.go:42", after := #[{ on := 20, ground := Ground.data }, { on := 18, ground := Ground.chain }], guard := none } : Oper)) (v := ?va21) rfl (by kernel_rfl) (by kernel_rfl) (by kernel_rfl) (fun _ _ _ h => h) (Or.inl ⟨by rfl, ?ha21⟩) (by assumption) ?ra21
  case ha21 => (intro w hSw; (try dsimp only at hSw); go_simp; try (with_reducible rfl))
  try simp only [Act.put, List.setIfInBounds_toArray, List.set_cons_zero, List.set_cons_succ]
  refine wpAnyH_take (i := 22) (oi := ({ dst := some 120, op := Op.load 58 (Operand.tmp 20), type := 58, pos := "more.go:42", after := #[{ on := 21, ground := Ground.guard }], guard := some (21, true) } : Oper)) (v := ?va22) rfl (by kernel_rfl) (by kernel_rfl) (by kernel_rfl) (fun _ _ _ h => h) (Or.inl ⟨by rfl, ?ha22⟩) (by assumption) ?ra22
  case ha22 => (intro w hSw; (try dsimp only at hSw); go_simp; try (with_reducible rfl))
  try simp only [Act.put, List.setIfInBounds_toArray, List.set_cons_zero, List.set_cons_succ]
  refine wpAnyH_take (i := 25) (oi := ({ dst := some 123, op := Op.load 58 (Operand.tmp 14), type := 58, pos := "more.go:42", after := #[{ on := 21, ground := Ground.guard }], guard := some (21, true) } : Oper)) (v := ?va25) rfl (by kernel_rfl) (by kernel_rfl) (by kernel_rfl) (fun _ _ _ h => h) (Or.inl ⟨by rfl, ?ha25⟩) (by assumption) ?ra25
  case ha25 => (intro w hSw; (try dsimp only at hSw); go_simp; try (with_reducible rfl))
  try simp only [Act.put, List.setIfInBounds_toArray, List.set_cons_zero, List.set_cons_succ]
  refine wpAnyH_ready (rs := [23]) (by kernel_rfl) (by simp) ?_
  refine AllReadyH.cons (o := ({ dst := some 121, op := Op.call { callee := Callee.value (Operand.func 23), args := #[Operand.tmp 120], argTypes := #[58] }, type := 9, pos := "more.go:42", after := #[{ on := 22, ground := Ground.data }, { on := 21, ground := Ground.chain }, { on := 21, ground := Ground.guard }], guard := some (21, true) } : Oper)) rfl (fun K hK => ?_) AllReadyH.nil
  go_simp
  refine (HP2.out _ hHeld.2.2.2.2.2.2.2.2.2.2.2.2.2.2.2.2.2.2.2.2.2.2.2.2.2.2.2.2.2.2).mono ?_
  rintro e wd ⟨rfl, hbd⟩
  go_wp2_with fail
  refine hK.out _ _ (HS.out _ (below_step hHeld.2.2.2.2.2.2.2.2.2.2.2.2.2.2.2.2.2.2.2.2.2.2.2.2.2.2.2.2.2.2 hbd)) (fun hHeld => ?_)
  clear hK K
  try simp only [Act.put, List.setIfInBounds_toArray, List.set_cons_zero, List.set_cons_succ]
  refine wpAnyH_take (i := 24) (oi := ({ dst := some 122, op := Op.call { callee := Callee.builtin Builtin.len, args := #[Operand.tmp 121], argTypes := #[9] }, type := 3, pos := "more.go:42", after := #[{ on := 23, ground := Ground.data }, { on := 21, ground := Ground.guard }], guard := some (21, true) } : Oper)) (v := ?va24) rfl (by kernel_rfl) (by kernel_rfl) (by kernel_rfl) (fun _ _ _ h => h) (Or.inl ⟨by rfl, ?ha24⟩) (by assumption) ?ra24
  case ha24 => (intro w hSw; (try dsimp only at hSw); go_simp; try (with_reducible rfl))
  try simp only [Act.put, List.setIfInBounds_toArray, List.set_cons_zero, List.set_cons_succ]
  refine wpAnyH_ready (rs := [26]) (by kernel_rfl) (by simp) ?_
  refine AllReadyH.cons (o := ({ dst := some 124, op := Op.call { callee := Callee.value (Operand.func 23), args := #[Operand.tmp 123], argTypes := #[58] }, type := 9, pos := "more.go:42", after := #[{ on := 25, ground := Ground.data }, { on := 23, ground := Ground.chain }, { on := 21, ground := Ground.guard }], guard := some (21, true) } : Oper)) rfl (fun K hK => ?_) AllReadyH.nil
  go_simp
  refine (HP1.out _ hHeld.2.2.2.2.2.2.2.2.2.2.2.2.2.2.2.2.2.2.2.2.2.2.2.2.2.2.2.2.2.2).mono ?_
  rintro e we ⟨rfl, hbe⟩
  go_wp2_with fail
  refine hK.out _ _ (HS.out _ (below_step hHeld.2.2.2.2.2.2.2.2.2.2.2.2.2.2.2.2.2.2.2.2.2.2.2.2.2.2.2.2.2.2 hbe)) (fun hHeld => ?_)
  clear hK K
  try simp only [Act.put, List.setIfInBounds_toArray, List.set_cons_zero, List.set_cons_succ]
  refine wpAnyH_take (i := 27) (oi := ({ dst := some 125, op := Op.call { callee := Callee.builtin Builtin.len, args := #[Operand.tmp 124], argTypes := #[9] }, type := 3, pos := "more.go:42", after := #[{ on := 26, ground := Ground.data }, { on := 21, ground := Ground.guard }], guard := some (21, true) } : Oper)) (v := ?va27) rfl (by kernel_rfl) (by kernel_rfl) (by kernel_rfl) (fun _ _ _ h => h) (Or.inl ⟨by rfl, ?ha27⟩) (by assumption) ?ra27
  case ha27 => (intro w hSw; (try dsimp only at hSw); go_simp; try (with_reducible rfl))
  try simp only [Act.put, List.setIfInBounds_toArray, List.set_cons_zero, List.set_cons_succ]
  refine wpAnyH_take (i := 28) (oi := ({ dst := some 126, op := Op.binOp BinOp.add 3 (Operand.tmp 125) (Operand.const (Value.int IntKind.i64 2)) 3, type := 3, pos := "more.go:42", after := #[{ on := 27, ground := Ground.data }, { on := 21, ground := Ground.guard }], guard := some (21, true) } : Oper)) (v := ?va28) rfl (by kernel_rfl) (by kernel_rfl) (by kernel_rfl) (fun _ _ _ h => h) (Or.inl ⟨by rfl, ?ha28⟩) (by assumption) ?ra28
  case ha28 => (intro w hSw; (try dsimp only at hSw); go_simp; try (with_reducible rfl))
  try simp only [Act.put, List.setIfInBounds_toArray, List.set_cons_zero, List.set_cons_succ]
  refine wpAnyH_take (i := 29) (oi := ({ dst := some 127, op := Op.binOp BinOp.eql 3 (Operand.tmp 122) (Operand.tmp 126) 3, type := 4, pos := "more.go:42", after := #[{ on := 24, ground := Ground.data }, { on := 28, ground := Ground.data }, { on := 21, ground := Ground.guard }], guard := some (21, true) } : Oper)) (v := ?va29) rfl (by kernel_rfl) (by kernel_rfl) (by kernel_rfl) (fun _ _ _ h => h) (Or.inl ⟨by rfl, ?ha29⟩) (by assumption) ?ra29
  case ha29 => (intro w hSw; (try dsimp only at hSw); go_simp; try (with_reducible rfl))
  try simp only [Act.put, List.setIfInBounds_toArray, List.set_cons_zero, List.set_cons_succ]
  refine wpAnyH_take (i := 30) (oi := ({ dst := some 128, op := Op.pick (Operand.tmp 119) (Operand.tmp 127) (Operand.const (Value.bool false)), type := 4, pos := "more.go:42", after := #[{ on := 21, ground := Ground.data }, { on := 29, ground := Ground.data }], guard := none } : Oper)) (v := ?va30) rfl (by kernel_rfl) (by kernel_rfl) (by kernel_rfl) (fun _ _ _ h => h) (Or.inl ⟨by rfl, ?ha30⟩) (by assumption) ?ra30
  case ha30 => (intro w hSw; (try dsimp only at hSw); go_simp; try (with_reducible rfl))
  try simp only [Act.put, List.setIfInBounds_toArray, List.set_cons_zero, List.set_cons_succ]
  refine wpAnyH_take (i := 31) (oi := ({ dst := some 8, op := Op.assign (Operand.tmp 128), type := 4, pos := "more.go:42", after := #[{ on := 30, ground := Ground.data }, { on := 26, ground := Ground.chain }, { on := 0, ground := Ground.phase }, { on := 1, ground := Ground.phase }, { on := 2, ground := Ground.phase }, { on := 3, ground := Ground.phase }, { on := 4, ground := Ground.phase }, { on := 5, ground := Ground.phase }, { on := 6, ground := Ground.phase }, { on := 7, ground := Ground.phase }, { on := 8, ground := Ground.phase }, { on := 9, ground := Ground.phase }, { on := 10, ground := Ground.phase }, { on := 11, ground := Ground.phase }, { on := 12, ground := Ground.phase }, { on := 13, ground := Ground.phase }, { on := 14, ground := Ground.phase }, { on := 15, ground := Ground.phase }, { on := 16, ground := Ground.phase }, { on := 17, ground := Ground.phase }, { on := 18, ground := Ground.phase }, { on := 19, ground := Ground.phase }, { on := 20, ground := Ground.phase }, { on := 21, ground := Ground.phase }, { on := 22, ground := Ground.phase }, { on := 23, ground := Ground.phase }, { on := 24, ground := Ground.phase }, { on := 25, ground := Ground.phase }, { on := 26, ground := Ground.phase }, { on := 27, ground := Ground.phase }, { on := 28, ground := Ground.phase }, { on := 29, ground := Ground.phase }, { on := 30, ground := Ground.phase }], guard := none } : Oper)) (v := ?va31) rfl (by kernel_rfl) (by kernel_rfl) (by kernel_rfl) (fun _ _ _ h => h) (Or.inl ⟨by rfl, ?ha31⟩) (by assumption) ?ra31
  case ha31 => (intro w hSw; (try dsimp only at hSw); go_simp; try (with_reducible rfl))
  try simp only [Act.put, List.setIfInBounds_toArray, List.set_cons_zero, List.set_cons_succ]
  refine wpAnyH_done (by kernel_rfl) ?_ _
  have HBF : Asd (Below w.heap.size w _) := Asd.mk (HBw13.out.trans (hHeld.2.2.2.2.2.2.2.2.2.2.2.2.2.2.2.2.2.2.2.2.2.2.2.2.2.2.2.2.2.2.mono HBw13.out.size))
  clear hHeld HS
  have hwl : IntKind.i64.wrap ((t.length : Int) + 2) = (t.length : Int) + 2 := by rw [IntKind.wrap_i64]; omega
  go_wp2
  go_ret
  refine ⟨ret_eq ?_, HBF.out⟩
  show Value.bool ((u.length : Int) == _) = _
  first | rw [hwl, hlen] | rw [hlen] | rfl
end Go.Proofs.YtcefmhofidoloaaGreatDoor.Exp
