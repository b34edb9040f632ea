/- ExprBack: the walk. -/
import Derived.Test.YtcefmhofidoloaaGreatDoorQc10
set_option linter.unusedVariables false
set_option linter.unusedSimpArgs false
namespace Go.Proofs.YtcefmhofidoloaaGreatDoor.Exp
open Go.RowKit Go.Proofs.YtcefmhofidoloaaGreatDoor.Base Go.Proofs.YtcefmhofidoloaaGreatDoor.App Go.Proofs.YtcefmhofidoloaaGreatDoor.Byt Go.Proofs.YtcefmhofidoloaaGreatDoor.Lex

set_option maxRecDepth 100000 in
set_option maxHeartbeats 12800000 in
theorem back_calls (w : World) (text : ByteArray) (ht : text.size ≤ 1048576) (hl : LexW w) (he : EtyW w) (hp : Lib.TabIs Tryz.prog w "internal/strconv.uint64pow10" .u64 Lib.pow10Tab) :
    Calls Tryz.prog 7 #[.string text] w fun e w' => e = .returned (.bool true) ∧ Below w.heap.size w w' := by
  have HW : Asd (LawW w) := Asd.mk ⟨hl, he, hp⟩
  clear hl he hp
  go_enter Tryz.func7, Tryz.ntmps7
  go_wp2_with fail
  refine (works13_calls w HW.out).mono ?_
  rintro e w0 ⟨rfl, hb0⟩
  have HB0 := Asd.mk hb0
  have HW0 := Asd.mk (HW.out.below hb0)
  clear hb0
  go_wp2_with fail
  refine (tokens_reads text w0 HW0.out.lex).mono ?_
  rintro e w1 he
  obtain ⟨hb1, hcase⟩ := lexR_ways13 he
  have HBw1 : Asd (Below w.heap.size w w1) := Asd.mk (HB0.out.trans (hb1.mono HB0.out.size))
  have HWw1 := Asd.mk (HW0.out.below hb1)
  clear he hb1
  rcases hcase with ⟨A1, m1, c1, rfl, ht1, hl1⟩ | ⟨N1, rfl⟩
  · have HT1 := Asd.mk ht1
    have hm1 : m1 ≤ 16384 := ht1.2.1
    clear ht1 hl1
    by_cases hbig : 2000 < m1
    · go_wp2
      go_ret
      exact ⟨ret_eq rfl, HBw1.out⟩
    · go_wp2_with fail
      refine (read_words A1 m1 c1 text.data.toList w1 HWw1.out.lex.shaped HT1.out).mono ?_
      rintro e w2 ⟨hb2, hr⟩
      have HBw2 : Asd (Below w.heap.size w w2) := Asd.mk (HBw1.out.trans (hb2.mono HBw1.out.size))
      have HWw2 := Asd.mk (HWw1.out.below hb2)
      clear hb2
      cases hrd : (readF nmOk (lexE text.data.toList) 32).or 0 with
      | error er =>
        rw [hrd] at hr
        obtain ⟨N, rfl, hN⟩ := hr
        clear hrd hN
        rw [exV_zero]
        go_wp2
        go_ret
        exact ⟨ret_eq rfl, below_alloc HBw2.out _⟩
      | ok xj =>
        obtain ⟨x, j⟩ := xj
        have HN := Asd.mk (nice_of hrd)
        obtain ⟨xs, hx1, hx2⟩ := print_again words_nm (fit_of hrd).1
        have HAG : Asd ((prE litV x).length ≤ 16384 → (readF nmOk (lexE (prE litV x)) 32).or 0 = .ok (x, (lexE (prE litV x)).length)) := Asd.mk (fun hle => by rw [lexE_ok hle hx1]; exact hx2)
        rw [hrd] at hr
        obtain ⟨s, rfl, hh⟩ := hr
        simp only at hh
        clear hrd hx1 hx2
        obtain ⟨As1, cs1, rfl⟩ := held_len hh
        have HH01 := Asd.mk hh
        clear hh
        unfold exV
        have HA1 := Asd.mk (blk_new w2 (.cells #[.int .i64 x.kind, .int .i64 x.op, .int .i64 x.v.kind, .int .i64 x.v.int, .string ⟨x.v.text.toArray⟩, .string ⟨x.table.toArray⟩, .string ⟨x.name.toArray⟩, .int .i64 x.col, .int .i64 x.ty, .slice As1 x.args.length cs1] 58 (0, 0)))
        have HBA1 : Asd (Below w2.heap.size w2 _) := Asd.mk (below_alloc (Below.refl _ w2) (.cells #[.int .i64 x.kind, .int .i64 x.op, .int .i64 x.v.kind, .int .i64 x.v.int, .string ⟨x.v.text.toArray⟩, .string ⟨x.table.toArray⟩, .string ⟨x.name.toArray⟩, .int .i64 x.col, .int .i64 x.ty, .slice As1 x.args.length cs1] 58 (0, 0)))
        go_upto_region 7 with fail
        generalize w2.alloc (.cells #[.int .i64 x.kind, .int .i64 x.op, .int .i64 x.v.kind, .int .i64 x.v.int, .string ⟨x.v.text.toArray⟩, .string ⟨x.table.toArray⟩, .string ⟨x.name.toArray⟩, .int .i64 x.col, .int .i64 x.ty, .slice As1 x.args.length cs1] 58 (0, 0)) = w3 at HA1 HBA1 ⊢
        have HBw3 : Asd (Below w.heap.size w w3) := Asd.mk (HBw2.out.trans (HBA1.out.mono HBw2.out.size))
        have HWw3 := Asd.mk (HWw2.out.below HBA1.out)
        have HH1 := Asd.mk (held_below HH01.out HBA1.out)
        have e0 := (blk_cell HA1.out 0).trans rfl
        have e1 := (blk_cell HA1.out 1).trans rfl
        have e2 := (blk_cell HA1.out 2).trans rfl
        have e3 := (blk_cell HA1.out 3).trans rfl
        have e4 := (blk_cell HA1.out 4).trans rfl
        have e5 := (blk_cell HA1.out 5).trans rfl
        have e6 := (blk_cell HA1.out 6).trans rfl
        have e7 := (blk_cell HA1.out 7).trans rfl
        have e8 := (blk_cell HA1.out 8).trans rfl
        have e9 := (blk_cell HA1.out 9).trans rfl
        go_wp2_with fail
        refine (print_ok x HN.out.ok HN.out.val HN.out.size _ (.slice As1 x.args.length cs1) w3 HWw3.out.prw HH1.out).mono ?_
        rintro e w4 ⟨rfl, hb4⟩
        have HBw4 : Asd (Below w.heap.size w w4) := Asd.mk (HBw3.out.trans (hb4.mono HBw3.out.size))
        have HWw4 := Asd.mk (HWw3.out.below hb4)
        have HA4 := Asd.mk (blk_below hb4 HA1.out)
        have HH4 := Asd.mk (held_below HH1.out hb4)
        have HPR := Asd.mk (print_ok x HN.out.ok HN.out.val HN.out.size)
        clear hb4 e0 e1 e2 e3 e4 e5 e6 e7 e8 e9
        have HTX : Asd (∃ t, t = prE litV x) := Asd.mk ⟨_, rfl⟩
        clear HTX
        unfold PrintOK at HPR
        generalize prE litV x = t at HAG HPR ⊢
        by_cases hlong : 16384 < t.length
        · go_wp2
          go_ret
          exact ⟨ret_eq rfl, HBw4.out⟩
        · have hrd2 := HAG.out (by omega)
          go_wp2_with fail
          refine (words_calls ⟨t.toArray⟩ w4 HWw4.out.lex).mono ?_
          rintro e w5 ⟨hb5, A2, m2, c2, rfl, ht2⟩
          have HBw5 : Asd (Below w.heap.size w w5) := Asd.mk (HBw4.out.trans (hb5.mono HBw4.out.size))
          have HWw5 := Asd.mk (HWw4.out.below hb5)
          have HA5 := Asd.mk (blk_below hb5 HA4.out)
          have HH5 := Asd.mk (held_below HH4.out hb5)
          rw [show (⟨t.toArray⟩ : ByteArray).data.toList = t from rfl] at ht2
          have HT2 := Asd.mk ht2
          have HM2 := Asd.mk ht2.1
          have hm2b := ht2.2.1
          clear hb5 ht2
          go_wp2_with fail
          refine (read_words A2 m2 c2 t w5 HWw5.out.lex.shaped HT2.out).mono ?_
          rintro e w6 ⟨hb6, hr⟩
          have HBw6 : Asd (Below w.heap.size w w6) := Asd.mk (HBw5.out.trans (hb6.mono HBw5.out.size))
          have HWw6 := Asd.mk (HWw5.out.below hb6)
          have HA6 := Asd.mk (blk_below hb6 HA5.out)
          have HH6 := Asd.mk (held_below HH5.out hb6)
          rw [hrd2] at hr
          obtain ⟨s2, rfl, hh⟩ := hr
          simp only at hh
          clear hb6 hrd2
          rw [← HM2.out]
          clear HM2
          obtain ⟨As2, cs2, rfl⟩ := held_len hh
          have HH02 := Asd.mk hh
          clear hh
          unfold exV
          have HA2 := Asd.mk (blk_new w6 (.cells #[.int .i64 x.kind, .int .i64 x.op, .int .i64 x.v.kind, .int .i64 x.v.int, .string ⟨x.v.text.toArray⟩, .string ⟨x.table.toArray⟩, .string ⟨x.name.toArray⟩, .int .i64 x.col, .int .i64 x.ty, .slice As2 x.args.length cs2] 58 (0, 0)))
          have HBA2 : Asd (Below w6.heap.size w6 _) := Asd.mk (below_alloc (Below.refl _ w6) (.cells #[.int .i64 x.kind, .int .i64 x.op, .int .i64 x.v.kind, .int .i64 x.v.int, .string ⟨x.v.text.toArray⟩, .string ⟨x.table.toArray⟩, .string ⟨x.name.toArray⟩, .int .i64 x.col, .int .i64 x.ty, .slice As2 x.args.length cs2] 58 (0, 0)))
          go_upto_region 14 with fail
          generalize w6.alloc (.cells #[.int .i64 x.kind, .int .i64 x.op, .int .i64 x.v.kind, .int .i64 x.v.int, .string ⟨x.v.text.toArray⟩, .string ⟨x.table.toArray⟩, .string ⟨x.name.toArray⟩, .int .i64 x.col, .int .i64 x.ty, .slice As2 x.args.length cs2] 58 (0, 0)) = w7 at HA2 HBA2 ⊢
          have HBw7 : Asd (Below w.heap.size w w7) := Asd.mk (HBw6.out.trans (HBA2.out.mono HBw6.out.size))
          have HWw7 := Asd.mk (HWw6.out.below HBA2.out)
          have HH2 := Asd.mk (held_below HH02.out HBA2.out)
          have HA7 := Asd.mk (blk_below HBA2.out HA6.out)
          have HH7 := Asd.mk (held_below HH6.out HBA2.out)
          have e0 := (blk_cell HA7.out 0).trans rfl
          have e1 := (blk_cell HA7.out 1).trans rfl
          have e2 := (blk_cell HA7.out 2).trans rfl
          have e3 := (blk_cell HA7.out 3).trans rfl
          have e4 := (blk_cell HA7.out 4).trans rfl
          have e5 := (blk_cell HA7.out 5).trans rfl
          have e6 := (blk_cell HA7.out 6).trans rfl
          have e7 := (blk_cell HA7.out 7).trans rfl
          have e8 := (blk_cell HA7.out 8).trans rfl
          have e9 := (blk_cell HA7.out 9).trans rfl
          have f0 := (blk_cell HA2.out 0).trans rfl
          have f1 := (blk_cell HA2.out 1).trans rfl
          have f2 := (blk_cell HA2.out 2).trans rfl
          have f3 := (blk_cell HA2.out 3).trans rfl
          have f4 := (blk_cell HA2.out 4).trans rfl
          have f5 := (blk_cell HA2.out 5).trans rfl
          have f6 := (blk_cell HA2.out 6).trans rfl
          have f7 := (blk_cell HA2.out 7).trans rfl
          have f8 := (blk_cell HA2.out 8).trans rfl
          have f9 := (blk_cell HA2.out 9).trans rfl
          go_wp2_with fail
          refine (same_calls _ _ x x (.slice As1 x.args.length cs1) (.slice As2 x.args.length cs2) w7 HN.out.few HH7.out HH2.out).mono ?_
          rintro e w8 ⟨rfl, hb8⟩
          have HBw8 : Asd (Below w.heap.size w w8) := Asd.mk (HBw7.out.trans (hb8.mono HBw7.out.size))
          have HWw8 := Asd.mk (HWw7.out.below hb8)
          have HA8 := Asd.mk (blk_below hb8 HA2.out)
          have HH8 := Asd.mk (held_below HH2.out hb8)
          clear hb8 e0 e1 e2 e3 e4 e5 e6 e7 e8 e9 f0 f1 f2 f3 f4 f5 f6 f7 f8 f9
          rw [sameE_refl]
          have f0 := (blk_cell HA8.out 0).trans rfl
          have f1 := (blk_cell HA8.out 1).trans rfl
          have f2 := (blk_cell HA8.out 2).trans rfl
          have f3 := (blk_cell HA8.out 3).trans rfl
          have f4 := (blk_cell HA8.out 4).trans rfl
          have f5 := (blk_cell HA8.out 5).trans rfl
          have f6 := (blk_cell HA8.out 6).trans rfl
          have f7 := (blk_cell HA8.out 7).trans rfl
          have f8 := (blk_cell HA8.out 8).trans rfl
          have f9 := (blk_cell HA8.out 9).trans rfl
          go_wp2_with fail
          refine (HPR.out _ (.slice As2 x.args.length cs2) w8 HWw8.out.prw HH8.out).mono ?_
          rintro e w9 ⟨rfl, hb9⟩
          have HBw9 : Asd (Below w.heap.size w w9) := Asd.mk (HBw8.out.trans (hb9.mono HBw8.out.size))
          have HWw9 := Asd.mk (HWw8.out.below hb9)
          clear hb9 f0 f1 f2 f3 f4 f5 f6 f7 f8 f9
          go_wp2
          go_ret
          exact ⟨ret_eq rfl, HBw9.out⟩
  · go_wp2
    go_ret
    exact ⟨ret_eq rfl, HBw1.out⟩
end Go.Proofs.YtcefmhofidoloaaGreatDoor.Exp
