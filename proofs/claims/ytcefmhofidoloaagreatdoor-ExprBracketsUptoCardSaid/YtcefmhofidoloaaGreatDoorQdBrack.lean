/- ExprBrackets: the walk. -/
import Derived.Test.YtcefmhofidoloaaGreatDoorQc10
import Derived.Test.YtcefmhofidoloaaGreatDoorQdBrkP2
set_option linter.unusedVariables false
set_option linter.unusedSimpArgs false
namespace Go.Proofs.YtcefmhofidoloaaGreatDoor.Exp
open Go.RowKit Go.Proofs.YtcefmhofidoloaaGreatDoor.Base Go.Proofs.YtcefmhofidoloaaGreatDoor.App Go.Proofs.YtcefmhofidoloaaGreatDoor.Byt Go.Proofs.YtcefmhofidoloaaGreatDoor.Lex

set_option maxRecDepth 100000 in
set_option maxHeartbeats 12800000 in
theorem brackets_calls (w : World) (text : ByteArray) (ht : text.size ≤ 1048576) (hl : LexW w) (he : EtyW w) (hp : Lib.TabIs Tryz.prog w "internal/strconv.uint64pow10" .u64 Lib.pow10Tab) :
    Calls Tryz.prog 8 #[.string text] w fun e w' => e = .returned (.bool true) ∧ Below w.heap.size w w' := by
  have HW : Asd (LawW w) := Asd.mk ⟨hl, he, hp⟩
  clear hl he hp
  go_enter Tryz.func8, Tryz.ntmps8
  go_wp2_with fail
  refine (works13_calls w HW.out).mono ?_
  rintro e w0 ⟨rfl, hb0⟩
  have HB0 := Asd.mk hb0
  have HW0 := Asd.mk (HW.out.below hb0)
  clear hb0
  go_wp2_with fail
  refine (words_calls text w0 HW0.out.lex).mono ?_
  rintro e w1 ⟨hb1, A1, m1, c1, rfl, ht1⟩
  have HBw1 : Asd (Below w.heap.size w w1) := Asd.mk (HB0.out.trans (hb1.mono HB0.out.size))
  have HWw1 := Asd.mk (HW0.out.below hb1)
  have HT1 := Asd.mk ht1
  clear hb1 ht1
  go_wp2_with fail
  refine (read_words A1 m1 c1 text.data.toList w1 HWw1.out.lex.shaped HT1.out).mono ?_
  rintro e w2 ⟨hb2, hr⟩
  have HBw2 : Asd (Below w.heap.size w w2) := Asd.mk (HBw1.out.trans (hb2.mono HBw1.out.size))
  have HWw2 := Asd.mk (HWw1.out.below hb2)
  clear hb2
  cases hrd : (readF nmOk (lexE text.data.toList) 32).or 0 with
  | error er =>
    rw [hrd] at hr
    obtain ⟨N, rfl, hN⟩ := hr
    clear hrd hN
    rw [exV_zero]
    go_wp2
    go_ret
    exact ⟨ret_eq rfl, below_alloc HBw2.out _⟩
  | ok xj =>
    obtain ⟨x, j⟩ := xj
    have HN := Asd.mk (nice_of hrd)
    have HRD := Asd.mk hrd
    rw [hrd] at hr
    obtain ⟨s, rfl, hh⟩ := hr
    simp only at hh
    clear hrd
    obtain ⟨As1, cs1, rfl⟩ := held_len hh
    have HH01 := Asd.mk hh
    clear hh
    unfold exV
    have HA1 := Asd.mk (blk_new w2 (.cells #[.int .i64 x.kind, .int .i64 x.op, .int .i64 x.v.kind, .int .i64 x.v.int, .string ⟨x.v.text.toArray⟩, .string ⟨x.table.toArray⟩, .string ⟨x.name.toArray⟩, .int .i64 x.col, .int .i64 x.ty, .slice As1 x.args.length cs1] 58 (0, 0)))
    have HBA1 : Asd (Below w2.heap.size w2 _) := Asd.mk (below_alloc (Below.refl _ w2) (.cells #[.int .i64 x.kind, .int .i64 x.op, .int .i64 x.v.kind, .int .i64 x.v.int, .string ⟨x.v.text.toArray⟩, .string ⟨x.table.toArray⟩, .string ⟨x.name.toArray⟩, .int .i64 x.col, .int .i64 x.ty, .slice As1 x.args.length cs1] 58 (0, 0)))
    go_upto_region 4 with fail
    generalize w2.alloc (.cells #[.int .i64 x.kind, .int .i64 x.op, .int .i64 x.v.kind, .int .i64 x.v.int, .string ⟨x.v.text.toArray⟩, .string ⟨x.table.toArray⟩, .string ⟨x.name.toArray⟩, .int .i64 x.col, .int .i64 x.ty, .slice As1 x.args.length cs1] 58 (0, 0)) = w3 at HA1 HBA1 ⊢
    have HBw3 : Asd (Below w.heap.size w w3) := Asd.mk (HBw2.out.trans (HBA1.out.mono HBw2.out.size))
    have HWw3 := Asd.mk (HWw2.out.below HBA1.out)
    have HH1 := Asd.mk (held_below HH01.out HBA1.out)
    go_wp2_with fail
    refine (words_calls text w3 HWw3.out.lex).mono ?_
    rintro e w4 ⟨hb4, A2, m2, c2, rfl, ht2⟩
    have HBw4 : Asd (Below w.heap.size w w4) := Asd.mk (HBw3.out.trans (hb4.mono HBw3.out.size))
    have HWw4 := Asd.mk (HWw3.out.below hb4)
    have HA1 := Asd.mk (blk_below hb4 HA1.out)
    have HH1 := Asd.mk (held_below HH1.out hb4)
    have HM2 := Asd.mk ht2.1
    have hm2b := ht2.2.1
    clear hb4 ht2
    by_cases hjm : j = m2
    · subst hjm
      by_cases hbig : 4000 < text.size
      · go_wp2
        go_ret
        exact ⟨ret_eq rfl, HBw4.out⟩
      · have HSZ : Asd (text.data.toList.length ≤ 4000) := Asd.mk (by have : text.data.toList.length = text.size := rfl; omega)
        have H1 := Asd.mk (brack_words1 HSZ.out (by rw [HRD.out, HM2.out]))
        have H2 := Asd.mk (brack_words2 HSZ.out (by rw [HRD.out, HM2.out]))
        have hts : text.size ≤ 4000 := by omega
        clear hbig HM2 HRD hm2b
        go_wp2_with fail
        have HS1 : Asd (((⟨#[40]⟩ : ByteArray) ++ text ++ ⟨#[10, 41]⟩).data.toList = [40] ++ text.data.toList ++ [10, 41]) := Asd.mk (by simp [ByteArray.data_append])
        generalize ((⟨#[40]⟩ : ByteArray) ++ text ++ ⟨#[10, 41]⟩) = s1 at HS1 ⊢
        refine (words_calls s1 w4 HWw4.out.lex).mono ?_
        rintro e w5 ⟨hb5, A3, m3, c3, rfl, ht3⟩
        rw [HS1.out] at ht3
        have HBw5 : Asd (Below w.heap.size w w5) := Asd.mk (HBw4.out.trans (hb5.mono HBw4.out.size))
        have HWw5 := Asd.mk (HWw4.out.below hb5)
        have HA1 := Asd.mk (blk_below hb5 HA1.out)
        have HH1 := Asd.mk (held_below HH1.out hb5)
        have HT3 := Asd.mk ht3
        clear hb5 ht3
        go_wp2_with fail
        refine (read_words A3 m3 c3 ([40] ++ text.data.toList ++ [10, 41]) w5 HWw5.out.lex.shaped HT3.out).mono ?_
        rintro e w6 ⟨hb6, hr⟩
        have HBw6 : Asd (Below w.heap.size w w6) := Asd.mk (HBw5.out.trans (hb6.mono HBw5.out.size))
        have HWw6 := Asd.mk (HWw5.out.below hb6)
        have HA1 := Asd.mk (blk_below hb6 HA1.out)
        have HH1 := Asd.mk (held_below HH1.out hb6)
        clear hb6 HT3 HS1
        rcases H1.out with ⟨j3, hrd3⟩ | ⟨p3, hrd3⟩
        · rw [hrd3] at hr
          obtain ⟨s, rfl, hh⟩ := hr
          simp only at hh
          clear hrd3 H1
          obtain ⟨As2, cs2, rfl⟩ := held_len hh
          have HH02 := Asd.mk hh
          clear hh
          unfold exV
          have HA2 := Asd.mk (blk_new w6 (.cells #[.int .i64 x.kind, .int .i64 x.op, .int .i64 x.v.kind, .int .i64 x.v.int, .string ⟨x.v.text.toArray⟩, .string ⟨x.table.toArray⟩, .string ⟨x.name.toArray⟩, .int .i64 x.col, .int .i64 x.ty, .slice As2 x.args.length cs2] 58 (0, 0)))
          have HBA2 : Asd (Below w6.heap.size w6 _) := Asd.mk (below_alloc (Below.refl _ w6) (.cells #[.int .i64 x.kind, .int .i64 x.op, .int .i64 x.v.kind, .int .i64 x.v.int, .string ⟨x.v.text.toArray⟩, .string ⟨x.table.toArray⟩, .string ⟨x.name.toArray⟩, .int .i64 x.col, .int .i64 x.ty, .slice As2 x.args.length cs2] 58 (0, 0)))
          go_upto_region 7 with fail
          generalize w6.alloc (.cells #[.int .i64 x.kind, .int .i64 x.op, .int .i64 x.v.kind, .int .i64 x.v.int, .string ⟨x.v.text.toArray⟩, .string ⟨x.table.toArray⟩, .string ⟨x.name.toArray⟩, .int .i64 x.col, .int .i64 x.ty, .slice As2 x.args.length cs2] 58 (0, 0)) = w7 at HA2 HBA2 ⊢
          have HBw7 : Asd (Below w.heap.size w w7) := Asd.mk (HBw6.out.trans (HBA2.out.mono HBw6.out.size))
          have HWw7 := Asd.mk (HWw6.out.below HBA2.out)
          have HH2 := Asd.mk (held_below HH02.out HBA2.out)
          have HA1 := Asd.mk (blk_below HBA2.out HA1.out)
          have HH1 := Asd.mk (held_below HH1.out HBA2.out)
          go_wp2_with fail
          have HS2 : Asd (((⟨#[40, 40]⟩ : ByteArray) ++ text ++ ⟨#[10, 41, 41]⟩).data.toList = [40, 40] ++ text.data.toList ++ [10, 41, 41]) := Asd.mk (by simp [ByteArray.data_append])
          generalize ((⟨#[40, 40]⟩ : ByteArray) ++ text ++ ⟨#[10, 41, 41]⟩) = s2 at HS2 ⊢
          refine (words_calls s2 w7 HWw7.out.lex).mono ?_
          rintro e w8 ⟨hb8, A4, m4, c4, rfl, ht4⟩
          rw [HS2.out] at ht4
          have HBw8 : Asd (Below w.heap.size w w8) := Asd.mk (HBw7.out.trans (hb8.mono HBw7.out.size))
          have HWw8 := Asd.mk (HWw7.out.below hb8)
          have HA1 := Asd.mk (blk_below hb8 HA1.out)
          have HH1 := Asd.mk (held_below HH1.out hb8)
          have HA2 := Asd.mk (blk_below hb8 HA2.out)
          have HH2 := Asd.mk (held_below HH2.out hb8)
          have HT4 := Asd.mk ht4
          clear hb8 ht4
          go_wp2_with fail
          refine (read_words A4 m4 c4 ([40, 40] ++ text.data.toList ++ [10, 41, 41]) w8 HWw8.out.lex.shaped HT4.out).mono ?_
          rintro e w9 ⟨hb9, hr⟩
          have HBw9 : Asd (Below w.heap.size w w9) := Asd.mk (HBw8.out.trans (hb9.mono HBw8.out.size))
          have HWw9 := Asd.mk (HWw8.out.below hb9)
          have HA1 := Asd.mk (blk_below hb9 HA1.out)
          have HH1 := Asd.mk (held_below HH1.out hb9)
          have HA2 := Asd.mk (blk_below hb9 HA2.out)
          have HH2 := Asd.mk (held_below HH2.out hb9)
          clear hb9 HT4 HS2
          rcases H2.out with ⟨j4, hrd4⟩ | ⟨p4, hrd4⟩
          · rw [hrd4] at hr
            obtain ⟨s, rfl, hh⟩ := hr
            simp only at hh
            clear hrd4 H2
            obtain ⟨As3, cs3, rfl⟩ := held_len hh
            have HH03 := Asd.mk hh
            clear hh
            unfold exV
            have HA3 := Asd.mk (blk_new w9 (.cells #[.int .i64 x.kind, .int .i64 x.op, .int .i64 x.v.kind, .int .i64 x.v.int, .string ⟨x.v.text.toArray⟩, .string ⟨x.table.toArray⟩, .string ⟨x.name.toArray⟩, .int .i64 x.col, .int .i64 x.ty, .slice As3 x.args.length cs3] 58 (0, 0)))
            have HBA3 : Asd (Below w9.heap.size w9 _) := Asd.mk (below_alloc (Below.refl _ w9) (.cells #[.int .i64 x.kind, .int .i64 x.op, .int .i64 x.v.kind, .int .i64 x.v.int, .string ⟨x.v.text.toArray⟩, .string ⟨x.table.toArray⟩, .string ⟨x.name.toArray⟩, .int .i64 x.col, .int .i64 x.ty, .slice As3 x.args.length cs3] 58 (0, 0)))
            go_upto_region 8 with fail
            generalize w9.alloc (.cells #[.int .i64 x.kind, .int .i64 x.op, .int .i64 x.v.kind, .int .i64 x.v.int, .string ⟨x.v.text.toArray⟩, .string ⟨x.table.toArray⟩, .string ⟨x.name.toArray⟩, .int .i64 x.col, .int .i64 x.ty, .slice As3 x.args.length cs3] 58 (0, 0)) = wa at HA3 HBA3 ⊢
            have HBwa : Asd (Below w.heap.size w wa) := Asd.mk (HBw9.out.trans (HBA3.out.mono HBw9.out.size))
            have HWwa := Asd.mk (HWw9.out.below HBA3.out)
            have HH3 := Asd.mk (held_below HH03.out HBA3.out)
            have HA1 := Asd.mk (blk_below HBA3.out HA1.out)
            have HH1 := Asd.mk (held_below HH1.out HBA3.out)
            have HA2 := Asd.mk (blk_below HBA3.out HA2.out)
            have HH2 := Asd.mk (held_below HH2.out HBA3.out)
            have e0 := (blk_cell HA1.out 0).trans rfl
            have e1 := (blk_cell HA1.out 1).trans rfl
            have e2 := (blk_cell HA1.out 2).trans rfl
            have e3 := (blk_cell HA1.out 3).trans rfl
            have e4 := (blk_cell HA1.out 4).trans rfl
            have e5 := (blk_cell HA1.out 5).trans rfl
            have e6 := (blk_cell HA1.out 6).trans rfl
            have e7 := (blk_cell HA1.out 7).trans rfl
            have e8 := (blk_cell HA1.out 8).trans rfl
            have e9 := (blk_cell HA1.out 9).trans rfl
            have f0 := (blk_cell HA2.out 0).trans rfl
            have f1 := (blk_cell HA2.out 1).trans rfl
            have f2 := (blk_cell HA2.out 2).trans rfl
            have f3 := (blk_cell HA2.out 3).trans rfl
            have f4 := (blk_cell HA2.out 4).trans rfl
            have f5 := (blk_cell HA2.out 5).trans rfl
            have f6 := (blk_cell HA2.out 6).trans rfl
            have f7 := (blk_cell HA2.out 7).trans rfl
            have f8 := (blk_cell HA2.out 8).trans rfl
            have f9 := (blk_cell HA2.out 9).trans rfl
            have g0 := (blk_cell HA3.out 0).trans rfl
            have g1 := (blk_cell HA3.out 1).trans rfl
            have g2 := (blk_cell HA3.out 2).trans rfl
            have g3 := (blk_cell HA3.out 3).trans rfl
            have g4 := (blk_cell HA3.out 4).trans rfl
            have g5 := (blk_cell HA3.out 5).trans rfl
            have g6 := (blk_cell HA3.out 6).trans rfl
            have g7 := (blk_cell HA3.out 7).trans rfl
            have g8 := (blk_cell HA3.out 8).trans rfl
            have g9 := (blk_cell HA3.out 9).trans rfl
            have HC1 := Asd.mk (fun W (hb : Below wa.heap.size wa W) => same_calls _ _ x x (.slice As1 x.args.length cs1) (.slice As2 x.args.length cs2) W HN.out.few (held_below HH1.out hb) (held_below HH2.out hb))
            have HC2 := Asd.mk (fun W (hb : Below wa.heap.size wa W) => same_calls _ _ x x (.slice As1 x.args.length cs1) (.slice As3 x.args.length cs3) W HN.out.few (held_below HH1.out hb) (held_below HH3.out hb))
            have HP1 := Asd.mk (fun W (hb : Below wa.heap.size wa W) => print_ok x HN.out.ok HN.out.val HN.out.size _ (.slice As1 x.args.length cs1) W (prw_below HWwa.out.prw hb) (held_below HH1.out hb))
            have HP2 := Asd.mk (fun W (hb : Below wa.heap.size wa W) => print_ok x HN.out.ok HN.out.val HN.out.size _ (.slice As2 x.args.length cs2) W (prw_below HWwa.out.prw hb) (held_below HH2.out hb))
            generalize prE litV x = t at HP1 HP2
            unfold exV at HC1 HC2 HP1 HP2
            have HS : Asd (∀ w', Below wa.heap.size wa w' → w'.cell? ⟨w2.heap.size, 0, none⟩ = some (.int .i64 x.kind) ∧ w'.cell? ⟨w2.heap.size, 1, none⟩ = some (.int .i64 x.op) ∧ w'.cell? ⟨w2.heap.size, 2, none⟩ = some (.int .i64 x.v.kind) ∧ w'.cell? ⟨w2.heap.size, 3, none⟩ = some (.int .i64 x.v.int) ∧ w'.cell? ⟨w2.heap.size, 4, none⟩ = some (.string ⟨x.v.text.toArray⟩) ∧ w'.cell? ⟨w2.heap.size, 5, none⟩ = some (.string ⟨x.table.toArray⟩) ∧ w'.cell? ⟨w2.heap.size, 6, none⟩ = some (.string ⟨x.name.toArray⟩) ∧ w'.cell? ⟨w2.heap.size, 7, none⟩ = some (.int .i64 x.col) ∧ w'.cell? ⟨w2.heap.size, 8, none⟩ = some (.int .i64 x.ty) ∧ w'.cell? ⟨w2.heap.size, 9, none⟩ = some (.slice As1 x.args.length cs1) ∧ w'.cell? ⟨w6.heap.size, 0, none⟩ = some (.int .i64 x.kind) ∧ w'.cell? ⟨w6.heap.size, 1, none⟩ = some (.int .i64 x.op) ∧ w'.cell? ⟨w6.heap.size, 2, none⟩ = some (.int .i64 x.v.kind) ∧ w'.cell? ⟨w6.heap.size, 3, none⟩ = some (.int .i64 x.v.int) ∧ w'.cell? ⟨w6.heap.size, 4, none⟩ = some (.string ⟨x.v.text.toArray⟩) ∧ w'.cell? ⟨w6.heap.size, 5, none⟩ = some (.string ⟨x.table.toArray⟩) ∧ w'.cell? ⟨w6.heap.size, 6, none⟩ = some (.string ⟨x.name.toArray⟩) ∧ w'.cell? ⟨w6.heap.size, 7, none⟩ = some (.int .i64 x.col) ∧ w'.cell? ⟨w6.heap.size, 8, none⟩ = some (.int .i64 x.ty) ∧ w'.cell? ⟨w6.heap.size, 9, none⟩ = some (.slice As2 x.args.length cs2) ∧ w'.cell? ⟨w9.heap.size, 0, none⟩ = some (.int .i64 x.kind) ∧ w'.cell? ⟨w9.heap.size, 1, none⟩ = some (.int .i64 x.op) ∧ w'.cell? ⟨w9.heap.size, 2, none⟩ = some (.int .i64 x.v.kind) ∧ w'.cell? ⟨w9.heap.size, 3, none⟩ = some (.int .i64 x.v.int) ∧ w'.cell? ⟨w9.heap.size, 4, none⟩ = some (.string ⟨x.v.text.toArray⟩) ∧ w'.cell? ⟨w9.heap.size, 5, none⟩ = some (.string ⟨x.table.toArray⟩) ∧ w'.cell? ⟨w9.heap.size, 6, none⟩ = some (.string ⟨x.name.toArray⟩) ∧ w'.cell? ⟨w9.heap.size, 7, none⟩ = some (.int .i64 x.col) ∧ w'.cell? ⟨w9.heap.size, 8, none⟩ = some (.int .i64 x.ty) ∧ w'.cell? ⟨w9.heap.size, 9, none⟩ = some (.slice As3 x.args.length cs3) ∧ Below wa.heap.size wa w') := Asd.mk fun w' h => ⟨(h.cell (World.block_lt_of_cell? wa _ e0)).trans e0, (h.cell (World.block_lt_of_cell? wa _ e1)).trans e1, (h.cell (World.block_lt_of_cell? wa _ e2)).trans e2, (h.cell (World.block_lt_of_cell? wa _ e3)).trans e3, (h.cell (World.block_lt_of_cell? wa _ e4)).trans e4, (h.cell (World.block_lt_of_cell? wa _ e5)).trans e5, (h.cell (World.block_lt_of_cell? wa _ e6)).trans e6, (h.cell (World.block_lt_of_cell? wa _ e7)).trans e7, (h.cell (World.block_lt_of_cell? wa _ e8)).trans e8, (h.cell (World.block_lt_of_cell? wa _ e9)).trans e9, (h.cell (World.block_lt_of_cell? wa _ f0)).trans f0, (h.cell (World.block_lt_of_cell? wa _ f1)).trans f1, (h.cell (World.block_lt_of_cell? wa _ f2)).trans f2, (h.cell (World.block_lt_of_cell? wa _ f3)).trans f3, (h.cell (World.block_lt_of_cell? wa _ f4)).trans f4, (h.cell (World.block_lt_of_cell? wa _ f5)).trans f5, (h.cell (World.block_lt_of_cell? wa _ f6)).trans f6, (h.cell (World.block_lt_of_cell? wa _ f7)).trans f7, (h.cell (World.block_lt_of_cell? wa _ f8)).trans f8, (h.cell (World.block_lt_of_cell? wa _ f9)).trans f9, (h.cell (World.block_lt_of_cell? wa _ g0)).trans g0, (h.cell (World.block_lt_of_cell? wa _ g1)).trans g1, (h.cell (World.block_lt_of_cell? wa _ g2)).trans g2, (h.cell (World.block_lt_of_cell? wa _ g3)).trans g3, (h.cell (World.block_lt_of_cell? wa _ g4)).trans g4, (h.cell (World.block_lt_of_cell? wa _ g5)).trans g5, (h.cell (World.block_lt_of_cell? wa _ g6)).trans g6, (h.cell (World.block_lt_of_cell? wa _ g7)).trans g7, (h.cell (World.block_lt_of_cell? wa _ g8)).trans g8, (h.cell (World.block_lt_of_cell? wa _ g9)).trans g9, h⟩
            go_upto_region 10 with fail
            refine wp_region_held_drew (S := fun w' => w'.cell? ⟨w2.heap.size, 0, none⟩ = some (.int .i64 x.kind) ∧ w'.cell? ⟨w2.heap.size, 1, none⟩ = some (.int .i64 x.op) ∧ w'.cell? ⟨w2.heap.size, 2, none⟩ = some (.int .i64 x.v.kind) ∧ w'.cell? ⟨w2.heap.size, 3, none⟩ = some (.int .i64 x.v.int) ∧ w'.cell? ⟨w2.heap.size, 4, none⟩ = some (.string ⟨x.v.text.toArray⟩) ∧ w'.cell? ⟨w2.heap.size, 5, none⟩ = some (.string ⟨x.table.toArray⟩) ∧ w'.cell? ⟨w2.heap.size, 6, none⟩ = some (.string ⟨x.name.toArray⟩) ∧ w'.cell? ⟨w2.heap.size, 7, none⟩ = some (.int .i64 x.col) ∧ w'.cell? ⟨w2.heap.size, 8, none⟩ = some (.int .i64 x.ty) ∧ w'.cell? ⟨w2.heap.size, 9, none⟩ = some (.slice As1 x.args.length cs1) ∧ w'.cell? ⟨w6.heap.size, 0, none⟩ = some (.int .i64 x.kind) ∧ w'.cell? ⟨w6.heap.size, 1, none⟩ = some (.int .i64 x.op) ∧ w'.cell? ⟨w6.heap.size, 2, none⟩ = some (.int .i64 x.v.kind) ∧ w'.cell? ⟨w6.heap.size, 3, none⟩ = some (.int .i64 x.v.int) ∧ w'.cell? ⟨w6.heap.size, 4, none⟩ = some (.string ⟨x.v.text.toArray⟩) ∧ w'.cell? ⟨w6.heap.size, 5, none⟩ = some (.string ⟨x.table.toArray⟩) ∧ w'.cell? ⟨w6.heap.size, 6, none⟩ = some (.string ⟨x.name.toArray⟩) ∧ w'.cell? ⟨w6.heap.size, 7, none⟩ = some (.int .i64 x.col) ∧ w'.cell? ⟨w6.heap.size, 8, none⟩ = some (.int .i64 x.ty) ∧ w'.cell? ⟨w6.heap.size, 9, none⟩ = some (.slice As2 x.args.length cs2) ∧ w'.cell? ⟨w9.heap.size, 0, none⟩ = some (.int .i64 x.kind) ∧ w'.cell? ⟨w9.heap.size, 1, none⟩ = some (.int .i64 x.op) ∧ w'.cell? ⟨w9.heap.size, 2, none⟩ = some (.int .i64 x.v.kind) ∧ w'.cell? ⟨w9.heap.size, 3, none⟩ = some (.int .i64 x.v.int) ∧ w'.cell? ⟨w9.heap.size, 4, none⟩ = some (.string ⟨x.v.text.toArray⟩) ∧ w'.cell? ⟨w9.heap.size, 5, none⟩ = some (.string ⟨x.table.toArray⟩) ∧ w'.cell? ⟨w9.heap.size, 6, none⟩ = some (.string ⟨x.name.toArray⟩) ∧ w'.cell? ⟨w9.heap.size, 7, none⟩ = some (.int .i64 x.col) ∧ w'.cell? ⟨w9.heap.size, 8, none⟩ = some (.int .i64 x.ty) ∧ w'.cell? ⟨w9.heap.size, 9, none⟩ = some (.slice As3 x.args.length cs3) ∧ Below wa.heap.size wa w') (by kernel_rfl) (HS.out _ (Below.refl _ _).drew) (fun hHeld => ?_)
            refine wpAnyH_take (i := 0) (oi := ({ dst := some 65, op := Op.load 58 (Operand.tmp 3), type := 58, pos := "more.go:22", after := #[], guard := none } : Oper)) (v := ?va0) rfl (by kernel_rfl) (by kernel_rfl) (by kernel_rfl) (fun _ _ _ h => h) (Or.inl ⟨by rfl, ?ha0⟩) (by assumption) ?ra0
            case ha0 => (intro w hSw; (try dsimp only at hSw); go_simp; try (with_reducible rfl))
            try simp only [Act.put, List.setIfInBounds_toArray, List.set_cons_zero, List.set_cons_succ]
            refine wpAnyH_take (i := 1) (oi := ({ dst := some 66, op := Op.load 58 (Operand.tmp 6), type := 58, pos := "more.go:22", after := #[], guard := none } : Oper)) (v := ?va1) rfl (by kernel_rfl) (by kernel_rfl) (by kernel_rfl) (fun _ _ _ h => h) (Or.inl ⟨by rfl, ?ha1⟩) (by assumption) ?ra1
            case ha1 => (intro w hSw; (try dsimp only at hSw); go_simp; try (with_reducible rfl))
            try simp only [Act.put, List.setIfInBounds_toArray, List.set_cons_zero, List.set_cons_succ]
            refine wpAnyH_ready (rs := [2]) (by kernel_rfl) (by simp) ?_
            refine AllReadyH.cons (o := ({ dst := some 67, op := Op.call { callee := Callee.value (Operand.func 24), args := #[Operand.tmp 65, Operand.tmp 66], argTypes := #[58, 58] }, type := 4, pos := "more.go:22", after := #[{ on := 0, ground := Ground.data }, { on := 1, ground := Ground.data }], guard := none } : Oper)) rfl (fun K hK => ?_) AllReadyH.nil
            go_simp
            refine (HC1.out _ (Below.refl _ _).drew).mono ?_
            rintro e wb ⟨rfl, hbb⟩
            rw [sameE_refl]
            go_wp2_with fail
            refine hK.out _ _ (HS.out _ (below_step (Below.refl _ _).drew hbb)) (fun hHeld => ?_)
            clear hK K
            try simp only [Act.put, List.setIfInBounds_toArray, List.set_cons_zero, List.set_cons_succ]
            refine wpAnyH_take (i := 3) (oi := ({ dst := some 68, op := Op.move (Operand.tmp 67), type := 4, pos := "more.go:22", after := #[{ on := 2, ground := Ground.data }, { on := 2, ground := Ground.chain }], guard := none } : Oper)) (v := ?va3) rfl (by kernel_rfl) (by kernel_rfl) (by kernel_rfl) (fun _ _ _ h => h) (Or.inl ⟨by rfl, ?ha3⟩) (by assumption) ?ra3
            case ha3 => (intro w hSw; (try dsimp only at hSw); go_simp; try (with_reducible rfl))
            try simp only [Act.put, List.setIfInBounds_toArray, List.set_cons_zero, List.set_cons_succ]
            refine wpAnyH_take (i := 4) (oi := ({ dst := some 69, op := Op.load 58 (Operand.tmp 3), type := 58, pos := "more.go:22", after := #[{ on := 3, ground := Ground.guard }], guard := some (3, true) } : Oper)) (v := ?va4) rfl (by kernel_rfl) (by kernel_rfl) (by kernel_rfl) (fun _ _ _ h => h) (Or.inl ⟨by rfl, ?ha4⟩) (by assumption) ?ra4
            case ha4 => (intro w hSw; (try dsimp only at hSw); go_simp; try (with_reducible rfl))
            try simp only [Act.put, List.setIfInBounds_toArray, List.set_cons_zero, List.set_cons_succ]
            refine wpAnyH_take (i := 5) (oi := ({ dst := some 70, op := Op.load 58 (Operand.tmp 9), type := 58, pos := "more.go:22", after := #[{ on := 3, ground := Ground.guard }], guard := some (3, true) } : Oper)) (v := ?va5) rfl (by kernel_rfl) (by kernel_rfl) (by kernel_rfl) (fun _ _ _ h => h) (Or.inl ⟨by rfl, ?ha5⟩) (by assumption) ?ra5
            case ha5 => (intro w hSw; (try dsimp only at hSw); go_simp; try (with_reducible rfl))
            try simp only [Act.put, List.setIfInBounds_toArray, List.set_cons_zero, List.set_cons_succ]
            refine wpAnyH_ready (rs := [6]) (by kernel_rfl) (by simp) ?_
            refine AllReadyH.cons (o := ({ dst := some 71, op := Op.call { callee := Callee.value (Operand.func 24), args := #[Operand.tmp 69, Operand.tmp 70], argTypes := #[58, 58] }, type := 4, pos := "more.go:22", after := #[{ on := 4, ground := Ground.data }, { on := 5, ground := Ground.data }, { on := 3, ground := Ground.chain }, { on := 3, ground := Ground.guard }], guard := some (3, true) } : Oper)) rfl (fun K hK => ?_) AllReadyH.nil
            go_simp
            refine (HC2.out _ hHeld.2.2.2.2.2.2.2.2.2.2.2.2.2.2.2.2.2.2.2.2.2.2.2.2.2.2.2.2.2.2).mono ?_
            rintro e wc ⟨rfl, hbc⟩
            rw [sameE_refl]
            go_wp2_with fail
            refine hK.out _ _ (HS.out _ (below_step hHeld.2.2.2.2.2.2.2.2.2.2.2.2.2.2.2.2.2.2.2.2.2.2.2.2.2.2.2.2.2.2 hbc)) (fun hHeld => ?_)
            clear hK K
            try simp only [Act.put, List.setIfInBounds_toArray, List.set_cons_zero, List.set_cons_succ]
            refine wpAnyH_take (i := 7) (oi := ({ dst := some 72, op := Op.pick (Operand.tmp 68) (Operand.tmp 71) (Operand.const (Value.bool false)), type := 4, pos := "more.go:22", after := #[{ on := 3, ground := Ground.data }, { on := 6, ground := Ground.data }], guard := none } : Oper)) (v := ?va7) rfl (by kernel_rfl) (by kernel_rfl) (by kernel_rfl) (fun _ _ _ h => h) (Or.inl ⟨by rfl, ?ha7⟩) (by assumption) ?ra7
            case ha7 => (intro w hSw; (try dsimp only at hSw); go_simp; try (with_reducible rfl))
            try simp only [Act.put, List.setIfInBounds_toArray, List.set_cons_zero, List.set_cons_succ]
            refine wpAnyH_take (i := 8) (oi := ({ dst := some 73, op := Op.move (Operand.tmp 72), type := 4, pos := "more.go:22", after := #[{ on := 7, ground := Ground.data }, { on := 6, ground := Ground.chain }], guard := none } : Oper)) (v := ?va8) rfl (by kernel_rfl) (by kernel_rfl) (by kernel_rfl) (fun _ _ _ h => h) (Or.inl ⟨by rfl, ?ha8⟩) (by assumption) ?ra8
            case ha8 => (intro w hSw; (try dsimp only at hSw); go_simp; try (with_reducible rfl))
            try simp only [Act.put, List.setIfInBounds_toArray, List.set_cons_zero, List.set_cons_succ]
            refine wpAnyH_take (i := 9) (oi := ({ dst := some 74, op := Op.load 58 (Operand.tmp 6), type := 58, pos := "more.go:22", after := #[{ on := 8, ground := Ground.guard }], guard := some (8, true) } : Oper)) (v := ?va9) rfl (by kernel_rfl) (by kernel_rfl) (by kernel_rfl) (fun _ _ _ h => h) (Or.inl ⟨by rfl, ?ha9⟩) (by assumption) ?ra9
            case ha9 => (intro w hSw; (try dsimp only at hSw); go_simp; try (with_reducible rfl))
            try simp only [Act.put, List.setIfInBounds_toArray, List.set_cons_zero, List.set_cons_succ]
            refine wpAnyH_take (i := 11) (oi := ({ dst := some 76, op := Op.load 58 (Operand.tmp 3), type := 58, pos := "more.go:22", after := #[{ on := 8, ground := Ground.guard }], guard := some (8, true) } : Oper)) (v := ?va11) rfl (by kernel_rfl) (by kernel_rfl) (by kernel_rfl) (fun _ _ _ h => h) (Or.inl ⟨by rfl, ?ha11⟩) (by assumption) ?ra11
            case ha11 => (intro w hSw; (try dsimp only at hSw); go_simp; try (with_reducible rfl))
            try simp only [Act.put, List.setIfInBounds_toArray, List.set_cons_zero, List.set_cons_succ]
            refine wpAnyH_ready (rs := [10]) (by kernel_rfl) (by simp) ?_
            refine AllReadyH.cons (o := ({ dst := some 75, op := Op.call { callee := Callee.value (Operand.func 23), args := #[Operand.tmp 74], argTypes := #[58] }, type := 9, pos := "more.go:22", after := #[{ on := 9, ground := Ground.data }, { on := 8, ground := Ground.chain }, { on := 8, ground := Ground.guard }], guard := some (8, true) } : Oper)) rfl (fun K hK => ?_) AllReadyH.nil
            go_simp
            refine (HP2.out _ hHeld.2.2.2.2.2.2.2.2.2.2.2.2.2.2.2.2.2.2.2.2.2.2.2.2.2.2.2.2.2.2).mono ?_
            rintro e wd ⟨rfl, hbd⟩
            go_wp2_with fail
            refine hK.out _ _ (HS.out _ (below_step hHeld.2.2.2.2.2.2.2.2.2.2.2.2.2.2.2.2.2.2.2.2.2.2.2.2.2.2.2.2.2.2 hbd)) (fun hHeld => ?_)
            clear hK K
            try simp only [Act.put, List.setIfInBounds_toArray, List.set_cons_zero, List.set_cons_succ]
            refine wpAnyH_ready (rs := [12]) (by kernel_rfl) (by simp) ?_
            refine AllReadyH.cons (o := ({ dst := some 77, op := Op.call { callee := Callee.value (Operand.func 23), args := #[Operand.tmp 76], argTypes := #[58] }, type := 9, pos := "more.go:22", after := #[{ on := 11, ground := Ground.data }, { on := 10, ground := Ground.chain }, { on := 8, ground := Ground.guard }], guard := some (8, true) } : Oper)) rfl (fun K hK => ?_) AllReadyH.nil
            go_simp
            refine (HP1.out _ hHeld.2.2.2.2.2.2.2.2.2.2.2.2.2.2.2.2.2.2.2.2.2.2.2.2.2.2.2.2.2.2).mono ?_
            rintro e we ⟨rfl, hbe⟩
            go_wp2_with fail
            refine hK.out _ _ (HS.out _ (below_step hHeld.2.2.2.2.2.2.2.2.2.2.2.2.2.2.2.2.2.2.2.2.2.2.2.2.2.2.2.2.2.2 hbe)) (fun hHeld => ?_)
            clear hK K
            try simp only [Act.put, List.setIfInBounds_toArray, List.set_cons_zero, List.set_cons_succ]
            refine wpAnyH_take (i := 13) (oi := ({ dst := some 78, op := Op.binOp BinOp.eql 9 (Operand.tmp 75) (Operand.tmp 77) 9, type := 4, pos := "more.go:22", after := #[{ on := 10, ground := Ground.data }, { on := 12, ground := Ground.data }, { on := 8, ground := Ground.guard }], guard := some (8, true) } : Oper)) (v := ?va13) rfl (by kernel_rfl) (by kernel_rfl) (by kernel_rfl) (fun _ _ _ h => h) (Or.inl ⟨by rfl, ?ha13⟩) (by assumption) ?ra13
            case ha13 => (intro w hSw; (try dsimp only at hSw); go_simp; try (with_reducible rfl))
            try simp only [Act.put, List.setIfInBounds_toArray, List.set_cons_zero, List.set_cons_succ]
            refine wpAnyH_take (i := 14) (oi := ({ dst := some 79, op := Op.pick (Operand.tmp 73) (Operand.tmp 78) (Operand.const (Value.bool false)), type := 4, pos := "more.go:22", after := #[{ on := 8, ground := Ground.data }, { on := 13, ground := Ground.data }], guard := none } : Oper)) (v := ?va14) rfl (by kernel_rfl) (by kernel_rfl) (by kernel_rfl) (fun _ _ _ h => h) (Or.inl ⟨by rfl, ?ha14⟩) (by assumption) ?ra14
            case ha14 => (intro w hSw; (try dsimp only at hSw); go_simp; try (with_reducible rfl))
            try simp only [Act.put, List.setIfInBounds_toArray, List.set_cons_zero, List.set_cons_succ]
            refine wpAnyH_take (i := 15) (oi := ({ dst := some 2, op := Op.assign (Operand.tmp 79), type := 4, pos := "more.go:22", after := #[{ on := 14, ground := Ground.data }, { on := 12, ground := Ground.chain }, { on := 0, ground := Ground.phase }, { on := 1, ground := Ground.phase }, { on := 2, ground := Ground.phase }, { on := 3, ground := Ground.phase }, { on := 4, ground := Ground.phase }, { on := 5, ground := Ground.phase }, { on := 6, ground := Ground.phase }, { on := 7, ground := Ground.phase }, { on := 8, ground := Ground.phase }, { on := 9, ground := Ground.phase }, { on := 10, ground := Ground.phase }, { on := 11, ground := Ground.phase }, { on := 12, ground := Ground.phase }, { on := 13, ground := Ground.phase }, { on := 14, ground := Ground.phase }], guard := none } : Oper)) (v := ?va15) rfl (by kernel_rfl) (by kernel_rfl) (by kernel_rfl) (fun _ _ _ h => h) (Or.inl ⟨by rfl, ?ha15⟩) (by assumption) ?ra15
            case ha15 => (intro w hSw; (try dsimp only at hSw); go_simp; try (with_reducible rfl))
            try simp only [Act.put, List.setIfInBounds_toArray, List.set_cons_zero, List.set_cons_succ]
            refine wpAnyH_done (by kernel_rfl) ?_ _
            have HBF : Asd (Below w.heap.size w _) := Asd.mk (HBwa.out.trans (hHeld.2.2.2.2.2.2.2.2.2.2.2.2.2.2.2.2.2.2.2.2.2.2.2.2.2.2.2.2.2.2.mono HBwa.out.size))
            clear hHeld HS
            go_wp2
            go_ret
            exact ⟨ret_eq rfl, HBF.out⟩
          · rw [hrd4] at hr
            obtain ⟨N4, rfl, hN4⟩ := hr
            have HN4 := Asd.mk hN4
            clear hrd4 hN4 H2
            rw [exV_zero]
            have HBZwa : Asd (Below w9.heap.size w9 _) := Asd.mk (below_alloc (Below.refl _ w9) (.cells #[.int .i64 0, .int .i64 0, .int .i64 0, .int .i64 0, .string ⟨#[]⟩, .string ⟨#[]⟩, .string ⟨#[]⟩, .int .i64 0, .int .i64 0, .slice none 0 0] 58 (0, 0)))
            go_upto_region 8 with fail
            generalize w9.alloc (.cells #[.int .i64 0, .int .i64 0, .int .i64 0, .int .i64 0, .string ⟨#[]⟩, .string ⟨#[]⟩, .string ⟨#[]⟩, .int .i64 0, .int .i64 0, .slice none 0 0] 58 (0, 0)) = wa at HBZwa ⊢
            have HBwa : Asd (Below w.heap.size w wa) := Asd.mk (HBw9.out.trans (HBZwa.out.mono HBw9.out.size))
            have HWwa := Asd.mk (HWw9.out.below HBZwa.out)
            have HN4 := Asd.mk (blk_below HBZwa.out HN4.out)
            go_wp2_with fail
            refine (err_nil wa).mono ?_
            rintro e wb ⟨rfl, rfl⟩
            go_wp2_with fail
            refine (err_fault N4 _ _ _ HN4.out true (by rfl)).mono ?_
            rintro e wb ⟨rfl, rfl⟩
            go_wp2
            go_ret
            exact ⟨ret_eq rfl, HBwa.out⟩
        · rw [hrd3] at hr
          obtain ⟨N3, rfl, hN3⟩ := hr
          have HN3 := Asd.mk hN3
          clear hrd3 hN3 H1
          rw [exV_zero]
          have HBZw7 : Asd (Below w6.heap.size w6 _) := Asd.mk (below_alloc (Below.refl _ w6) (.cells #[.int .i64 0, .int .i64 0, .int .i64 0, .int .i64 0, .string ⟨#[]⟩, .string ⟨#[]⟩, .string ⟨#[]⟩, .int .i64 0, .int .i64 0, .slice none 0 0] 58 (0, 0)))
          go_upto_region 7 with fail
          generalize w6.alloc (.cells #[.int .i64 0, .int .i64 0, .int .i64 0, .int .i64 0, .string ⟨#[]⟩, .string ⟨#[]⟩, .string ⟨#[]⟩, .int .i64 0, .int .i64 0, .slice none 0 0] 58 (0, 0)) = w7 at HBZw7 ⊢
          have HBw7 : Asd (Below w.heap.size w w7) := Asd.mk (HBw6.out.trans (HBZw7.out.mono HBw6.out.size))
          have HWw7 := Asd.mk (HWw6.out.below HBZw7.out)
          have HN3 := Asd.mk (blk_below HBZw7.out HN3.out)
          go_wp2_with fail
          have HS2 : Asd (((⟨#[40, 40]⟩ : ByteArray) ++ text ++ ⟨#[10, 41, 41]⟩).data.toList = [40, 40] ++ text.data.toList ++ [10, 41, 41]) := Asd.mk (by simp [ByteArray.data_append])
          generalize ((⟨#[40, 40]⟩ : ByteArray) ++ text ++ ⟨#[10, 41, 41]⟩) = s2 at HS2 ⊢
          refine (words_calls s2 w7 HWw7.out.lex).mono ?_
          rintro e w8 ⟨hb8, A4, m4, c4, rfl, ht4⟩
          rw [HS2.out] at ht4
          have HBw8 : Asd (Below w.heap.size w w8) := Asd.mk (HBw7.out.trans (hb8.mono HBw7.out.size))
          have HWw8 := Asd.mk (HWw7.out.below hb8)
          have HN3 := Asd.mk (blk_below hb8 HN3.out)
          have HT4 := Asd.mk ht4
          clear hb8 ht4
          go_wp2_with fail
          refine (read_words A4 m4 c4 ([40, 40] ++ text.data.toList ++ [10, 41, 41]) w8 HWw8.out.lex.shaped HT4.out).mono ?_
          rintro e w9 ⟨hb9, hr⟩
          have HBw9 : Asd (Below w.heap.size w w9) := Asd.mk (HBw8.out.trans (hb9.mono HBw8.out.size))
          have HWw9 := Asd.mk (HWw8.out.below hb9)
          have HN3 := Asd.mk (blk_below hb9 HN3.out)
          clear hb9 HT4 HS2
          rcases H2.out with ⟨j4, hrd4⟩ | ⟨p4, hrd4⟩
          · rw [hrd4] at hr
            obtain ⟨s, rfl, hh⟩ := hr
            simp only at hh
            clear hrd4 H2
            obtain ⟨As3, cs3, rfl⟩ := held_len hh
            have HH03 := Asd.mk hh
            clear hh
            unfold exV
            have HA3 := Asd.mk (blk_new w9 (.cells #[.int .i64 x.kind, .int .i64 x.op, .int .i64 x.v.kind, .int .i64 x.v.int, .string ⟨x.v.text.toArray⟩, .string ⟨x.table.toArray⟩, .string ⟨x.name.toArray⟩, .int .i64 x.col, .int .i64 x.ty, .slice As3 x.args.length cs3] 58 (0, 0)))
            have HBA3 : Asd (Below w9.heap.size w9 _) := Asd.mk (below_alloc (Below.refl _ w9) (.cells #[.int .i64 x.kind, .int .i64 x.op, .int .i64 x.v.kind, .int .i64 x.v.int, .string ⟨x.v.text.toArray⟩, .string ⟨x.table.toArray⟩, .string ⟨x.name.toArray⟩, .int .i64 x.col, .int .i64 x.ty, .slice As3 x.args.length cs3] 58 (0, 0)))
            go_upto_region 8 with fail
            generalize w9.alloc (.cells #[.int .i64 x.kind, .int .i64 x.op, .int .i64 x.v.kind, .int .i64 x.v.int, .string ⟨x.v.text.toArray⟩, .string ⟨x.table.toArray⟩, .string ⟨x.name.toArray⟩, .int .i64 x.col, .int .i64 x.ty, .slice As3 x.args.length cs3] 58 (0, 0)) = wa at HA3 HBA3 ⊢
            have HBwa : Asd (Below w.heap.size w wa) := Asd.mk (HBw9.out.trans (HBA3.out.mono HBw9.out.size))
            have HWwa := Asd.mk (HWw9.out.below HBA3.out)
            have HH3 := Asd.mk (held_below HH03.out HBA3.out)
            have HN3 := Asd.mk (blk_below HBA3.out HN3.out)
            go_wp2_with fail
            refine (err_fault N3 _ _ wa HN3.out true (by rfl)).mono ?_
            rintro e wb ⟨rfl, rfl⟩
            go_wp2
            go_ret
            exact ⟨ret_eq rfl, HBwa.out⟩
          · rw [hrd4] at hr
            obtain ⟨N4, rfl, hN4⟩ := hr
            have HN4 := Asd.mk hN4
            clear hrd4 hN4 H2
            rw [exV_zero]
            have HBZwa : Asd (Below w9.heap.size w9 _) := Asd.mk (below_alloc (Below.refl _ w9) (.cells #[.int .i64 0, .int .i64 0, .int .i64 0, .int .i64 0, .string ⟨#[]⟩, .string ⟨#[]⟩, .string ⟨#[]⟩, .int .i64 0, .int .i64 0, .slice none 0 0] 58 (0, 0)))
            go_upto_region 8 with fail
            generalize w9.alloc (.cells #[.int .i64 0, .int .i64 0, .int .i64 0, .int .i64 0, .string ⟨#[]⟩, .string ⟨#[]⟩, .string ⟨#[]⟩, .int .i64 0, .int .i64 0, .slice none 0 0] 58 (0, 0)) = wa at HBZwa ⊢
            have HBwa : Asd (Below w.heap.size w wa) := Asd.mk (HBw9.out.trans (HBZwa.out.mono HBw9.out.size))
            have HWwa := Asd.mk (HWw9.out.below HBZwa.out)
            have HN3 := Asd.mk (blk_below HBZwa.out HN3.out)
            go_wp2_with fail
            refine (err_fault N3 _ _ wa HN3.out true (by rfl)).mono ?_
            rintro e wb ⟨rfl, rfl⟩
            go_wp2
            go_ret
            exact ⟨ret_eq rfl, HBwa.out⟩
    · have hne : ((j : Int) != (m2 : Int)) = true := by rw [bne_iff_ne]; omega
      go_wp2
      go_ret
      exact ⟨ret_eq rfl, HBw4.out⟩
end Go.Proofs.YtcefmhofidoloaaGreatDoor.Exp
