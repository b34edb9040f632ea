/- works. -/
import Derived.Test.YtcefmhofidoloaaGreatDoorTokSl
set_option linter.unusedVariables false
set_option linter.unusedSimpArgs false
namespace Go.Proofs.YtcefmhofidoloaaGreatDoor.Lex
open Go.RowKit Go.Proofs.YtcefmhofidoloaaGreatDoor.Base Go.Proofs.YtcefmhofidoloaaGreatDoor.App Go.Proofs.YtcefmhofidoloaaGreatDoor.Byt

theorem tok_in (d : Nat) (w : World) (x0 y0 x2 y2 x3 y3 : Int) (x1 y1 : ByteArray) :
    (Op.equalIn (d + 2) 52 (.agg #[.int .i64 x0, .string x1, .int .i64 x2, .int .i64 x3]) (.agg #[.int .i64 y0, .string y1, .int .i64 y2, .int .i64 y3])).run Tryz.prog w = .ok (x0 == y0 && (x1.toList == y1.toList && (x2 == y2 && (x3 == y3)))) w := by
  refine Eqs.s_of Tryz.underlying52 (by kernel_rfl) ?_
  refine Eqs.f_cons (by rfl) (by go_simp; rfl) (by go_simp; rfl) (by go_simp) ?_
  refine Eqs.f_cons (by rfl) (by go_simp; rfl) (by go_simp; rfl) (by go_simp) ?_
  refine Eqs.f_cons (by rfl) (by go_simp; rfl) (by go_simp; rfl) (by go_simp) ?_
  exact Eqs.f_last (by rfl) (by go_simp; rfl) (by go_simp; rfl) (by go_simp)
theorem tok_neq (w : World) (x0 y0 x2 y2 x3 y3 : Int) (x1 y1 : ByteArray) :
    (binOp .neq 52 (.agg #[.int .i64 x0, .string x1, .int .i64 x2, .int .i64 x3]) (.agg #[.int .i64 y0, .string y1, .int .i64 y2, .int .i64 y3])).run Tryz.prog w = .ok (.bool (!(x0 == y0 && (x1.toList == y1.toList && (x2 == y2 && (x3 == y3)))))) w := Eqs.op_neq fun d => tok_in d w x0 y0 x2 y2 x3 y3 x1 y1
theorem tok_eql (w : World) (x0 y0 x2 y2 x3 y3 : Int) (x1 y1 : ByteArray) :
    (binOp .eql 52 (.agg #[.int .i64 x0, .string x1, .int .i64 x2, .int .i64 x3]) (.agg #[.int .i64 y0, .string y1, .int .i64 y2, .int .i64 y3])).run Tryz.prog w = .ok (.bool (x0 == y0 && (x1.toList == y1.toList && (x2 == y2 && (x3 == y3))))) w := Eqs.op_eql fun d => tok_in d w x0 y0 x2 y2 x3 y3 x1 y1
theorem flt_in (d : Nat) (w : World) (x0 y0 x1 y1 : Int) :
    (Op.equalIn (d + 2) 35 (.agg #[.int .i64 x0, .int .i64 x1]) (.agg #[.int .i64 y0, .int .i64 y1])).run Tryz.prog w = .ok (x0 == y0 && (x1 == y1)) w := by
  refine Eqs.s_of Tryz.underlying35 (by kernel_rfl) ?_
  refine Eqs.f_cons (by rfl) (by go_simp; rfl) (by go_simp; rfl) (by go_simp) ?_
  exact Eqs.f_last (by rfl) (by go_simp; rfl) (by go_simp; rfl) (by go_simp)
theorem flt_eql (w : World) (x0 y0 x1 y1 : Int) :
    (binOp .eql 35 (.agg #[.int .i64 x0, .int .i64 x1]) (.agg #[.int .i64 y0, .int .i64 y1])).run Tryz.prog w = .ok (.bool (x0 == y0 && (x1 == y1))) w := Eqs.op_eql fun d => flt_in d w x0 y0 x1 y1

def wordsA : List UInt8 := [83, 69, 76, 69, 67, 84, 32, 97, 49, 44, 32, 39, 105, 116, 39, 39, 115, 39, 32, 45, 45, 32, 120]
def wordsB : List UInt8 := [57, 50, 50, 51, 51, 55, 50, 48, 51, 54, 56, 53, 52, 55, 55, 53, 56, 48, 56]
set_option maxRecDepth 100000 in
theorem lex_wordsA : lexT wordsA = .ok [(⟨1, [115, 101, 108, 101, 99, 116], 0⟩, 0), (⟨1, [97, 49], 0⟩, 7), (⟨5, [44], 0⟩, 9), (⟨3, [105, 116, 39, 115], 0⟩, 11)] := by kernel_rfl
set_option maxRecDepth 100000 in
theorem lex_wordsB : lexT wordsB = .error 0 := by kernel_rfl

set_option maxRecDepth 100000 in
set_option maxHeartbeats 3200000 in
theorem works_calls (w : World) (hw : LexW w) (hg : EtyW w) :
    Calls Tryz.prog 18 #[] w fun e w' => e = .returned (.bool true) ∧ Below w.heap.size w w' := by
  have HW := Asd.mk hw
  have HG := Asd.mk hg
  clear hw hg
  go_enter Tryz.func18, Tryz.ntmps18
  go_wp2_with fail
  refine (tokens_reads ⟨#[83, 69, 76, 69, 67, 84, 32, 97, 49, 44, 32, 39, 105, 116, 39, 39, 115, 39, 32, 45, 45, 32, 120]⟩ _ HW.out).mono ?_
  rintro e w1 ⟨hb1, he⟩
  rw [if_neg (by decide), show (⟨#[83, 69, 76, 69, 67, 84, 32, 97, 49, 44, 32, 39, 105, 116, 39, 39, 115, 39, 32, 45, 45, 32, 120]⟩ : ByteArray).data.toList = wordsA from rfl, lex_wordsA] at he
  obtain ⟨A, m, c, rfl, ht⟩ := he
  obtain rfl : m = 4 := ht.1
  obtain ⟨g, rfl, hc⟩ := ht.2.2 (by omega)
  have HC0 := Asd.mk (hc 0 (by simp))
  have HC3 := Asd.mk (hc 3 (by simp))
  have HB1 := Asd.mk hb1
  have HW1 := Asd.mk (HW.out.below hb1)
  clear hb1 ht hc
  go_wp2_with fail
  refine (tokens_reads ⟨#[57, 50, 50, 51, 51, 55, 50, 48, 51, 54, 56, 53, 52, 55, 55, 53, 56, 48, 56]⟩ _ HW1.out).mono ?_
  rintro e w2 ⟨hb2, he⟩
  rw [if_neg (by decide), show (⟨#[57, 50, 50, 51, 51, 55, 50, 48, 51, 54, 56, 53, 52, 55, 55, 53, 56, 48, 56]⟩ : ByteArray).data.toList = wordsB from rfl, lex_wordsB] at he
  obtain ⟨N, rfl, _, hN⟩ := he
  have HN := Asd.mk hN
  have HB2 : Asd (Below w.heap.size w w2) := Asd.mk (HB1.out.trans (hb2.mono HB1.out.size))
  have HW2 := Asd.mk (HW.out.below HB2.out)
  have HG2 := Asd.mk (HG.out.below HB2.out)
  obtain ⟨_, p1, _, _⟩ := HC0.out
  obtain ⟨q0, q1, q2, q3⟩ := HC3.out
  have x1 := (hb2.cell (World.block_lt_of_cell? w1 _ p1)).trans p1
  have y0 := (hb2.cell (World.block_lt_of_cell? w1 _ q0)).trans q0
  have y1 := (hb2.cell (World.block_lt_of_cell? w1 _ q1)).trans q1
  have y2 := (hb2.cell (World.block_lt_of_cell? w1 _ q2)).trans q2
  have y3 := (hb2.cell (World.block_lt_of_cell? w1 _ q3)).trans q3
  simp only [List.getElem_cons_zero, List.getElem_cons_succ, Nat.zero_mul, Nat.zero_add, Nat.reduceMul, Nat.reduceAdd] at x1 y0 y1 y2 y3
  clear p1 q0 q1 q2 q3 hb2 hN
  have te : ∀ w, (binOp .eql 52 (.agg #[.int .i64 3, .string ⟨#[105, 116, 39, 115]⟩, .int .i64 11, .int .i64 0]) (.agg #[.int .i64 3, .string ⟨#[105, 116, 39, 115]⟩, .int .i64 11, .int .i64 0])).run Tryz.prog w = .ok (.bool true) w := fun w => by rw [tok_eql]; simp
  have fe : ∀ w, (binOp .eql 35 (.agg #[.int .i64 0, .int .i64 20]) (.agg #[.int .i64 0, .int .i64 20])).run Tryz.prog w = .ok (.bool true) w := fun w => by rw [flt_eql]; simp
  go_wp2_with fail
  refine (seen_fault N 0 20 w2 HG2.out HN.out).mono ?_
  rintro e w3 ⟨rfl, hb3⟩
  have HB3 : Asd (Below w.heap.size w w3) := Asd.mk (HB2.out.trans (hb3.mono HB2.out.size))
  have HW3 := Asd.mk (HW.out.below HB3.out)
  clear hb3
  go_wp2_with fail
  refine (keyword_calls ⟨#[102, 114, 111, 109]⟩ _ (by decide) HW3.out.shaped).mono ?_
  rintro e w4 ⟨rfl, rfl⟩
  have HK : Asd (kwList.contains (⟨#[102, 114, 111, 109]⟩ : ByteArray).toList = true) := Asd.mk (by rw [Lib.toList_data]; decide)
  rw [HK.out]
  go_wp2
  go_ret
  exact ⟨ret_eq rfl, HB3.out⟩
end Go.Proofs.YtcefmhofidoloaaGreatDoor.Lex
