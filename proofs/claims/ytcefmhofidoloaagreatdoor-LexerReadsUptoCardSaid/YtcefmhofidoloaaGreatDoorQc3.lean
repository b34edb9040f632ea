/- Texts put together: Seen, TokSl, Works, NumP, CatP, AgainP, Laid, Laid2. -/
import Derived.Test.YtcefmhofidoloaaGreatDoorQc2
import Derived.Lib.ItoaLen
import Derived.Lib.ParseIntB
import Derived.Test.YtcefmhofidoloaaGreatDoorRows
import Derived.WalkKit
import Derived.ProofKit
import Derived.OpenShut
import Derived.ShutString
import Derived.ChangeOld
import Derived.Below
import Derived.SizedLaws
import Derived.Deep.DeepHandedRow
import Derived.Lib.LaidTab
import Derived.Lib.ItoaNum
import Derived.LaidSub
import Derived.Stop.LaidErr
import Derived.LaidHandle
import Derived.LaidLaws
/- Seen. -/
set_option linter.unusedVariables false
set_option linter.unusedSimpArgs false
namespace Go.Proofs.YtcefmhofidoloaaGreatDoor.Lex
open Go.RowKit Go.Proofs.YtcefmhofidoloaaGreatDoor.Base Go.Proofs.YtcefmhofidoloaaGreatDoor.App Go.Proofs.YtcefmhofidoloaaGreatDoor.Byt

/-- What the variable errors.errorType holds. -/
def EtyW (w : World) : Prop := w.cell? ⟨0, 0, none⟩ = some (.iface 211 (.agg #[.pointer (some ⟨9, 42, none⟩)]))
theorem EtyW.below {w w' : World} (h : EtyW w) (hb : Below w.heap.size w w') : EtyW w' := (hb.cell (World.block_lt_of_cell? w _ h)).trans h

theorem as_calls (N b : Nat) (W : World) (hg : EtyW W) (hb : W.heap[b]? = some (.cells #[.pointer none] 93 (0, 0))) :
    Calls Tryz.prog 54 #[.iface 93 (.pointer (some ⟨N, 0, none⟩)), .iface 103 (.pointer (some ⟨b, 0, none⟩))] W fun e w' =>
      e = .returned (.bool true) ∧ w'.heap[b]? = some (.cells #[.pointer (some ⟨N, 0, none⟩)] 93 (0, 0)) ∧ Fr (fun k => k = b) W w' := by
  refine (as_hit ⟨N, 0, none⟩ ⟨b, 0, none⟩ (.pointer none) W hg ((blk_cell hb 0).trans rfl) (blk_frozen hb 0)).mono ?_
  rintro e w' ⟨rfl, rfl⟩
  refine ⟨rfl, ?_, ?_⟩
  · exact (blk_set (blk_alloc (blk_alloc (blk_alloc (blk_alloc hb _) _) _) _) 0 _).trans rfl
  · exact Fr.setCell (S := fun k => k = b) (((((Fr.refl _ W).alloc _).alloc _).alloc _).alloc _) rfl _

set_option maxRecDepth 100000 in
set_option maxHeartbeats 1600000 in
theorem seen_nil (w : World) :
    Calls Tryz.prog 16 #[.nilIface] w fun e w' => e = .returned (.agg #[.int .i64 0, .int .i64 0]) ∧ Below w.heap.size w w' := by
  have HB := Asd.mk (below_alloc (Below.refl w.heap.size w) (.cells #[.int .i64 0, .int .i64 0] 35))
  have HN := Asd.mk (blk_new w (.cells #[.int .i64 0, .int .i64 0] 35))
  go_enter Tryz.func16, Tryz.ntmps16
  go_wp2
  refine bodyPost_ret (results_cell_row rfl _ _ w.heap.size 35 _ (0, 0) _ rfl HN.out Tryz.underlying35 rfl (by kernel_rfl)) rfl ?_
  exact ⟨rfl, HB.out⟩

set_option maxRecDepth 100000 in
set_option maxHeartbeats 3200000 in
theorem seen_fault (N : Nat) (k n : Int) (w : World) (hg : EtyW w) (hN : w.heap[N]? = some (.cells #[.int .i64 k, .iface 33 (.int .i64 n)] 95 (0, 0))) :
    Calls Tryz.prog 16 #[.iface 93 (.pointer (some ⟨N, 0, none⟩))] w fun e w' => e = .returned (.agg #[.int .i64 k, .int .i64 n]) ∧ Below w.heap.size w w' := by
  have HB := Asd.mk (below_alloc (below_alloc (Below.refl w.heap.size w) (.cells #[.int .i64 0, .int .i64 0] 35)) (.cells #[.pointer none] 93))
  have HR := Asd.mk (blk_alloc (blk_new w (.cells #[.int .i64 0, .int .i64 0] 35)) (.cells #[.pointer none] 93))
  have HT := Asd.mk (blk_new (w.alloc (.cells #[.int .i64 0, .int .i64 0] 35)) (.cells #[.pointer none] 93))
  rw [show (w.alloc (.cells #[.int .i64 0, .int .i64 0] 35)).heap.size = w.heap.size + 1 by simp] at HT
  have HG := Asd.mk (hg.below HB.out)
  have HN2 := Asd.mk (blk_below HB.out hN)
  have HNL := Asd.mk (blk_lt hN)
  clear hg hN
  have ta : ∀ w, (Instr.typeAssert (.iface 33 (.int .i64 n)) 42 33 true).run Tryz.prog w = .ok (.tuple #[.int .i64 n, .bool true]) w := fun _ => by kernel_rfl
  go_enter Tryz.func16, Tryz.ntmps16
  go_upto_region 4 with fail
  generalize (w.alloc (.cells #[.int .i64 0, .int .i64 0] 35)).alloc (.cells #[.pointer none] 93) = W at HB HR HT HG HN2 ⊢
  go_wp2_with fail
  refine (as_calls N (w.heap.size + 1) W HG.out HT.out).mono ?_
  rintro e w1 ⟨rfl, hb1, hf⟩
  have HT1 := Asd.mk hb1
  have HR1 : Asd (w1.heap[w.heap.size]? = some (.cells #[.int .i64 0, .int .i64 0] 35 (0, 0))) := Asd.mk ((hf.block w.heap.size (blk_lt HR.out) (by simp)).trans HR.out)
  have HN3 : Asd (w1.heap[N]? = some (.cells #[.int .i64 k, .iface 33 (.int .i64 n)] 95 (0, 0))) := Asd.mk ((hf.block N (blk_lt HN2.out) (by have := HNL.out; simp; omega)).trans HN2.out)
  have HB1 : Asd (Below w.heap.size w w1) := Asd.mk (HB.out.trans ⟨hf.os, hf.tape, hf.output, hf.size, fun j hj => hf.block j (by have := HB.out.size; omega) (by omega)⟩)
  clear hb1 hf
  have t0 := (blk_cell HT1.out 0).trans rfl
  have n0 := (blk_cell HN3.out 0).trans rfl
  have n1 := (blk_cell HN3.out 1).trans rfl
  have r0 := (blk_cell HR1.out 0).trans rfl
  have r1 := (blk_cell HR1.out 1).trans rfl
  have z0 := blk_frozen HR1.out 0
  have z1 := blk_frozen HR1.out 1
  have HFIN : Asd (∀ a b, ((w1.setCell ⟨w.heap.size, 0, none⟩ a).setCell ⟨w.heap.size, 1, none⟩ b).heap[w.heap.size]? = some (.cells #[a, b] 35 (0, 0)) ∧ Below w.heap.size w ((w1.setCell ⟨w.heap.size, 0, none⟩ a).setCell ⟨w.heap.size, 1, none⟩ b)) := Asd.mk fun a b =>
    ⟨(blk_set (blk_set HR1.out 0 a) 1 b).trans rfl, (HB1.out.setCell (Nat.le_refl _) a).setCell (Nat.le_refl _) b⟩
  go_wp2
  refine bodyPost_ret (results_cell_row rfl _ _ w.heap.size 35 _ (0, 0) _ rfl (HFIN.out _ _).1 Tryz.underlying35 rfl (by kernel_rfl)) rfl ?_
  exact ⟨rfl, (HFIN.out _ _).2⟩
end Go.Proofs.YtcefmhofidoloaaGreatDoor.Lex

/- A slice of words as values; '==' of words; works. -/
set_option linter.unusedVariables false
set_option linter.unusedSimpArgs false
namespace Go.Proofs.YtcefmhofidoloaaGreatDoor.Lex
open Go.RowKit Go.Proofs.YtcefmhofidoloaaGreatDoor.Base Go.Proofs.YtcefmhofidoloaaGreatDoor.App Go.Proofs.YtcefmhofidoloaaGreatDoor.Byt

/-- The slice at A, m long, holds the words ts. -/
def TokSl (W : World) (A : Option Addr) (m : Nat) (ts : List (Tk × Nat)) : Prop :=
  m = ts.length ∧ m ≤ 16384 ∧ (0 < m → ∃ g, A = some ⟨g, 0, none⟩ ∧ ∀ i (hi : i < ts.length), W.cell? ⟨g, i * 4, none⟩ = some (.int .i64 (ts[i].1.kind : Int)) ∧ W.cell? ⟨g, i * 4 + 1, none⟩ = some (.string ⟨ts[i].1.text.toArray⟩) ∧ W.cell? ⟨g, i * 4 + 2, none⟩ = some (.int .i64 (ts[i].2 : Nat)) ∧ W.cell? ⟨g, i * 4 + 3, none⟩ = some (.int .i64 ts[i].1.num))
theorem TokSl.below {W W' : World} {A : Option Addr} {m : Nat} {ts : List (Tk × Nat)} (h : TokSl W A m ts) (hb : Below W.heap.size W W') : TokSl W' A m ts := by
  refine ⟨h.1, h.2.1, fun h0 => ?_⟩
  obtain ⟨g, rfl, hc⟩ := h.2.2 h0
  refine ⟨g, rfl, fun i hi => ?_⟩
  obtain ⟨a, b, c, d⟩ := hc i hi
  exact ⟨(hb.cell (World.block_lt_of_cell? W _ a)).trans a, (hb.cell (World.block_lt_of_cell? W _ b)).trans b, (hb.cell (World.block_lt_of_cell? W _ c)).trans c, (hb.cell (World.block_lt_of_cell? W _ d)).trans d⟩
theorem tkCells_at : ∀ (ts : List (Tk × Nat)) (i : Nat) (hi : i < ts.length) (j : Nat), j < 4 → (tkCells ts)[i * 4 + j]? = (tcells ts[i])[j]?
  | x :: r, 0, hi, j, hj => by
    simp only [tkCells, List.flatMap_cons, Nat.zero_mul, Nat.zero_add, List.getElem_cons_zero]
    rw [List.getElem?_append_left (by simpa [tcells] using hj)]
  | x :: r, i + 1, hi, j, hj => by
    have ih := tkCells_at r i (by simpa using hi) j hj
    simp only [tkCells, List.flatMap_cons, List.getElem_cons_succ] at ih ⊢
    rw [List.getElem?_append_right (by simp [tcells]; omega)]
    rw [← ih]
    congr 1
    simp [tcells]
    omega
theorem TokSl.of_own {W : World} {B : Nat} {A : Option Addr} {m c : Nat} {ts : List (Tk × Nat)} (hm : m = ts.length) (hle : m ≤ 16384) (h : W.ownsRow B 52 4 (.slice A m c) m (tkCells ts)) : TokSl W A m ts := by
  refine ⟨hm, hle, fun h0 => ?_⟩
  have hc := fun g => h.cells (g := g)
  rcases h.2 with ⟨he, h00⟩ | ⟨g, cap, cur, he, hb, hh, _⟩
  · omega
  · injection he with h1 h2 h3
    subst h1
    refine ⟨g, rfl, fun i hi => ?_⟩
    have hg := hc g (by simp [Value.ownBlock])
    have hat : ∀ j, j < 4 → W.cell? ⟨g, i * 4 + j, none⟩ = (tcells ts[i])[j]? := fun j hj => by
      have h1 := tkCells_at ts i hi j hj
      have h2 : (tcells ts[i])[j]? = some ((tcells ts[i])[j]'(by simpa [tcells] using hj)) := List.getElem?_eq_getElem _
      rw [h2] at h1 ⊢
      have := hg _ _ h1
      rw [addr_add, Nat.zero_add] at this
      exact this
    exact ⟨(hat 0 (by omega)).trans rfl, (hat 1 (by omega)).trans rfl, (hat 2 (by omega)).trans rfl, (hat 3 (by omega)).trans rfl⟩

/-- How Tokens ends, as a reader sees it. -/
def LexR (l : List UInt8) (w : World) (e : Ending) (w' : World) : Prop :=
  Below w.heap.size w w' ∧ if 16384 < l.length then FaultE w e w' 0 8 else match lexT l with
  | .ok ts => ∃ A m c, e = .returned (.tuple #[.slice A m c, .nilIface]) ∧ TokSl w' A m ts
  | .error k => FaultE w e w' k 20

theorem lexT_len_aux : ∀ (f k : Nat) (s : List UInt8) (ts : List (Tk × Nat)), toksP f k s = .ok ts → ts.length ≤ s.length
  | 0, k, s, ts, h => by simp [toksP] at h; subst h; simp
  | f + 1, k, [], ts, h => by simp [toksP] at h; subst h; simp
  | f + 1, k, c :: r, ts, h => by
    rw [toksP] at h
    try simp only at h
    split at h
    · have := lexT_len_aux f _ _ _ h
      simp only [List.length_cons]; omega
    · split at h
      · split at h
        · have h1 := lexT_len_aux f _ _ _ h
          have h2 : ((c :: r).dropWhile (· != 10)).length ≤ (c :: r).length := by
            have e : (c :: r).takeWhile (· != 10) ++ (c :: r).dropWhile (· != 10) = c :: r := List.takeWhile_append_dropWhile
            have := congrArg List.length e
            rw [List.length_append] at this
            omega
          omega
        · simp at h; subst h; simp
      · cases ht : tokP (c :: r) with
        | none => rw [ht] at h; simp at h
        | some x =>
          obtain ⟨t, n⟩ := x
          rw [ht] at h
          simp only at h
          have hn := tokP_le ht
          simp only at hn
          cases hr : toksP f (k + n) ((c :: r).drop n) with
          | error j => rw [hr] at h; simp [Except.map] at h
          | ok ts' =>
            rw [hr] at h
            simp [Except.map] at h
            subst h
            have := lexT_len_aux f _ _ _ hr
            rw [List.length_drop] at this
            simp only [List.length_cons] at this hn ⊢
            omega
theorem lexT_len {l : List UInt8} {ts : List (Tk × Nat)} (h : lexT l = .ok ts) : ts.length ≤ l.length := lexT_len_aux _ _ _ _ h

theorem tokens_reads (s : ByteArray) (w : World) (hw : LexW w) :
    Calls Tryz.prog 14 #[.string s] w fun e w' => LexR s.data.toList w e w' := by
  refine (tokens_calls s w hw).mono ?_
  rintro e w' ⟨hb, he⟩
  refine ⟨hb, ?_⟩
  by_cases h : 16384 < s.data.toList.length
  · rw [if_pos h] at he ⊢
    exact he
  · rw [if_neg h] at he ⊢
    cases hl : lexT s.data.toList with
    | ok ts =>
      rw [hl] at he
      obtain ⟨A, m, c, rfl, hm, ho⟩ := he
      have := lexT_len hl
      exact ⟨A, m, c, rfl, TokSl.of_own hm (by omega) ho⟩
    | error k =>
      rw [hl] at he
      exact he
end Go.Proofs.YtcefmhofidoloaaGreatDoor.Lex

/- works. -/
set_option linter.unusedVariables false
set_option linter.unusedSimpArgs false
namespace Go.Proofs.YtcefmhofidoloaaGreatDoor.Lex
open Go.RowKit Go.Proofs.YtcefmhofidoloaaGreatDoor.Base Go.Proofs.YtcefmhofidoloaaGreatDoor.App Go.Proofs.YtcefmhofidoloaaGreatDoor.Byt

theorem tok_in (d : Nat) (w : World) (x0 y0 x2 y2 x3 y3 : Int) (x1 y1 : ByteArray) :
    (Op.equalIn (d + 2) 52 (.agg #[.int .i64 x0, .string x1, .int .i64 x2, .int .i64 x3]) (.agg #[.int .i64 y0, .string y1, .int .i64 y2, .int .i64 y3])).run Tryz.prog w = .ok (x0 == y0 && (x1.toList == y1.toList && (x2 == y2 && (x3 == y3)))) w := by
  refine Eqs.s_of Tryz.underlying52 (by kernel_rfl) ?_
  refine Eqs.f_cons (by rfl) (by go_simp; rfl) (by go_simp; rfl) (by go_simp) ?_
  refine Eqs.f_cons (by rfl) (by go_simp; rfl) (by go_simp; rfl) (by go_simp) ?_
  refine Eqs.f_cons (by rfl) (by go_simp; rfl) (by go_simp; rfl) (by go_simp) ?_
  exact Eqs.f_last (by rfl) (by go_simp; rfl) (by go_simp; rfl) (by go_simp)
theorem tok_neq (w : World) (x0 y0 x2 y2 x3 y3 : Int) (x1 y1 : ByteArray) :
    (binOp .neq 52 (.agg #[.int .i64 x0, .string x1, .int .i64 x2, .int .i64 x3]) (.agg #[.int .i64 y0, .string y1, .int .i64 y2, .int .i64 y3])).run Tryz.prog w = .ok (.bool (!(x0 == y0 && (x1.toList == y1.toList && (x2 == y2 && (x3 == y3)))))) w := Eqs.op_neq fun d => tok_in d w x0 y0 x2 y2 x3 y3 x1 y1
theorem tok_eql (w : World) (x0 y0 x2 y2 x3 y3 : Int) (x1 y1 : ByteArray) :
    (binOp .eql 52 (.agg #[.int .i64 x0, .string x1, .int .i64 x2, .int .i64 x3]) (.agg #[.int .i64 y0, .string y1, .int .i64 y2, .int .i64 y3])).run Tryz.prog w = .ok (.bool (x0 == y0 && (x1.toList == y1.toList && (x2 == y2 && (x3 == y3))))) w := Eqs.op_eql fun d => tok_in d w x0 y0 x2 y2 x3 y3 x1 y1
theorem flt_in (d : Nat) (w : World) (x0 y0 x1 y1 : Int) :
    (Op.equalIn (d + 2) 35 (.agg #[.int .i64 x0, .int .i64 x1]) (.agg #[.int .i64 y0, .int .i64 y1])).run Tryz.prog w = .ok (x0 == y0 && (x1 == y1)) w := by
  refine Eqs.s_of Tryz.underlying35 (by kernel_rfl) ?_
  refine Eqs.f_cons (by rfl) (by go_simp; rfl) (by go_simp; rfl) (by go_simp) ?_
  exact Eqs.f_last (by rfl) (by go_simp; rfl) (by go_simp; rfl) (by go_simp)
theorem flt_eql (w : World) (x0 y0 x1 y1 : Int) :
    (binOp .eql 35 (.agg #[.int .i64 x0, .int .i64 x1]) (.agg #[.int .i64 y0, .int .i64 y1])).run Tryz.prog w = .ok (.bool (x0 == y0 && (x1 == y1))) w := Eqs.op_eql fun d => flt_in d w x0 y0 x1 y1

def wordsA : List UInt8 := [83, 69, 76, 69, 67, 84, 32, 97, 49, 44, 32, 39, 105, 116, 39, 39, 115, 39, 32, 45, 45, 32, 120]
def wordsB : List UInt8 := [57, 50, 50, 51, 51, 55, 50, 48, 51, 54, 56, 53, 52, 55, 55, 53, 56, 48, 56]
set_option maxRecDepth 100000 in
theorem lex_wordsA : lexT wordsA = .ok [(⟨1, [115, 101, 108, 101, 99, 116], 0⟩, 0), (⟨1, [97, 49], 0⟩, 7), (⟨5, [44], 0⟩, 9), (⟨3, [105, 116, 39, 115], 0⟩, 11)] := by kernel_rfl
set_option maxRecDepth 100000 in
theorem lex_wordsB : lexT wordsB = .error 0 := by kernel_rfl

set_option maxRecDepth 100000 in
set_option maxHeartbeats 3200000 in
theorem works_calls (w : World) (hw : LexW w) (hg : EtyW w) :
    Calls Tryz.prog 18 #[] w fun e w' => e = .returned (.bool true) ∧ Below w.heap.size w w' := by
  have HW := Asd.mk hw
  have HG := Asd.mk hg
  clear hw hg
  go_enter Tryz.func18, Tryz.ntmps18
  go_wp2_with fail
  refine (tokens_reads ⟨#[83, 69, 76, 69, 67, 84, 32, 97, 49, 44, 32, 39, 105, 116, 39, 39, 115, 39, 32, 45, 45, 32, 120]⟩ _ HW.out).mono ?_
  rintro e w1 ⟨hb1, he⟩
  rw [if_neg (by decide), show (⟨#[83, 69, 76, 69, 67, 84, 32, 97, 49, 44, 32, 39, 105, 116, 39, 39, 115, 39, 32, 45, 45, 32, 120]⟩ : ByteArray).data.toList = wordsA from rfl, lex_wordsA] at he
  obtain ⟨A, m, c, rfl, ht⟩ := he
  obtain rfl : m = 4 := ht.1
  obtain ⟨g, rfl, hc⟩ := ht.2.2 (by omega)
  have HC0 := Asd.mk (hc 0 (by simp))
  have HC3 := Asd.mk (hc 3 (by simp))
  have HB1 := Asd.mk hb1
  have HW1 := Asd.mk (HW.out.below hb1)
  clear hb1 ht hc
  go_wp2_with fail
  refine (tokens_reads ⟨#[57, 50, 50, 51, 51, 55, 50, 48, 51, 54, 56, 53, 52, 55, 55, 53, 56, 48, 56]⟩ _ HW1.out).mono ?_
  rintro e w2 ⟨hb2, he⟩
  rw [if_neg (by decide), show (⟨#[57, 50, 50, 51, 51, 55, 50, 48, 51, 54, 56, 53, 52, 55, 55, 53, 56, 48, 56]⟩ : ByteArray).data.toList = wordsB from rfl, lex_wordsB] at he
  obtain ⟨N, rfl, _, hN⟩ := he
  have HN := Asd.mk hN
  have HB2 : Asd (Below w.heap.size w w2) := Asd.mk (HB1.out.trans (hb2.mono HB1.out.size))
  have HW2 := Asd.mk (HW.out.below HB2.out)
  have HG2 := Asd.mk (HG.out.below HB2.out)
  obtain ⟨_, p1, _, _⟩ := HC0.out
  obtain ⟨q0, q1, q2, q3⟩ := HC3.out
  have x1 := (hb2.cell (World.block_lt_of_cell? w1 _ p1)).trans p1
  have y0 := (hb2.cell (World.block_lt_of_cell? w1 _ q0)).trans q0
  have y1 := (hb2.cell (World.block_lt_of_cell? w1 _ q1)).trans q1
  have y2 := (hb2.cell (World.block_lt_of_cell? w1 _ q2)).trans q2
  have y3 := (hb2.cell (World.block_lt_of_cell? w1 _ q3)).trans q3
  simp only [List.getElem_cons_zero, List.getElem_cons_succ, Nat.zero_mul, Nat.zero_add, Nat.reduceMul, Nat.reduceAdd] at x1 y0 y1 y2 y3
  clear p1 q0 q1 q2 q3 hb2 hN
  have te : ∀ w, (binOp .eql 52 (.agg #[.int .i64 3, .string ⟨#[105, 116, 39, 115]⟩, .int .i64 11, .int .i64 0]) (.agg #[.int .i64 3, .string ⟨#[105, 116, 39, 115]⟩, .int .i64 11, .int .i64 0])).run Tryz.prog w = .ok (.bool true) w := fun w => by rw [tok_eql]; simp
  have fe : ∀ w, (binOp .eql 35 (.agg #[.int .i64 0, .int .i64 20]) (.agg #[.int .i64 0, .int .i64 20])).run Tryz.prog w = .ok (.bool true) w := fun w => by rw [flt_eql]; simp
  go_wp2_with fail
  refine (seen_fault N 0 20 w2 HG2.out HN.out).mono ?_
  rintro e w3 ⟨rfl, hb3⟩
  have HB3 : Asd (Below w.heap.size w w3) := Asd.mk (HB2.out.trans (hb3.mono HB2.out.size))
  have HW3 := Asd.mk (HW.out.below HB3.out)
  clear hb3
  go_wp2_with fail
  refine (keyword_calls ⟨#[102, 114, 111, 109]⟩ _ (by decide) HW3.out.shaped).mono ?_
  rintro e w4 ⟨rfl, rfl⟩
  have HK : Asd (kwList.contains (⟨#[102, 114, 111, 109]⟩ : ByteArray).toList = true) := Asd.mk (by rw [Lib.toList_data]; decide)
  rw [HK.out]
  go_wp2
  go_ret
  exact ⟨ret_eq rfl, HB3.out⟩
end Go.Proofs.YtcefmhofidoloaaGreatDoor.Lex

/- Decimal digits: what they say, and that the numeral of a number says that number: plain laws. -/
set_option linter.unusedVariables false
set_option linter.unusedSimpArgs false
namespace Go.Proofs.YtcefmhofidoloaaGreatDoor.Lex
open Go.RowKit Go.Proofs.YtcefmhofidoloaaGreatDoor.Base

/-- What digits say. -/
def dStep (a : Nat) (c : UInt8) : Nat := a * 10 + (c.toNat - 48)
theorem dStep_eq (a : Nat) (c : UInt8) : dStep a c = a * 10 + (c.toNat - 48) := by unfold dStep; exact Eq.refl _
attribute [irreducible] dStep
def decV : Nat → List UInt8 → Nat
  | a, [] => a
  | a, c :: l => decV (dStep a c) l
theorem decV_cons0 (a : Nat) (c : UInt8) (l : List UInt8) : decV a (c :: l) = decV (dStep a c) l := by rw [decV]
theorem decV_cons (a : Nat) (c : UInt8) (l : List UInt8) : decV a (c :: l) = decV (a * 10 + (c.toNat - 48)) l := by rw [decV_cons0, dStep_eq]
theorem decV_append (m : List UInt8) : ∀ (l : List UInt8) (a : Nat), decV a (l ++ m) = decV (decV a l) m
  | [], a => by simp [decV]
  | c :: l, a => by rw [List.cons_append, decV_cons, decV_cons, decV_append m l]
theorem decV_ge : ∀ (l : List UInt8) (a : Nat), a ≤ decV a l
  | [], a => by rw [decV]; exact Nat.le_refl _
  | c :: l, a => by
    rw [decV_cons]
    have := decV_ge l (a * 10 + (c.toNat - 48))
    omega
theorem isDig_iff (c : UInt8) : isDig c = true ↔ 48 ≤ c.toNat ∧ c.toNat ≤ 57 := by simp [isDig, digN]
theorem parseM_ok (M : Nat) (hM : M < 18446744073709551616) : ∀ (l : List UInt8) (a : Nat), (∀ c ∈ l, isDig c = true) → decV a l ≤ M → Lib.parseUintM M a l = .ok (decV a l)
  | [], a, _, _ => by rw [decV, Lib.parseUintM]
  | c :: l, a, hd, h => by
    have hc := (isDig_iff c).mp (hd c (by simp))
    rw [decV_cons] at h ⊢
    have hg := decV_ge l (a * 10 + (c.toNat - 48))
    rw [Lib.parseUintM, if_pos hc, if_neg (by omega), if_neg (by omega)]
    exact parseM_ok M hM l _ (fun d hd' => hd d (by simp [hd'])) h
theorem parseM_big (M : Nat) : ∀ (l : List UInt8) (a : Nat), a ≤ M → (∀ c ∈ l, isDig c = true) → M < decV a l → ∀ v, Lib.parseUintM M a l ≠ .ok v
  | [], a, ha, _, h, v => by rw [decV] at h; omega
  | c :: l, a, ha, hd, h, v => by
    have hc := (isDig_iff c).mp (hd c (by simp))
    rw [decV_cons] at h
    rw [Lib.parseUintM, if_pos hc]
    split
    · intro e; cases e
    · split
      · intro e; cases e
      · exact parseM_big M l _ (by omega) (fun d hd' => hd d (by simp [hd'])) h v
/-- What digits are read as. -/
theorem numP_digits {l : List UInt8} (hl : l ≠ []) (hd : ∀ c ∈ l, isDig c = true) : numP l = if decV 0 l < 9223372036854775808 then some (decV 0 l : Int) else none := by
  match l, hl with
  | c :: r, _ =>
    have hc := (isDig_iff c).mp (hd c (by simp))
    have e : Lib.parseUintB 64 (c :: r) = Lib.parseUintM 18446744073709551615 0 (c :: r) := by
      unfold Lib.parseUintB
      rw [if_neg (by simp)]
    have h43 : ¬ (c.toNat = 43 ∨ c.toNat = 45) := by omega
    have h45 : ¬ c.toNat = 45 := by omega
    by_cases hb : decV 0 (c :: r) ≤ 18446744073709551615
    · have e2 := parseM_ok 18446744073709551615 (by decide) (c :: r) 0 hd hb
      unfold numP Lib.parseIntB
      simp only [if_neg h43, e, e2]
      by_cases h63 : decV 0 (c :: r) < 9223372036854775808
      · rw [if_neg (by intro h; have := h.2; omega), if_neg (by intro h; exact h45 h.1), if_neg h45, if_pos h63]
      · rw [if_pos ⟨h45, by omega⟩, if_neg h63]
    · have e2 := parseM_big 18446744073709551615 (c :: r) 0 (by decide) hd (by omega)
      rw [if_neg (by omega)]
      unfold numP Lib.parseIntB
      simp only [if_neg h43, e]
      cases hx : Lib.parseUintM 18446744073709551615 0 (c :: r) with
      | ok v => exact absurd hx (e2 v)
      | _ => rfl
theorem decDigits_dig : ∀ (u : Nat), ∀ c ∈ Lib.decDigits u, isDig c = true := by
  intro u
  induction u using Nat.strongRecOn with
  | ind u ih =>
    intro c hc
    rw [Lib.decDigits] at hc
    split at hc
    · rename_i h
      simp only [List.mem_singleton] at hc
      subst hc
      rw [isDig_iff]
      simp; omega
    · rename_i h
      rcases List.mem_append.mp hc with hc | hc
      · exact ih (u / 10) (by omega) c hc
      · simp only [List.mem_singleton] at hc
        subst hc
        rw [isDig_iff]
        simp; omega
theorem decDigits_ne (u : Nat) : Lib.decDigits u ≠ [] := by
  rw [Lib.decDigits]
  split <;> simp
theorem decV_digits : ∀ (u : Nat), decV 0 (Lib.decDigits u) = u := by
  intro u
  induction u using Nat.strongRecOn with
  | ind u ih =>
    rw [Lib.decDigits]
    split
    · rename_i h
      have e : (UInt8.ofNat (48 + u)).toNat = 48 + u := by rw [UInt8.toNat_ofNat']; omega
      rw [decV_cons, decV, e]; omega
    · rename_i h
      have e : (UInt8.ofNat (48 + u % 10)).toNat = 48 + u % 10 := by rw [UInt8.toNat_ofNat']; omega
      rw [decV_append, ih (u / 10) (by omega), decV_cons, decV, e]; omega
theorem numP_itoa {v : Int} (h0 : 0 ≤ v) (h1 : v ≤ 9223372036854775807) : numP (Lib.itoa v) = some v := by
  obtain ⟨u, rfl⟩ : ∃ u : Nat, v = u := ⟨v.toNat, by omega⟩
  rw [Lib.itoa_nonneg, numP_digits (decDigits_ne u) (decDigits_dig u), decV_digits, if_pos (by omega)]
end Go.Proofs.YtcefmhofidoloaaGreatDoor.Lex

/- The words of two texts with a line feed between: the plain law. -/
set_option linter.unusedVariables false
set_option linter.unusedSimpArgs false
namespace Go.Proofs.YtcefmhofidoloaaGreatDoor.Lex
open Go.RowKit Go.Proofs.YtcefmhofidoloaaGreatDoor.Base

theorem runP_ext (p : UInt8 → Bool) (h10 : p 10 = false) (b : List UInt8) : ∀ l, runP p (l ++ 10 :: b) = runP p l
  | [] => by simp [runP, h10]
  | c :: r => by
    simp only [List.cons_append, runP, runP_ext p h10 b r]
theorem take_ext (l b : List UInt8) (n : Nat) (h : n ≤ l.length) : (l ++ b).take n = l.take n := by
  rw [List.take_append_of_le_length h]
theorem textP_ext (b : List UInt8) : ∀ (n : Nat) (l : List UInt8), l.length ≤ n → ∀ x, textP l = some x → textP (l ++ 10 :: b) = some x
  | _, [], _, x, h => by rw [textP_nil] at h; cases h
  | 0, c :: r, hn, x, h => by simp at hn
  | n + 1, c :: r, hn, x, h => by
    simp only [List.length_cons] at hn
    by_cases hc : c = 39
    · subst hc
      match r, h, hn with
      | [], h, _ =>
        rw [textP_q0] at h
        injection h with h
        subst h
        exact textP_q1 (by decide) b
      | d :: r', h, hn =>
        simp only [List.length_cons] at hn
        by_cases hd : d = 39
        · subst hd
          rw [textP_q2] at h
          obtain ⟨y, hy, rfl⟩ := Option.map_eq_some_iff.mp h
          have := textP_ext b n r' (by omega) y hy
          simp only [List.cons_append]
          rw [textP_q2, this]
          rfl
        · rw [textP_q1 hd] at h
          injection h with h
          subst h
          exact textP_q1 hd _
    · rw [textP_c hc] at h
      obtain ⟨y, hy, rfl⟩ := Option.map_eq_some_iff.mp h
      have := textP_ext b n r (by omega) y hy
      simp only [List.cons_append]
      rw [textP_c hc, this]
      rfl
theorem takeW_ext {a : UInt8} (b : List UInt8) : ∀ l : List UInt8, a ∈ l → (l ++ b).takeWhile (· != a) = l.takeWhile (· != a) ∧ (l ++ b).dropWhile (· != a) = l.dropWhile (· != a) ++ b
  | [], h => by simp at h
  | c :: r, h => by
    simp only [List.cons_append, List.takeWhile_cons, List.dropWhile_cons]
    by_cases hc : c = a
    · subst hc; simp
    · have hm : a ∈ r := by
        rcases List.mem_cons.mp h with e | h
        · exact absurd e.symm hc
        · exact h
      have ih := takeW_ext b r hm
      have h1 : (c != a) = true := by simpa using hc
      rw [if_pos h1, if_pos h1, if_pos h1, if_pos h1, ih.1, ih.2]
      exact ⟨rfl, rfl⟩
theorem takeW_no {a : UInt8} (b : List UInt8) : ∀ l : List UInt8, ¬ a ∈ l → (l ++ a :: b).takeWhile (· != a) = l ∧ (l ++ a :: b).dropWhile (· != a) = a :: b
  | [], h => by simp
  | c :: r, h => by
    have hc : ¬ c = a := fun e => h (by simp [e])
    have hm : ¬ a ∈ r := fun e => h (by simp [e])
    have ih := takeW_no b r hm
    have h1 : (c != a) = true := by simpa using hc
    simp only [List.cons_append, List.takeWhile_cons, List.dropWhile_cons]
    rw [if_pos h1, if_pos h1, ih.1, ih.2]
    exact ⟨rfl, rfl⟩
theorem blobP_ext (b : List UInt8) {l : List UInt8} {x : List UInt8 × Nat} (h : blobP l = some x) : blobP (l ++ 10 :: b) = some x := by
  unfold blobP at h ⊢
  by_cases hm : 39 ∈ l
  · rw [if_pos hm] at h
    rw [if_pos (by simp [hm]), (takeW_ext (10 :: b) l hm).1]
    exact h
  · rw [if_neg hm] at h; cases h
theorem symP_ext (b : List UInt8) {l : List UInt8} (h : symP l ≠ 0) : symP (l ++ 10 :: b) = symP l := by
  match l with
  | [] => simp [symP] at h
  | [c] =>
    show symP (c :: 10 :: b) = symP [c]
    have e1 : symP (c :: 10 :: b) = if c ∈ [40, 41, 44, 46, 42, 61, 60, 62, 43, 45, 47, 37, 59] then 1 else 0 := by rw [symP, if_neg (by simp)]
    have e2 : symP [c] = if c ∈ [40, 41, 44, 46, 42, 61, 60, 62, 43, 45, 47, 37, 59] then 1 else 0 := by rw [symP, if_neg (by simp)]
    rw [e1, e2]
  | c :: d :: r => rfl
theorem tokP_ext (b : List UInt8) {l : List UInt8} {x : Tk × Nat} (h : tokP l = some x) : tokP (l ++ 10 :: b) = some x := by
  match l, h with
  | c :: r, h =>
    have hhead : r.head? = some 39 → (r ++ 10 :: b).head? = some 39 := fun h => by
      cases r with
      | nil => cases h
      | cons d r => exact h
    have hhead2 : (r ++ 10 :: b).head? = some 39 → r.head? = some 39 := fun h => by
      cases r with
      | nil => simp at h
      | cons d r => exact h
    by_cases h1 : (c = 120 ∨ c = 88) ∧ r.head? = some 39
    · rw [tokP_blob h1.1 h1.2] at h
      rw [List.cons_append, tokP_blob h1.1 (hhead h1.2)]
      obtain ⟨y, hy, rfl⟩ := Option.map_eq_some_iff.mp h
      have : (r ++ 10 :: b).tail = r.tail ++ 10 :: b := by
        cases r with
        | nil => simp at h1
        | cons d r => rfl
      rw [this, blobP_ext b hy]
      rfl
    · have h1' : ¬ ((c = 120 ∨ c = 88) ∧ (r ++ 10 :: b).head? = some 39) := fun h => h1 ⟨h.1, hhead2 h.2⟩
      cases hl : isLet c with
      | true =>
        rw [tokP_word h1 hl] at h
        rw [List.cons_append, tokP_word h1' hl, ← List.cons_append, runP_ext isWrd (by decide), take_ext _ _ _ (runP_le _ _)]
        exact h
      | false =>
        cases hd : isDig c with
        | true =>
          rw [tokP_num h1 hl hd] at h
          rw [List.cons_append, tokP_num h1' hl hd, ← List.cons_append, runP_ext isDig (by decide), take_ext _ _ _ (runP_le _ _)]
          exact h
        | false =>
          by_cases hq : c = 39
          · subst hq
            rw [tokP_text] at h
            rw [List.cons_append, tokP_text]
            obtain ⟨y, hy, rfl⟩ := Option.map_eq_some_iff.mp h
            rw [textP_ext b _ r (Nat.le_refl _) y hy]
            rfl
          · rw [tokP_sym h1 hl hd hq] at h
            rw [List.cons_append, tokP_sym h1' hl hd hq, ← List.cons_append]
            by_cases h0 : symP (c :: r) = 0
            · rw [if_pos h0] at h; cases h
            · rw [if_neg h0] at h
              rw [symP_ext b h0, if_neg h0, take_ext _ _ _ (symP_le _)]
              exact h

/-- Enough fuel is enough. -/
theorem toks_fuel : ∀ (f g k : Nat) (s : List UInt8), s.length ≤ f → s.length ≤ g → toksP f k s = toksP g k s
  | 0, 0, k, s, _, _ => rfl
  | 0, g + 1, k, s, h, _ => by
    have : s = [] := List.length_eq_zero_iff.mp (by omega)
    subst this
    simp [toksP]
  | f + 1, 0, k, s, _, h => by
    have : s = [] := List.length_eq_zero_iff.mp (by omega)
    subst this
    simp [toksP]
  | f + 1, g + 1, k, [], _, _ => by simp [toksP]
  | f + 1, g + 1, k, c :: r, hf, hg => by
    simp only [List.length_cons] at hf hg
    rw [toksP, toksP]
    try simp only
    split
    · exact toks_fuel f g _ _ (by omega) (by omega)
    · split
      · rename_i hc
        split
        · have h2 : ((c :: r).dropWhile (· != 10)).length ≤ r.length := by
            rw [List.dropWhile_cons, hc.1, if_pos (by decide)]
            have e : r.takeWhile (· != 10) ++ r.dropWhile (· != 10) = r := List.takeWhile_append_dropWhile
            have := congrArg List.length e
            rw [List.length_append] at this
            omega
          exact toks_fuel f g _ _ (by omega) (by omega)
        · rfl
      · cases ht : tokP (c :: r) with
        | none => rfl
        | some x =>
          obtain ⟨t, n⟩ := x
          have hn := tokP_le ht
          simp only [List.length_cons] at hn
          simp only
          rw [toks_fuel f g _ _ (by rw [List.length_drop]; simp only [List.length_cons]; omega) (by rw [List.length_drop]; simp only [List.length_cons]; omega)]
def shT (d : Nat) (l : List (Tk × Nat)) : List (Tk × Nat) := l.map fun x => (x.1, x.2 + d)
def shE (d : Nat) (x : Except Nat (List (Tk × Nat))) : Except Nat (List (Tk × Nat)) := match x with | .ok r => .ok (shT d r) | .error k => .error (k + d)
/-- Places are told from where the text begins. -/
theorem toks_shift (d : Nat) : ∀ (f k : Nat) (s : List UInt8), toksP f (k + d) s = shE d (toksP f k s)
  | 0, k, s => by simp [toksP, shE, shT]
  | f + 1, k, [] => by simp [toksP, shE, shT]
  | f + 1, k, c :: r => by
    rw [toksP, toksP]
    try simp only
    split
    · rw [show k + d + 1 = k + 1 + d by omega]
      exact toks_shift d f _ _
    · split
      · split
        · rw [show ∀ j, k + d + j = k + j + d from fun j => by omega]
          exact toks_shift d f _ _
        · simp [shE, shT]
      · cases ht : tokP (c :: r) with
        | none => rfl
        | some x =>
          obtain ⟨t, n⟩ := x
          simp only
          rw [show k + d + n = k + n + d by omega, toks_shift d f _ _]
          cases toksP f (k + n) ((c :: r).drop n) <;> simp [shE, shT, Except.map]
/-- The words of two texts with a line feed between. -/
theorem toks_cat (b : List UInt8) : ∀ (f g k : Nat) (s : List UInt8) (ts : List (Tk × Nat)), s.length ≤ f → s.length + 1 + b.length ≤ g → toksP f k s = .ok ts →
    toksP g k (s ++ 10 :: b) = addT ts (toksP b.length (k + s.length + 1) b)
  | f, g, k, [], ts, _, hg, h => by
    have hts : ts = [] := by cases f <;> simp [toksP] at h <;> first | exact h | exact h.symm
    subst hts
    cases g with
    | zero => simp at hg
    | succ g =>
      simp only [List.length_nil] at hg
      rw [List.nil_append, toksP]
      try simp only
      rw [if_pos (by decide), toks_fuel g b.length _ _ (by omega) (Nat.le_refl _)]
      simp only [List.length_nil, Nat.add_zero]
      cases toksP b.length (k + 1) b <;> simp [addT]
  | 0, g, k, c :: r, ts, hf, _, _ => by simp at hf
  | f + 1, 0, k, c :: r, ts, _, hg, _ => by simp at hg
  | f + 1, g + 1, k, c :: r, ts, hf, hg, h => by
    simp only [List.length_cons] at hf hg
    rw [toksP] at h
    rw [List.cons_append, toksP]
    try simp only at h
    try simp only
    by_cases h1 : c = 32 ∨ c = 9 ∨ c = 10 ∨ c = 13
    · rw [if_pos h1] at h ⊢
      rw [toks_cat b f g (k + 1) r ts (by omega) (by omega) h]
      simp only [List.length_cons]
      rw [show k + 1 + r.length + 1 = k + (r.length + 1) + 1 by omega]
    · rw [if_neg h1] at h ⊢
      by_cases h2 : c = 45 ∧ r.head? = some 45
      · have h2' : c = 45 ∧ (r ++ 10 :: b).head? = some 45 := ⟨h2.1, by
          cases r with
          | nil => simp at h2
          | cons d r => exact h2.2⟩
        rw [if_pos h2] at h
        rw [if_pos h2', if_pos (by simp), ← List.cons_append]
        by_cases hm : (10 : UInt8) ∈ c :: r
        · rw [if_pos hm] at h
          obtain ⟨e1, e2⟩ := takeW_ext (10 :: b) (c :: r) hm
          rw [e1, e2]
          have e : (c :: r).takeWhile (· != 10) ++ (c :: r).dropWhile (· != 10) = c :: r := List.takeWhile_append_dropWhile
          have el := congrArg List.length e
          rw [List.length_append] at el
          simp only [List.length_cons] at el
          have hpos : 1 ≤ ((c :: r).takeWhile (· != 10)).length := by
            rw [List.takeWhile_cons, h2.1, if_pos (by decide)]
            simp
          rw [toks_cat b f g _ _ ts (by omega) (by omega) h]
          simp only [List.length_cons]
          rw [show k + ((c :: r).takeWhile (· != 10)).length + ((c :: r).dropWhile (· != 10)).length + 1 = k + (r.length + 1) + 1 by omega]
        · rw [if_neg hm] at h
          injection h with h
          subst h
          obtain ⟨e1, e2⟩ := takeW_no b (c :: r) hm
          rw [e1, e2]
          cases g with
          | zero => omega
          | succ g =>
            rw [toksP]
            try simp only
            rw [if_pos (by decide), toks_fuel g b.length _ _ (by omega) (Nat.le_refl _)]
            cases toksP b.length (k + (c :: r).length + 1) b <;> simp [addT]
      · have h2' : ¬ (c = 45 ∧ (r ++ 10 :: b).head? = some 45) := fun hx => h2 ⟨hx.1, by
          cases r with
          | nil => simp at hx
          | cons d r => exact hx.2⟩
        rw [if_neg h2] at h
        rw [if_neg h2']
        cases ht : tokP (c :: r) with
        | none => rw [ht] at h; simp at h
        | some x =>
          obtain ⟨t, n⟩ := x
          rw [ht] at h
          simp only at h
          have hn := tokP_le ht
          simp only [List.length_cons] at hn
          rw [← List.cons_append, tokP_ext b ht]
          simp only
          have hd : ((c :: r) ++ 10 :: b).drop n = (c :: r).drop n ++ 10 :: b := by
            rw [List.drop_append_of_le_length (by simp only [List.length_cons]; omega)]
          rw [hd]
          cases hr : toksP f (k + n) ((c :: r).drop n) with
          | error j => rw [hr] at h; simp [Except.map] at h
          | ok ts' =>
            rw [hr] at h
            simp [Except.map] at h
            subst h
            have hdl : ((c :: r).drop n).length = r.length + 1 - n := by rw [List.length_drop]; simp
            rw [toks_cat b f g _ _ ts' (by omega) (by omega) hr]
            rw [show k + n + ((c :: r).drop n).length + 1 = k + (c :: r).length + 1 by rw [hdl]; simp only [List.length_cons]; omega]
            cases toksP b.length (k + (c :: r).length + 1) b <;> simp [addT, Except.map]
theorem lexT_cat {a b : List UInt8} {xs ys : List (Tk × Nat)} (ha : lexT a = .ok xs) (hb : lexT b = .ok ys) : lexT (a ++ 10 :: b) = .ok (xs ++ shT (a.length + 1) ys) := by
  unfold lexT at ha hb ⊢
  rw [toks_cat b a.length _ 0 a xs (Nat.le_refl _) (by simp; omega) ha]
  rw [show 0 + a.length + 1 = 0 + (a.length + 1) by omega, toks_shift, hb]
  rfl
end Go.Proofs.YtcefmhofidoloaaGreatDoor.Lex

/- What a word is written as is read as that word: plain laws. -/
set_option linter.unusedVariables false
set_option linter.unusedSimpArgs false
namespace Go.Proofs.YtcefmhofidoloaaGreatDoor.Lex
open Go.RowKit Go.Proofs.YtcefmhofidoloaaGreatDoor.Base

/-- What may stand behind a word. -/
def Sep (r : List UInt8) : Prop := r = [] ∨ ∃ c q, r = c :: q ∧ (c = 32 ∨ c = 40 ∨ c = 41 ∨ c = 44 ∨ c = 46)
theorem Sep.mk' {c : UInt8} (h : c = 32 ∨ c = 40 ∨ c = 41 ∨ c = 44 ∨ c = 46) (q : List UInt8) : Sep (c :: q) := .inr ⟨c, q, rfl, h⟩
theorem Sep.head {r : List UInt8} (h : Sep r) {d : UInt8} (hd : r.head? = some d) : d = 32 ∨ d = 40 ∨ d = 41 ∨ d = 44 ∨ d = 46 := by
  rcases h with rfl | ⟨c, q, rfl, h⟩
  · cases hd
  · simp only [List.head?_cons, Option.some.injEq] at hd
    subst hd
    exact h
theorem Sep.run {r : List UInt8} (h : Sep r) (p : UInt8 → Bool) (hp : p 32 = false ∧ p 40 = false ∧ p 41 = false ∧ p 44 = false ∧ p 46 = false) : runP p r = 0 := by
  rcases h with rfl | ⟨c, q, rfl, h⟩
  · rfl
  · rw [runP]
    rcases h with rfl | rfl | rfl | rfl | rfl
    · simp [hp.1]
    · simp [hp.2.1]
    · simp [hp.2.2.1]
    · simp [hp.2.2.2.1]
    · simp [hp.2.2.2.2]
theorem runP_app (p : UInt8 → Bool) {r : List UInt8} (hr : runP p r = 0) : ∀ l : List UInt8, (∀ c ∈ l, p c = true) → runP p (l ++ r) = l.length
  | [], _ => hr
  | c :: l, h => by
    rw [List.cons_append, runP, if_pos (h c (by simp)), runP_app p hr l (fun d hd => h d (by simp [hd]))]
    rfl
theorem wrd_ne {c : UInt8} (h : isWrd c = true) : c ≠ 39 := by rintro rfl; revert h; decide
theorem dig_ne {c : UInt8} (h : isDig c = true) : c ≠ 39 := by rintro rfl; revert h; decide
theorem tok_wrd {c : UInt8} {u r : List UInt8} (h0 : isLet c = true) (hall : ∀ d ∈ c :: u, isWrd d = true) (hr : Sep r) : tokP ((c :: u) ++ r) = some (⟨1, (c :: u).map lowB, 0⟩, (c :: u).length) := by
  have hx : ¬ ((c = 120 ∨ c = 88) ∧ (u ++ r).head? = some 39) := by
    rintro ⟨_, h⟩
    cases u with
    | nil => have := hr.head h; revert this; decide
    | cons d u =>
      simp only [List.cons_append, List.head?_cons, Option.some.injEq] at h
      exact wrd_ne (hall d (by simp)) h
  have hrun := runP_app isWrd (hr.run isWrd (by decide)) (c :: u) hall
  rw [List.cons_append, tokP_word hx h0, ← List.cons_append, hrun, List.take_left' rfl]
theorem dig_not {c : UInt8} (h : isDig c = true) : isLet c = false ∧ c ≠ 120 ∧ c ≠ 88 := by
  have := (isDig_iff c).mp h
  refine ⟨?_, ?_, ?_⟩
  · simp [isLet, letN]; omega
  · rintro rfl; revert h; decide
  · rintro rfl; revert h; decide
theorem tok_dig {u r : List UInt8} (hu : u ≠ []) (hall : ∀ d ∈ u, isDig d = true) (hr : Sep r) {v : Int} (hv : numP u = some v) : tokP (u ++ r) = some (⟨2, [], v⟩, u.length) := by
  match u, hu with
  | c :: u, _ =>
    obtain ⟨h1, h2, h3⟩ := dig_not (hall c (by simp))
    have hrun := runP_app isDig (hr.run isDig (by decide)) (c :: u) hall
    rw [List.cons_append, tokP_num (by rintro ⟨h | h, _⟩; exact h2 h; exact h3 h) h1 (hall c (by simp)), ← List.cons_append, hrun, List.take_left' rfl, hv]
    rfl
theorem quotes_read {r : List UInt8} (hr : Sep r) : ∀ x : List UInt8, textP (quotes x ++ 39 :: r) = some (x, (quotes x).length + 1)
  | [] => by
    show textP (39 :: r) = _
    cases r with
    | nil => rw [textP_q0]; rfl
    | cons d r =>
      rw [textP_q1 (by have := hr.head (d := d) rfl; rintro rfl; revert this; decide)]
      rfl
  | c :: x => by
    have ih := quotes_read hr x
    rw [quotes_cons]
    by_cases hc : c = 39
    · subst hc
      show textP (39 :: 39 :: (quotes x ++ 39 :: r)) = _
      rw [textP_q2, ih]
      simp [quote1]
    · have e : quote1 c = [c] := by simp [quote1, hc]
      rw [e]
      show textP (c :: (quotes x ++ 39 :: r)) = _
      rw [textP_c hc, ih]
      simp
theorem tok_txt (x : List UInt8) {r : List UInt8} (hr : Sep r) : tokP (litText x ++ r) = some (⟨3, x, 0⟩, (litText x).length) := by
  show tokP (39 :: ((quotes x ++ [39]) ++ r)) = _
  rw [tokP_text, List.append_assoc, List.singleton_append, quotes_read hr]
  simp [litText]
theorem hexB_val {n : Nat} (h : n < 16) : hexV (hexB n) = some n ∧ hexB n ≠ 39 := by
  have : ∀ m : Fin 16, hexV (hexB m.val) = some m.val ∧ hexB m.val ≠ 39 := by decide
  exact this ⟨n, h⟩
theorem unhex_hexs : ∀ x : List UInt8, unhex (hexs x) = some x
  | [] => rfl
  | c :: x => by
    have ih := unhex_hexs x
    have hc := c.toNat_lt
    show unhex (hexB (c.toNat / 16) :: hexB (c.toNat % 16) :: hexs x) = _
    rw [unhex_cons, ih, hexPair, (hexB_val (show c.toNat / 16 < 16 by omega)).1, (hexB_val (show c.toNat % 16 < 16 by omega)).1]
    simp only [Option.bind_some, Option.map_some]
    rw [show 16 * (c.toNat / 16) + c.toNat % 16 = c.toNat by omega]
    simp
theorem hexs_no : ∀ x : List UInt8, ¬ 39 ∈ hexs x
  | [] => by simp [hexs]
  | c :: x => by
    have ih := hexs_no x
    have hc := c.toNat_lt
    show ¬ 39 ∈ hexB (c.toNat / 16) :: hexB (c.toNat % 16) :: hexs x
    have h1 := (hexB_val (show c.toNat / 16 < 16 by omega)).2
    have h2 := (hexB_val (show c.toNat % 16 < 16 by omega)).2
    simp only [List.mem_cons, not_or]
    exact ⟨fun e => h1 e.symm, fun e => h2 e.symm, ih⟩
theorem tok_blb (x r : List UInt8) : tokP (litBlob x ++ r) = some (⟨4, x, 0⟩, (litBlob x).length) := by
  show tokP (88 :: 39 :: ((hexs x ++ [39]) ++ r)) = _
  rw [tokP_blob (.inr rfl) rfl]
  simp only [List.tail_cons]
  rw [List.append_assoc, List.singleton_append]
  have e := (takeW_no (a := 39) r (hexs x) (hexs_no x)).1
  have hb : blobP (hexs x ++ 39 :: r) = some (x, (hexs x).length + 2) := by
    unfold blobP
    rw [if_pos (by simp), e, unhex_hexs]
    rfl
  rw [hb]
  simp [litBlob]
theorem sym_not {c : UInt8} (h : c ∈ symBytes) : isLet c = false ∧ isDig c = false ∧ c ≠ 39 ∧ c ≠ 120 ∧ c ≠ 88 := by
  have : ∀ d ∈ symBytes, isLet d = false ∧ isDig d = false ∧ d ≠ 39 ∧ d ≠ 120 ∧ d ≠ 88 := by decide
  exact this c h
theorem tok_sym1 {c : UInt8} (h : c ∈ symBytes) {r : List UInt8} (hr : Sep r) : tokP (c :: r) = some (⟨5, [c], 0⟩, 1) := by
  obtain ⟨h1, h2, h3, h4, h5⟩ := sym_not h
  have hs : symP (c :: r) = 1 := by
    rw [symP, if_neg, if_pos (by exact h)]
    rintro (h | h | h | h)
    · have := hr.head h.2; revert this; decide
    · have := hr.head h.2; revert this; decide
    · have := hr.head h.2; revert this; decide
    · have := hr.head h.2; revert this; decide
  rw [tokP_sym (by rintro ⟨h | h, _⟩; exact h4 h; exact h5 h) h1 h2 h3, hs]
  rfl
theorem tok_sym2 {a b : UInt8} (h : (a, b) ∈ [((60 : UInt8), (62 : UInt8)), (60, 61), (62, 61), (124, 124)]) (r : List UInt8) : tokP (a :: b :: r) = some (⟨5, [a, b], 0⟩, 2) := by
  have hs : symP (a :: b :: r) = 2 := by
    simp only [List.mem_cons, List.not_mem_nil, or_false, Prod.mk.injEq] at h
    rw [symP, if_pos]
    simp only [List.head?_cons, Option.some.injEq]
    exact h
  have hn : isLet a = false ∧ isDig a = false ∧ a ≠ 39 ∧ a ≠ 120 ∧ a ≠ 88 := by
    have : ∀ x ∈ [((60 : UInt8), (62 : UInt8)), (60, 61), (62, 61), (124, 124)], isLet x.1 = false ∧ isDig x.1 = false ∧ x.1 ≠ 39 ∧ x.1 ≠ 120 ∧ x.1 ≠ 88 := by decide
    exact this _ h
  rw [tokP_sym (by rintro ⟨h | h, _⟩; exact hn.2.2.2.1 h; exact hn.2.2.2.2 h) hn.1 hn.2.1 hn.2.2.1, hs]
  rfl

/-- How a word is written. -/
def prT (t : Tk) : List UInt8 := if t.kind = 1 ∨ t.kind = 5 then t.text else if t.kind = 2 then Lib.itoa t.num else if t.kind = 3 then litText t.text else if t.kind = 4 then litBlob t.text else []
/-- A word that is read as itself from what it is written as. -/
structure GoodT (t : Tk) : Prop where
  again : ∀ r, Sep r → tokP (prT t ++ r) = some (t, (prT t).length)
  first : ∃ c u, prT t = c :: u ∧ ¬ (c = 32 ∨ c = 9 ∨ c = 10 ∨ c = 13) ∧ ∀ r, Sep r → ¬ (c = 45 ∧ (u ++ r).head? = some 45)
  num : 0 ≤ t.num ∧ t.num ≤ 9223372036854775807
set_option maxRecDepth 100000 in
theorem low_wrd {c : UInt8} (h : isWrd c = true) : isWrd (lowB c) = true ∧ lowB (lowB c) = lowB c := by
  have : ∀ m : Fin 256, isWrd (UInt8.ofNat m.val) = true → isWrd (lowB (UInt8.ofNat m.val)) = true ∧ lowB (lowB (UInt8.ofNat m.val)) = lowB (UInt8.ofNat m.val) := by decide
  have h2 := this ⟨c.toNat, c.toNat_lt⟩
  simp only [UInt8.ofNat_toNat] at h2
  exact h2 h
set_option maxRecDepth 100000 in
theorem low_let {c : UInt8} (h : isLet c = true) : isLet (lowB c) = true := by
  have : ∀ m : Fin 256, isLet (UInt8.ofNat m.val) = true → isLet (lowB (UInt8.ofNat m.val)) = true := by decide
  have h2 := this ⟨c.toNat, c.toNat_lt⟩
  simp only [UInt8.ofNat_toNat] at h2
  exact h2 h
theorem let_not {c : UInt8} (h : isLet c = true) : ¬ (c = 32 ∨ c = 9 ∨ c = 10 ∨ c = 13) ∧ c ≠ 45 := by
  constructor
  · rintro (rfl | rfl | rfl | rfl) <;> revert h <;> decide
  · rintro rfl; revert h; decide
theorem dig_blank {c : UInt8} (h : isDig c = true) : ¬ (c = 32 ∨ c = 9 ∨ c = 10 ∨ c = 13) ∧ c ≠ 45 := by
  constructor
  · rintro (rfl | rfl | rfl | rfl) <;> revert h <;> decide
  · rintro rfl; revert h; decide
theorem good_word {c : UInt8} {u : List UInt8} (h0 : isLet c = true) (hall : ∀ d ∈ c :: u, isWrd d = true) (hlow : (c :: u).map lowB = c :: u) : GoodT ⟨1, c :: u, 0⟩ := by
  have e : prT ⟨1, c :: u, 0⟩ = c :: u := by simp [prT]
  refine ⟨fun r hr => ?_, ⟨c, u, e, (let_not h0).1, fun r _ h => (let_not h0).2 h.1⟩, by simp⟩
  rw [e, tok_wrd h0 hall hr, hlow]
theorem good_num {v : Int} (h0 : 0 ≤ v) (h1 : v ≤ 9223372036854775807) : GoodT ⟨2, [], v⟩ := by
  obtain ⟨n, rfl⟩ : ∃ n : Nat, v = n := ⟨v.toNat, by omega⟩
  have e : prT ⟨2, [], (n : Int)⟩ = Lib.decDigits n := by simp [prT, Lib.itoa_nonneg]
  have hn := numP_itoa h0 h1
  rw [Lib.itoa_nonneg] at hn
  refine ⟨fun r hr => ?_, ?_, ⟨h0, h1⟩⟩
  · rw [e]; exact tok_dig (decDigits_ne n) (decDigits_dig n) hr hn
  · rw [e]
    have hne := decDigits_ne n
    have hd := decDigits_dig n
    generalize Lib.decDigits n = l at hne hd
    match l, hne with
    | c :: u, _ => exact ⟨c, u, rfl, (dig_blank (hd c (by simp))).1, fun r _ h => (dig_blank (hd c (by simp))).2 h.1⟩
theorem good_text (x : List UInt8) : GoodT ⟨3, x, 0⟩ := by
  have e : prT ⟨3, x, 0⟩ = litText x := by simp [prT]
  refine ⟨fun r hr => ?_, ⟨39, quotes x ++ [39], e, by decide, fun r _ h => absurd h.1 (by decide)⟩, by simp⟩
  rw [e]; exact tok_txt x hr
theorem good_blob (x : List UInt8) : GoodT ⟨4, x, 0⟩ := by
  have e : prT ⟨4, x, 0⟩ = litBlob x := by simp [prT]
  refine ⟨fun r hr => ?_, ⟨88, 39 :: (hexs x ++ [39]), e, by decide, fun r _ h => absurd h.1 (by decide)⟩, by simp⟩
  rw [e]; exact tok_blb x r
theorem good_sym1 {c : UInt8} (h : c ∈ symBytes) : GoodT ⟨5, [c], 0⟩ := by
  have e : prT ⟨5, [c], 0⟩ = [c] := by simp [prT]
  refine ⟨fun r hr => ?_, ⟨c, [], e, ?_, fun r hr h => ?_⟩, by simp⟩
  · rw [e]; exact tok_sym1 h hr
  · have : ∀ d ∈ symBytes, ¬ (d = 32 ∨ d = 9 ∨ d = 10 ∨ d = 13) := by decide
    exact this c h
  · have := hr.head h.2; revert this; decide
theorem good_sym2 {a b : UInt8} (h : (a, b) ∈ [((60 : UInt8), (62 : UInt8)), (60, 61), (62, 61), (124, 124)]) : GoodT ⟨5, [a, b], 0⟩ := by
  have e : prT ⟨5, [a, b], 0⟩ = [a, b] := by simp [prT]
  have hn : ¬ (a = 32 ∨ a = 9 ∨ a = 10 ∨ a = 13) ∧ a ≠ 45 := by
    have : ∀ x ∈ [((60 : UInt8), (62 : UInt8)), (60, 61), (62, 61), (124, 124)], ¬ (x.1 = 32 ∨ x.1 = 9 ∨ x.1 = 10 ∨ x.1 = 13) ∧ x.1 ≠ 45 := by decide
    exact this _ h
  refine ⟨fun r hr => ?_, ⟨a, [b], e, hn.1, fun r hr h => hn.2 h.1⟩, by simp⟩
  rw [e]; exact tok_sym2 h r
theorem numP_dig_bound {l : List UInt8} (hl : l ≠ []) (hd : ∀ c ∈ l, isDig c = true) {v : Int} (h : numP l = some v) : 0 ≤ v ∧ v ≤ 9223372036854775807 := by
  rw [numP_digits hl hd] at h
  split at h
  · injection h with h; omega
  · cases h
/-- Every word of a text is read again from what it is written as. -/
theorem tokP_good {l : List UInt8} {t : Tk} {n : Nat} (h : tokP l = some (t, n)) : GoodT t := by
  match l, h with
  | c :: r, h =>
    by_cases h1 : (c = 120 ∨ c = 88) ∧ r.head? = some 39
    · rw [tokP_blob h1.1 h1.2] at h
      obtain ⟨y, hy, e⟩ := Option.map_eq_some_iff.mp h
      injection e with e _
      subst e
      exact good_blob _
    · cases hl : isLet c with
      | true =>
        rw [tokP_word h1 hl] at h
        injection h with h
        injection h with h _
        subst h
        have hall := run_all isWrd (c :: r)
        have hpos : 1 ≤ runP isWrd (c :: r) := run_pos isWrd (by simp [isWrd, hl])
        obtain ⟨m, hm⟩ : ∃ m, runP isWrd (c :: r) = m + 1 := ⟨runP isWrd (c :: r) - 1, by omega⟩
        rw [hm] at hall ⊢
        rw [List.take_succ_cons] at hall ⊢
        rw [List.map_cons]
        refine good_word (low_let hl) ?_ ?_
        · intro d hd
          rw [← List.map_cons] at hd
          obtain ⟨d', hd', rfl⟩ := List.mem_map.mp hd
          exact (low_wrd (hall d' hd')).1
        · rw [← List.map_cons, List.map_map]
          apply List.map_congr_left
          intro d hd
          exact (low_wrd (hall d hd)).2
      | false =>
        cases hd : isDig c with
        | true =>
          rw [tokP_num h1 hl hd] at h
          obtain ⟨v, hv, e⟩ := Option.map_eq_some_iff.mp h
          injection e with e _
          subst e
          have hpos : 1 ≤ runP isDig (c :: r) := run_pos isDig hd
          have hne : (c :: r).take (runP isDig (c :: r)) ≠ [] := by
            intro e
            have := congrArg List.length e
            rw [List.length_take] at this
            simp only [List.length_cons, List.length_nil] at this
            omega
          obtain ⟨b0, b1⟩ := numP_dig_bound hne (run_all isDig (c :: r)) hv
          exact good_num b0 b1
        | false =>
          by_cases hq : c = 39
          · subst hq
            rw [tokP_text] at h
            obtain ⟨y, hy, e⟩ := Option.map_eq_some_iff.mp h
            injection e with e _
            subst e
            exact good_text _
          · rw [tokP_sym h1 hl hd hq] at h
            by_cases h0 : symP (c :: r) = 0
            · rw [if_pos h0] at h; cases h
            · rw [if_neg h0] at h
              injection h with h
              injection h with h _
              subst h
              by_cases h2 : (c = 60 ∧ r.head? = some 62) ∨ (c = 60 ∧ r.head? = some 61) ∨ (c = 62 ∧ r.head? = some 61) ∨ (c = 124 ∧ r.head? = some 124)
              · have hs : symP (c :: r) = 2 := by rw [symP, if_pos h2]
                rw [hs]
                cases r with
                | nil => simp at h2
                | cons d r =>
                  simp only [List.head?_cons, Option.some.injEq] at h2
                  exact good_sym2 (by simp only [List.mem_cons, List.not_mem_nil, or_false, Prod.mk.injEq]; exact h2)
              · by_cases hm : c ∈ symBytes
                · have hs : symP (c :: r) = 1 := by rw [symP, if_neg h2, if_pos (by exact hm)]
                  rw [hs]
                  exact good_sym1 hm
                · exfalso
                  apply h0
                  rw [symP, if_neg h2, if_neg (by exact hm)]
theorem unhex_len : ∀ (n : Nat) (l x : List UInt8), l.length ≤ n → unhex l = some x → x.length ≤ l.length
  | _, [], x, _, h => by simp [unhex] at h; subst h; simp
  | _, [a], x, _, h => by simp [unhex] at h
  | 0, a :: b :: r, x, hn, h => by simp at hn
  | n + 1, a :: b :: r, x, hn, h => by
    rw [unhex_cons] at h
    cases hp : hexPair a b with
    | none => rw [hp] at h; simp at h
    | some v =>
      rw [hp] at h
      simp only [Option.bind_some] at h
      obtain ⟨y, hy, rfl⟩ := Option.map_eq_some_iff.mp h
      simp only [List.length_cons] at hn ⊢
      have := unhex_len n r y (by omega) hy
      omega
theorem textP_len : ∀ (n : Nat) (l : List UInt8), l.length ≤ n → ∀ x, textP l = some x → x.1.length ≤ l.length
  | _, [], _, x, h => by rw [textP_nil] at h; cases h
  | 0, c :: r, hn, x, h => by simp at hn
  | n + 1, c :: r, hn, x, h => by
    simp only [List.length_cons] at hn ⊢
    by_cases hc : c = 39
    · subst hc
      match r, h, hn with
      | [], h, _ => rw [textP_q0] at h; injection h with h; subst h; simp
      | d :: r', h, hn =>
        simp only [List.length_cons] at hn ⊢
        by_cases hd : d = 39
        · subst hd
          rw [textP_q2] at h
          obtain ⟨y, hy, rfl⟩ := Option.map_eq_some_iff.mp h
          have := textP_len n r' (by omega) y hy
          simp only [List.length_cons]
          omega
        · rw [textP_q1 hd] at h; injection h with h; subst h; simp
    · rw [textP_c hc] at h
      obtain ⟨y, hy, rfl⟩ := Option.map_eq_some_iff.mp h
      have := textP_len n r (by omega) y hy
      simp only [List.length_cons]
      omega
theorem tokP_textlen {l : List UInt8} {t : Tk} {n : Nat} (h : tokP l = some (t, n)) : t.text.length ≤ l.length := by
  match l, h with
  | c :: r, h =>
    by_cases h1 : (c = 120 ∨ c = 88) ∧ r.head? = some 39
    · rw [tokP_blob h1.1 h1.2] at h
      obtain ⟨y, hy, e⟩ := Option.map_eq_some_iff.mp h
      injection e with e _
      subst e
      unfold blobP at hy
      split at hy
      · obtain ⟨z, hz, rfl⟩ := Option.map_eq_some_iff.mp hy
        have := unhex_len _ _ _ (Nat.le_refl _) hz
        have h2 := takeW_le (· != 39) r.tail
        simp only [List.length_tail] at h2
        simp only [List.length_cons]
        omega
      · cases hy
    · cases hl : isLet c with
      | true =>
        rw [tokP_word h1 hl] at h
        injection h with h
        injection h with h _
        subst h
        simp only [List.length_map, List.length_take]
        omega
      | false =>
        cases hd : isDig c with
        | true =>
          rw [tokP_num h1 hl hd] at h
          obtain ⟨v, hv, e⟩ := Option.map_eq_some_iff.mp h
          injection e with e _
          subst e
          simp
        | false =>
          by_cases hq : c = 39
          · subst hq
            rw [tokP_text] at h
            obtain ⟨y, hy, e⟩ := Option.map_eq_some_iff.mp h
            injection e with e _
            subst e
            have := textP_len _ r (Nat.le_refl _) y hy
            simp only [List.length_cons]
            omega
          · rw [tokP_sym h1 hl hd hq] at h
            by_cases h0 : symP (c :: r) = 0
            · rw [if_pos h0] at h; cases h
            · rw [if_neg h0] at h
              injection h with h
              injection h with h _
              subst h
              simp only [List.length_take]
              omega
theorem toks_good : ∀ (f k : Nat) (s : List UInt8) (ts : List (Tk × Nat)), toksP f k s = .ok ts → ∀ x ∈ ts, GoodT x.1 ∧ x.1.text.length ≤ s.length
  | 0, k, s, ts, h, x, hx => by simp [toksP] at h; subst h; simp at hx
  | f + 1, k, [], ts, h, x, hx => by simp [toksP] at h; subst h; simp at hx
  | f + 1, k, c :: r, ts, h, x, hx => by
    rw [toksP] at h
    try simp only at h
    split at h
    · have := toks_good f _ _ _ h x hx
      exact ⟨this.1, by simp only [List.length_cons]; omega⟩
    · split at h
      · split at h
        · have h1 := toks_good f _ _ _ h x hx
          have h2 : ((c :: r).takeWhile (· != 10)).length + ((c :: r).dropWhile (· != 10)).length = (c :: r).length := by
            have e : (c :: r).takeWhile (· != 10) ++ (c :: r).dropWhile (· != 10) = c :: r := List.takeWhile_append_dropWhile
            have := congrArg List.length e
            rw [List.length_append] at this
            exact this
          exact ⟨h1.1, by omega⟩
        · simp at h; subst h; simp at hx
      · cases ht : tokP (c :: r) with
        | none => rw [ht] at h; simp at h
        | some y =>
          obtain ⟨t, n⟩ := y
          rw [ht] at h
          simp only at h
          cases hr : toksP f (k + n) ((c :: r).drop n) with
          | error j => rw [hr] at h; simp [Except.map] at h
          | ok ts' =>
            rw [hr] at h
            simp [Except.map] at h
            subst h
            rcases List.mem_cons.mp hx with rfl | hx
            · exact ⟨tokP_good ht, tokP_textlen ht⟩
            · have := toks_good f _ _ _ hr x hx
              rw [List.length_drop] at this
              exact ⟨this.1, by omega⟩
/-- The words with a blank behind each. -/
def spaced (ts : List Tk) : List UInt8 := ts.flatMap fun t => prT t ++ [32]
theorem spaced_cons (t : Tk) (ts : List Tk) : spaced (t :: ts) = prT t ++ 32 :: spaced ts := by simp [spaced]
theorem toks_word {c : UInt8} {r : List UInt8} {t : Tk} {n : Nat} (hb : ¬ (c = 32 ∨ c = 9 ∨ c = 10 ∨ c = 13)) (hn : ¬ (c = 45 ∧ r.head? = some 45)) (ht : tokP (c :: r) = some (t, n)) (f k : Nat) : toksP (f + 1) k (c :: r) = (toksP f (k + n) ((c :: r).drop n)).map ((t, k) :: ·) := by
  rw [toksP]
  try simp only
  rw [if_neg hb, if_neg hn, ht]
theorem spaced_read : ∀ (ts : List Tk), (∀ t ∈ ts, GoodT t) → ∀ (f k : Nat), (spaced ts).length ≤ f → ∃ xs, toksP f k (spaced ts) = .ok xs ∧ xs.map (·.1) = ts
  | [], _, f, k, _ => ⟨[], by cases f <;> simp [toksP, spaced], rfl⟩
  | t :: ts, h, f, k, hf => by
    have hg := h t (by simp)
    obtain ⟨c, u, hp, hb, hn⟩ := hg.first
    have hs : Sep (32 :: spaced ts) := Sep.mk' (.inl rfl) _
    have ha := hg.again _ hs
    rw [spaced_cons] at hf ⊢
    rw [hp] at ha hf ⊢
    simp only [List.cons_append, List.length_cons, List.length_append] at hf
    obtain ⟨g, rfl⟩ : ∃ g, f = g + 2 := ⟨f - 2, by omega⟩
    obtain ⟨xs, hx, hm⟩ := spaced_read ts (fun d hd => h d (by simp [hd])) g (k + (c :: u).length + 1) (by omega)
    refine ⟨(t, k) :: xs, ?_, by simp [hm]⟩
    have e := toks_word (f := g + 1) (k := k) hb (hn _ hs) ha
    rw [List.cons_append, e, ← List.cons_append, List.drop_left' rfl]
    have e2 : toksP (g + 1) (k + (c :: u).length) (32 :: spaced ts) = toksP g (k + (c :: u).length + 1) (spaced ts) := by
      rw [toksP]
      try simp only
      rw [if_pos (by simp)]
    rw [e2, hx]
    rfl
theorem lexT_spaced {l : List UInt8} {ts : List (Tk × Nat)} (h : lexT l = .ok ts) : ∃ xs, lexT (spaced (ts.map (·.1))) = .ok xs ∧ xs.map (·.1) = ts.map (·.1) := by
  refine spaced_read _ ?_ _ 0 (Nat.le_refl _)
  intro t ht
  obtain ⟨x, hx, rfl⟩ := List.mem_map.mp ht
  exact (toks_good _ _ _ _ h x hx).1
theorem lexT_good {l : List UInt8} {ts : List (Tk × Nat)} (h : lexT l = .ok ts) (i : Nat) (hi : i < ts.length) : GoodT ts[i].1 ∧ ts[i].1.text.length ≤ l.length := toks_good _ _ _ _ h _ (List.getElem_mem hi)
end Go.Proofs.YtcefmhofidoloaaGreatDoor.Lex

/- The package-level variables that the rows list: what a world that holds them gives, and one that does. -/
set_option linter.unusedVariables false
namespace Go.Proofs.YtcefmhofidoloaaGreatDoor.Laid
open Go.ChangeShapes Go.WideShapes Go.ChangeAt Go.RowKit

def part1 : DataW Unit → List Value
  | .lit (.int k n) => [.int k n]
  | _ => []
def part2 : DataW Unit → List Value
  | .lit (.int k n) => [.int k n]
  | .agg l => l.flatMap part1
  | _ => []
/-- The cells of a table's data. -/
def flat : DataW Unit → List Value
  | .agg l => l.flatMap part2
  | _ => []
/-- The tables laid into a world. -/
def lay (P : Program) : List (String × DataW Unit) → World → World
  | [], w => w
  | (n, d) :: l, w => lay P l (match P.globalNamed n with
    | some g => { w with heap := w.heap.modify g fun
        | .cells _ t fr => .cells (flat d).toArray t fr
        | o => o }
    | none => w)
theorem pow_of {l : List (String × DataW Unit)} {W : World} (h : laidMetH Tryz.prog l W) (hl : l.filter (fun x => x.1 == "internal/strconv.uint64pow10") = [("internal/strconv.uint64pow10", Lib.tabData .u64 Lib.pow10Tab)]) {g n : Nat} {t e : TypeId}
    (hg : Tryz.prog.globalNamed "internal/strconv.uint64pow10" = some g) (hty : (Tryz.prog.globals[g]?).map (·.type) = some t) (ht : Tryz.prog.underlying t = some (.array n e)) (he : Tryz.prog.underlying e = some (.int .u64)) (hce : Tryz.prog.cellsOf e = 1) (hct : Tryz.prog.cellsOf t = n) :
    Lib.TabIs Tryz.prog W "internal/strconv.uint64pow10" .u64 Lib.pow10Tab := by
  have h2 := h.filter (fun x => x.1 == "internal/strconv.uint64pow10")
  rw [hl] at h2
  exact Lib.tabIs_of_head (rest := []) hg hty ht he hce hct (by rw [MakeChecks.laidMetH_plain _ _ _ (by rfl)] at h2; exact h2)
end Go.Proofs.YtcefmhofidoloaaGreatDoor.Laid

/- What the rows of the lexer list: two sentinels and a type's handle. -/
set_option linter.unusedVariables false
namespace Go.Proofs.YtcefmhofidoloaaGreatDoor.Laid
open Go.ChangeShapes Go.WideShapes Go.ChangeAt Go.RowKit

theorem star : "*" ++ "errors.errorString" = "*errors.errorString" := by decide
theorem rowErr (u : TypeId) (h : Tryz.prog.typeName? 3 u = some "*errors.errorString") : u = 284 :=
  typeName_ptr_named (nm := "errors.errorString") (by rw [star]; kernel_rfl) (by kernel_rfl) (by decide) u (by rw [star]; exact h)
theorem sent_of {l : List (String × DataW Unit)} {W : World} (h : laidMetH Tryz.prog l W) {n : String} {text : List UInt8} {g : Nat} (hl : l.filter (fun x => x.1 == n) = [(n, .iface "*errors.errorString" (.ptr (.agg [.lit (.string text)])))])
    (hg : Tryz.prog.globalNamed n = some g) (hty : (Tryz.prog.globals[g]?).map (·.type) = some 42) : ∃ t p, W.cell? ⟨g, 0, none⟩ = some (.iface t p) := by
  have h2 := h.filter (fun x => x.1 == n)
  rw [hl] at h2
  rw [MakeChecks.laidMetH_plain _ _ _ (by rfl)] at h2
  obtain ⟨a, s, hv, _⟩ := laid_sentinel h2 hg hty Tryz.underlying42 rowErr Tryz.underlying284 Tryz.underlying286 rfl rfl Tryz.underlying9 (by kernel_rfl) (by kernel_rfl)
  exact ⟨_, _, by simpa using World.var?_cell hg hv 0⟩
theorem rt : (Tryz.prog.cutTypes.find? (·.1 == "internal/reflectlite.rtype")).map (·.2) = some 211 := by kernel_rfl
theorem oneRow : ((List.range Tryz.prog.types.size).filter fun t => Tryz.prog.rowNamed t [101, 114, 114, 111, 114]) = [42] := by kernel_rfl
theorem ety_of {l : List (String × DataW Unit)} {W : World} (h : laidMetH Tryz.prog l W) (hl : ("errors.errorType", DataW.iface "internal/reflectlite.rtype" (.agg [.ptr (.lit (.string [101, 114, 114, 111, 114]))])) ∈ l) (het : Tryz.prog.globalNamed "errors.errorType" = some 0) : Lex.EtyW W := by
  have h' := (laidMetH_iff.1 h).2
  obtain ⟨name, u, ty, e1, e2, e3, e4, e5⟩ := h' _ (List.mem_filter.2 ⟨hl, by rfl⟩)
  have en : name = [101, 114, 114, 111, 114] := (Option.some.inj e1).symm
  subst en
  obtain rfl := Option.some.inj (rt.symm.trans e2)
  have hm : ty ∈ (List.range Tryz.prog.types.size).filter fun t => Tryz.prog.rowNamed t [101, 114, 114, 111, 114] := List.mem_filter.2 ⟨List.mem_range.2 e3, e4⟩
  rw [oneRow] at hm
  obtain rfl := List.mem_singleton.1 hm
  have hh : typeHandle Tryz.prog 42 = .pointer (some ⟨9, 42, none⟩) := by kernel_rfl
  rw [hh] at e5
  show W.cell? ⟨0, 0, none⟩ = _
  simpa using World.var?_cell het e5 0
theorem lexW_of {l : List (String × DataW Unit)} {W : World} (hs : W.ShapedOpen Tryz.prog) (h : laidMetH Tryz.prog l W) {t3 t4 : List UInt8}
    (h3 : l.filter (fun x => x.1 == "strconv.ErrSyntax") = [("strconv.ErrSyntax", .iface "*errors.errorString" (.ptr (.agg [.lit (.string t3)])))])
    (h4 : l.filter (fun x => x.1 == "strconv.ErrRange") = [("strconv.ErrRange", .iface "*errors.errorString" (.ptr (.agg [.lit (.string t4)])))]) : Lex.LexW W :=
  ⟨hs, sent_of h h3 (by kernel_rfl) (by kernel_rfl), sent_of h h4 (by kernel_rfl) (by kernel_rfl)⟩

/-- A world in which all that is listed lies. -/
noncomputable def errWorld (w : World) : World :=
  let N := w.heap.size
  { w with heap := ((((w.heap.modify 0 fun
      | .cells _ t fr => .cells #[.iface 211 (.agg #[.pointer (some ⟨9, 42, none⟩)])] t fr
      | o => o).modify 3 fun
      | .cells _ t fr => .cells #[.iface 284 (.pointer (some ⟨N, 0, none⟩))] t fr
      | o => o).modify 4 fun
      | .cells _ t fr => .cells #[.iface 284 (.pointer (some ⟨N + 1, 0, none⟩))] t fr
      | o => o).push (.cells #[.string ⟨#[105, 110, 118, 97, 108, 105, 100, 32, 115, 121, 110, 116, 97, 120]⟩] 286)).push (.cells #[.string ⟨#[118, 97, 108, 117, 101, 32, 111, 117, 116, 32, 111, 102, 32, 114, 97, 110, 103, 101]⟩] 286) }
end Go.Proofs.YtcefmhofidoloaaGreatDoor.Laid
