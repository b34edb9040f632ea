/- Seen. -/
import Derived.Test.YtcefmhofidoloaaGreatDoorAs
import Derived.Test.YtcefmhofidoloaaGreatDoorLx13
set_option linter.unusedVariables false
set_option linter.unusedSimpArgs false
namespace Go.Proofs.YtcefmhofidoloaaGreatDoor.Lex
open Go.RowKit Go.Proofs.YtcefmhofidoloaaGreatDoor.Base Go.Proofs.YtcefmhofidoloaaGreatDoor.App Go.Proofs.YtcefmhofidoloaaGreatDoor.Byt

/-- What the variable errors.errorType holds. -/
def EtyW (w : World) : Prop := w.cell? ⟨0, 0, none⟩ = some (.iface 211 (.agg #[.pointer (some ⟨9, 42, none⟩)]))
theorem EtyW.below {w w' : World} (h : EtyW w) (hb : Below w.heap.size w w') : EtyW w' := (hb.cell (World.block_lt_of_cell? w _ h)).trans h

theorem as_calls (N b : Nat) (W : World) (hg : EtyW W) (hb : W.heap[b]? = some (.cells #[.pointer none] 93 (0, 0))) :
    Calls Tryz.prog 54 #[.iface 93 (.pointer (some ⟨N, 0, none⟩)), .iface 103 (.pointer (some ⟨b, 0, none⟩))] W fun e w' =>
      e = .returned (.bool true) ∧ w'.heap[b]? = some (.cells #[.pointer (some ⟨N, 0, none⟩)] 93 (0, 0)) ∧ Fr (fun k => k = b) W w' := by
  refine (as_hit ⟨N, 0, none⟩ ⟨b, 0, none⟩ (.pointer none) W hg ((blk_cell hb 0).trans rfl) (blk_frozen hb 0)).mono ?_
  rintro e w' ⟨rfl, rfl⟩
  refine ⟨rfl, ?_, ?_⟩
  · exact (blk_set (blk_alloc (blk_alloc (blk_alloc (blk_alloc hb _) _) _) _) 0 _).trans rfl
  · exact Fr.setCell (S := fun k => k = b) (((((Fr.refl _ W).alloc _).alloc _).alloc _).alloc _) rfl _

set_option maxRecDepth 100000 in
set_option maxHeartbeats 1600000 in
theorem seen_nil (w : World) :
    Calls Tryz.prog 16 #[.nilIface] w fun e w' => e = .returned (.agg #[.int .i64 0, .int .i64 0]) ∧ Below w.heap.size w w' := by
  have HB := Asd.mk (below_alloc (Below.refl w.heap.size w) (.cells #[.int .i64 0, .int .i64 0] 35))
  have HN := Asd.mk (blk_new w (.cells #[.int .i64 0, .int .i64 0] 35))
  go_enter Tryz.func16, Tryz.ntmps16
  go_wp2
  refine bodyPost_ret (results_cell_row rfl _ _ w.heap.size 35 _ (0, 0) _ rfl HN.out Tryz.underlying35 rfl (by kernel_rfl)) rfl ?_
  exact ⟨rfl, HB.out⟩

set_option maxRecDepth 100000 in
set_option maxHeartbeats 3200000 in
theorem seen_fault (N : Nat) (k n : Int) (w : World) (hg : EtyW w) (hN : w.heap[N]? = some (.cells #[.int .i64 k, .iface 33 (.int .i64 n)] 95 (0, 0))) :
    Calls Tryz.prog 16 #[.iface 93 (.pointer (some ⟨N, 0, none⟩))] w fun e w' => e = .returned (.agg #[.int .i64 k, .int .i64 n]) ∧ Below w.heap.size w w' := by
  have HB := Asd.mk (below_alloc (below_alloc (Below.refl w.heap.size w) (.cells #[.int .i64 0, .int .i64 0] 35)) (.cells #[.pointer none] 93))
  have HR := Asd.mk (blk_alloc (blk_new w (.cells #[.int .i64 0, .int .i64 0] 35)) (.cells #[.pointer none] 93))
  have HT := Asd.mk (blk_new (w.alloc (.cells #[.int .i64 0, .int .i64 0] 35)) (.cells #[.pointer none] 93))
  rw [show (w.alloc (.cells #[.int .i64 0, .int .i64 0] 35)).heap.size = w.heap.size + 1 by simp] at HT
  have HG := Asd.mk (hg.below HB.out)
  have HN2 := Asd.mk (blk_below HB.out hN)
  have HNL := Asd.mk (blk_lt hN)
  clear hg hN
  have ta : ∀ w, (Instr.typeAssert (.iface 33 (.int .i64 n)) 42 33 true).run Tryz.prog w = .ok (.tuple #[.int .i64 n, .bool true]) w := fun _ => by kernel_rfl
  go_enter Tryz.func16, Tryz.ntmps16
  go_upto_region 4 with fail
  generalize (w.alloc (.cells #[.int .i64 0, .int .i64 0] 35)).alloc (.cells #[.pointer none] 93) = W at HB HR HT HG HN2 ⊢
  go_wp2_with fail
  refine (as_calls N (w.heap.size + 1) W HG.out HT.out).mono ?_
  rintro e w1 ⟨rfl, hb1, hf⟩
  have HT1 := Asd.mk hb1
  have HR1 : Asd (w1.heap[w.heap.size]? = some (.cells #[.int .i64 0, .int .i64 0] 35 (0, 0))) := Asd.mk ((hf.block w.heap.size (blk_lt HR.out) (by simp)).trans HR.out)
  have HN3 : Asd (w1.heap[N]? = some (.cells #[.int .i64 k, .iface 33 (.int .i64 n)] 95 (0, 0))) := Asd.mk ((hf.block N (blk_lt HN2.out) (by have := HNL.out; simp; omega)).trans HN2.out)
  have HB1 : Asd (Below w.heap.size w w1) := Asd.mk (HB.out.trans ⟨hf.os, hf.tape, hf.output, hf.size, fun j hj => hf.block j (by have := HB.out.size; omega) (by omega)⟩)
  clear hb1 hf
  have t0 := (blk_cell HT1.out 0).trans rfl
  have n0 := (blk_cell HN3.out 0).trans rfl
  have n1 := (blk_cell HN3.out 1).trans rfl
  have r0 := (blk_cell HR1.out 0).trans rfl
  have r1 := (blk_cell HR1.out 1).trans rfl
  have z0 := blk_frozen HR1.out 0
  have z1 := blk_frozen HR1.out 1
  have HFIN : Asd (∀ a b, ((w1.setCell ⟨w.heap.size, 0, none⟩ a).setCell ⟨w.heap.size, 1, none⟩ b).heap[w.heap.size]? = some (.cells #[a, b] 35 (0, 0)) ∧ Below w.heap.size w ((w1.setCell ⟨w.heap.size, 0, none⟩ a).setCell ⟨w.heap.size, 1, none⟩ b)) := Asd.mk fun a b =>
    ⟨(blk_set (blk_set HR1.out 0 a) 1 b).trans rfl, (HB1.out.setCell (Nat.le_refl _) a).setCell (Nat.le_refl _) b⟩
  go_wp2
  refine bodyPost_ret (results_cell_row rfl _ _ w.heap.size 35 _ (0, 0) _ rfl (HFIN.out _ _).1 Tryz.underlying35 rfl (by kernel_rfl)) rfl ?_
  exact ⟨rfl, (HFIN.out _ _).2⟩
end Go.Proofs.YtcefmhofidoloaaGreatDoor.Lex
