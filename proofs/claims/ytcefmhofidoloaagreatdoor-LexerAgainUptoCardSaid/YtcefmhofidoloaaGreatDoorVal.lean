/- Values: two are the same; what is wrong with one. -/
import Derived.Test.YtcefmhofidoloaaGreatDoorEqs
import Derived.Test.YtcefmhofidoloaaGreatDoorBase
import Derived.Test.YtcefmhofidoloaaGreatDoorKw
set_option linter.unusedVariables false
set_option linter.unusedSimpArgs false
namespace Go.Proofs.YtcefmhofidoloaaGreatDoor.Lex
open Go.RowKit Go.Proofs.YtcefmhofidoloaaGreatDoor.Base

theorem blk_below {W W' : World} {g : Nat} {o : Obj} (hb : Below W.heap.size W W') (h : W.heap[g]? = some o) : W'.heap[g]? = some o := (hb.block g (blk_lt h)).trans h
theorem val_in (d : Nat) (w : World) (x0 y0 : Int) (x1 y1 : Int) (x2 y2 : ByteArray) :
    (Op.equalIn (d + 2) 56 (.agg #[.int .i64 x0, .int .i64 x1, .string x2]) (.agg #[.int .i64 y0, .int .i64 y1, .string y2])).run Tryz.prog w = .ok (x0 == y0 && (x1 == y1 && (x2.toList == y2.toList))) w := by
  refine Eqs.s_of Tryz.underlying56 (by kernel_rfl) ?_
  refine Eqs.f_cons (by rfl) (by go_simp; rfl) (by go_simp; rfl) (by go_simp) ?_
  refine Eqs.f_cons (by rfl) (by go_simp; rfl) (by go_simp; rfl) (by go_simp) ?_
  exact Eqs.f_last (by rfl) (by go_simp; rfl) (by go_simp; rfl) (by go_simp)
theorem val_neq (w : World) (x0 y0 : Int) (x1 y1 : Int) (x2 y2 : ByteArray) :
    (binOp .neq 56 (.agg #[.int .i64 x0, .int .i64 x1, .string x2]) (.agg #[.int .i64 y0, .int .i64 y1, .string y2])).run Tryz.prog w = .ok (.bool (!(x0 == y0 && (x1 == y1 && (x2.toList == y2.toList))))) w := Eqs.op_neq fun d => val_in d w x0 y0 x1 y1 x2 y2

set_option maxRecDepth 100000 in
set_option maxHeartbeats 1600000 in
/-- A text, or a blob, is right. -/
theorem vcheck_calls (k : Int) (hk : k = 3 ∨ k = 4) (s : ByteArray) (w : World) :
    Calls Tryz.prog 128 #[.agg #[.int .i64 k, .int .i64 0, .string s]] w fun e w' => e = .returned (.int .i64 0) ∧ Below w.heap.size w w' := by
  have hq : ∀ (w : World), (binOp .neq 56 (.agg #[.int .i64 k, .int .i64 0, .string s]) (.agg #[.int .i64 k, .int .i64 0, .string s])).run Tryz.prog w = .ok (.bool false) w := fun w => by
    rw [val_neq]
    simp
  rcases hk with rfl | rfl
  · have hq3 : ∀ w, (binOp .neq 56 (.agg #[.int .i64 3, .int .i64 0, .string s]) (.agg #[.int .i64 3, .int .i64 0, .string s])).run Tryz.prog w = .ok (.bool false) w := hq
    clear hq
    go_enter Tryz.func128, Tryz.ntmps128
    go_wp2
    go_ret
    exact ⟨rfl, by repeat (first | exact Below.refl _ _ | refine Below.alloc ?_ (by simp) _ | refine Below.setCell ?_ (by simp) _ | refine Below.drew ?_)⟩
  · have hq3 : ∀ w, (binOp .neq 56 (.agg #[.int .i64 4, .int .i64 0, .string s]) (.agg #[.int .i64 4, .int .i64 0, .string s])).run Tryz.prog w = .ok (.bool false) w := hq
    clear hq
    go_enter Tryz.func128, Tryz.ntmps128
    go_wp2
    go_ret
    exact ⟨rfl, by repeat (first | exact Below.refl _ _ | refine Below.alloc ?_ (by simp) _ | refine Below.setCell ?_ (by simp) _ | refine Below.drew ?_)⟩
end Go.Proofs.YtcefmhofidoloaaGreatDoor.Lex
