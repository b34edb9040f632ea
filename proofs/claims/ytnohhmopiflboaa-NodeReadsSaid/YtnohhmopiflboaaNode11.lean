/- The reference's Check. -/
import Derived.Test.YtnohhmopiflboaaNode10
set_option linter.unusedVariables false
set_option linter.unusedSimpArgs false
namespace Go.Proofs.Ytnohhmopiflboaa.Nod
open Go.RowKit Go.Proofs.Ytnohhmopiflboaa.Base Go.Proofs.Ytnohhmopiflboaa.Byt Go.Proofs.Ytnohhmopiflboaa.Rd

theorem rcheck_calls (v0 v1 v2 v3 : Value) (x : PNode) (w : World) (h : rNode w [v0, v1, v2, v3] x) :
    Calls Try.prog 17 #[.agg #[v0, v1, v2, v3]] w (Tells w (.int .i64 (checkN x))) := by
  have H := Asd.mk h
  have HL : Asd (∀ o, Below w.heap.size w (w.alloc o)) := Asd.mk fun o => (Below.refl _ _).alloc (Nat.le_refl _) _
  clear h
  go_enter Try.func17, Try.ntmps17
  go_wp2_with fail
  refine (rfields_calls v0 v1 v2 v3 x _ (lasts_node _ _ _ _ (HL.out _) H.out)).mono ?_
  rintro e w2 ⟨rfl, hb2⟩
  have HB2 : Asd (Below w.heap.size w w2) := Asd.mk ((HL.out _).trans (hb2.mono (by simp)))
  have HP : Asd (w2.heap[w.heap.size]? = some (.cells #[v0, v1, v2, v3] 26 (0, 0))) := Asd.mk (blk_below hb2 (blk_new w _))
  clear hb2
  have p0 := (blk_cell HP.out 0).trans rfl
  have p1 := (blk_cell HP.out 1).trans rfl
  have p2 := (blk_cell HP.out 2).trans rfl
  have p3 := (blk_cell HP.out 3).trans rfl
  have hs2 := blk_lt HP.out
  cases hf : fieldsB x with
  | false =>
    have HF : Asd (checkN x = 3) := Asd.mk (by simp [checkN, hf])
    clear hf
    go_wp2
    go_ret
    exact ⟨ret_eq (by rw [HF.out]; rfl), HB2.out⟩
  | true =>
    have HF : Asd (checkN x = if wrap64 (nodeSz x) > 508 then 8 else 0) := Asd.mk (by simp [checkN, hf])
    clear hf
    go_wp2_with fail
    refine (rsize_calls v0 v1 v2 v3 x _ (lasts_node _ _ _ _ HB2.out H.out)).mono ?_
    rintro e w3 ⟨rfl, hb3⟩
    have HB3 : Asd (Below w.heap.size w w3) := Asd.mk (HB2.out.trans (hb3.mono HB2.out.size))
    clear hb3
    generalize wrap64 (nodeSz x) = z at HF
    by_cases hz : z > 508
    · have HG : Asd (checkN x = 8) := Asd.mk (by rw [HF.out, if_pos hz])
      clear HF
      go_wp2
      go_ret
      exact ⟨ret_eq (by rw [HG.out]; rfl), HB3.out⟩
    · have HG : Asd (checkN x = 0) := Asd.mk (by rw [HF.out, if_neg hz])
      clear HF
      go_wp2
      go_ret
      exact ⟨ret_eq (by rw [HG.out]; rfl), HB3.out⟩
end Go.Proofs.Ytnohhmopiflboaa.Nod
