/- EvalPart: the arguments as they come in. -/
import Derived.Test.YtbeeaikilcnpgaaGreatDoorQc8
import Derived.Test.YtbeeaikilcnpgaaGreatDoorQdPartW
set_option linter.unusedVariables false
set_option linter.unusedSimpArgs false
namespace Go.Proofs.YtbeeaikilcnpgaaGreatDoor.Exp
open Go.RowKit Go.Proofs.YtbeeaikilcnpgaaGreatDoor.Base Go.Proofs.YtbeeaikilcnpgaaGreatDoor.App Go.Proofs.YtbeeaikilcnpgaaGreatDoor.Byt Go.Proofs.YtbeeaikilcnpgaaGreatDoor.Lex Go.Proofs.YtbeeaikilcnpgaaGreatDoor.Rd

set_option maxRecDepth 100000 in
theorem part_raw {H : Type} {enc : TypeId × Value → H} (W : World) (v0 : Value) (d0 : DataW H) (p0 : List MemPlace) {base : Nat} (ok0 : Value.okWide Tryz.prog W .any base 26 v0) (h0 : DataW.Trod enc Tryz.prog W 0 (fun _ => true) true 26 v0 d0 p0) (b0 : Rows.uptoBulk d0 ≤ 1048576) (z0 : W.noneFrozen p0)
    (v1 : Value) (d1 : DataW H) (p1 : List MemPlace) (ok1 : Value.okWide Tryz.prog W .any base 27 v1) (h1 : DataW.Trod enc Tryz.prog W 0 (fun _ => true) true 27 v1 d1 p1) (b1 : Rows.uptoBulk d1 ≤ 1048576) (z1 : W.noneFrozen p1)
    (v2 : Value) (d2 : DataW H) (p2 : List MemPlace) (ok2 : Value.okWide Tryz.prog W .any base 36 v2) (h2 : DataW.Trod enc Tryz.prog W 0 (fun _ => true) true 36 v2 d2 p2) (wt2 : ∀ k ∈ d2.weights Tryz.prog 36, k ≤ reachBytes) (hl : LexW W) :
    Calls Tryz.prog 4 #[v0, v1, v2] W fun e w' => e = .returned (.bool true) ∧ Below W.heap.size W w' := by
  obtain ⟨x, A, c, rfl, hh, hbk, hr⟩ := open_exv W v0 d0 p0 h0 b0 z0
  obtain ⟨RA, ca, us, rfl, hra⟩ := open_rowv W v1 d1 p1 ok1 h1 b1
  obtain ⟨fuel, hf⟩ := h2
  have op : Opens Tryz.prog 36 (rSl (rInt .i64) 1 8) := opens_sl Tryz.underlying36 (by kernel_rfl) (by decide) (by kernel_rfl) (opens_int Tryz.underlying3)
  obtain ⟨xs, WA, m, wc, hv, hm, _, hs⟩ := op H enc W fuel _ d2 p2 hf wt2
  obtain ⟨A', n', c', rfl⟩ := Go.WideShapes.okWide_slice Tryz.underlying36 ok2
  simp [Value.cells] at hv
  obtain ⟨rfl, rfl, rfl⟩ := hv
  exact part_calls x hbk hr A c us RA ca A' n' c' xs W hl hh hra hs (by unfold reachBytes at hm; omega)
end Go.Proofs.YtbeeaikilcnpgaaGreatDoor.Exp
