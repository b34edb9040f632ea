/- The arguments of FreeTakes as the walk wants them. -/
import Derived.Test.YtblbdgdjnnjdjaaTakes
import Derived.OpenShut
set_option linter.unusedVariables false
namespace Go.Proofs.Ytblbdgdjnnjdjaa.Fre
open Go.ChangeShapes Go.WideShapes Go.ChangeAt Go.RowKit Go.Proofs.Ytblbdgdjnnjdjaa.Base

/-- A slice of whole numbers that came in. -/
theorem ints_open {H : Type} {enc : TypeId × Value → H} {W : World} {base : Nat} {v : Value} {d : DataW H} {p : List MemPlace} (ok : Value.okWide Try.prog W .any base 22 v) (h : DataW.Trod enc Try.prog W 0 (fun _ => true) true 22 v d p) :
    ∃ A n c xs, v = .slice A n c ∧ IsInts W A n xs := by
  obtain ⟨A, n, c, rfl⟩ := okWide_slice Try.underlying22 ok
  obtain ⟨fuel, hf⟩ := h
  rcases open_ints Try.underlying22 Try.underlying3 (by kernel_rfl) hf with ⟨hcs, _⟩ | ⟨x, l, c', zs, hcs, _, hl, hm, hz, _, hcell, hwz⟩
  · simp [Value.cells] at hcs
    obtain ⟨rfl, rfl, rfl⟩ := hcs
    exact ⟨none, 0, 0, [], rfl, rfl, by decide, fun h => by omega⟩
  · simp [Value.cells] at hcs
    obtain ⟨rfl, rfl, rfl⟩ := hcs
    simp only [if_true] at hz
    refine ⟨some x, n, c, zs.take n, rfl, by simp; omega, by omega, fun hn => ?_⟩
    have h0 := hcell 0 (by omega)
    obtain ⟨xb, xo, xs⟩ := x
    obtain rfl : xs = none := by
      cases xs with
      | none => rfl
      | some q =>
        simp only [Addr.add, if_true, World.cell?] at h0
        split at h0
        · simp at h0
        · cases h0
    refine ⟨xb, xo, rfl, fun j hj => ?_⟩
    have hj' := hcell j (by omega)
    have e : ((⟨xb, xo, none⟩ : Addr).add j) = ⟨xb, xo + j, none⟩ := by unfold Addr.add; split <;> simp_all
    rw [e] at hj'
    rw [hj']
    simp [List.getD, hj]

theorem takes_open {H : Type} {enc : TypeId × Value → H} (W : World) (a0 : Int) (w0 : (Lit.int .i64 a0).wf = true) (v : Value) (d : DataW H) (p : List MemPlace) {base : Nat} (ok : Value.okWide Try.prog W .any base 22 v) (h : DataW.Trod enc Try.prog W 0 (fun _ => true) true 22 v d p) :
    Calls Try.prog 3 #[.int .i64 a0, v] W (Yes W) := by
  obtain ⟨A, n, c, xs, rfl, hi⟩ := ints_open ok h
  exact takes_walk a0 A n c xs W hi
end Go.Proofs.Ytblbdgdjnnjdjaa.Fre
