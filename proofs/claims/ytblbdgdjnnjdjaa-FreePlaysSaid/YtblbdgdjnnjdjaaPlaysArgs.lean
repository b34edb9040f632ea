/- The arguments of FreePlays as the walk wants them. -/
import Derived.Test.YtblbdgdjnnjdjaaPlays1
import Derived.Test.YtblbdgdjnnjdjaaPlays2
set_option linter.unusedVariables false
namespace Go.Proofs.Ytblbdgdjnnjdjaa.Fre
open Go.RowKit Go.Proofs.Ytblbdgdjnnjdjaa.Base Go.Proofs.Ytblbdgdjnnjdjaa.Rd
set_option maxRecDepth 100000 in
set_option maxHeartbeats 1600000 in
theorem plays_walk (a0 : Int) (A : Option Addr) (len cap : Nat) (ops : List (Int × Int × List Int)) (w : World) (h1 : IsSl rOp 3 w A len ops) (hlen : len * 40 ≤ reachBytes) :
    Calls Try.prog 4 #[.int .i64 a0, .slice A len cap] w (Yes w) := by
  by_cases hx : a0 ≤ 3000
  · exact plays_walk1 a0 A len cap ops w h1 hlen hx
  · by_cases hx2 : 4096 < a0
    · exact plays_walk2 a0 A len cap ops w h1 hlen (by omega) hx2
    · have hb1 : 3000 < a0 := by omega
      have hb2 : a0 ≤ 4096 := by omega
      clear hx hx2 h1 hlen
      go_enter Try.func4, Try.ntmps4
      go_wp2
      go_ret
      exact ⟨rfl, Below.refl _ _⟩
theorem plays_open {H : Type} {enc : TypeId × Value → H} (W : World) (a0 : Int) (w0 : (Lit.int .i64 a0).wf = true) (v : Value) (d : DataW H) (p : List MemPlace) {base : Nat} (ok : Value.okWide Try.prog W .any base 34 v) (h : DataW.Trod enc Try.prog W 0 (fun _ => true) true 34 v d p)
    (wt : ∀ k ∈ d.weights Try.prog 34, k ≤ reachBytes) :
    Calls Try.prog 4 #[.int .i64 a0, v] W (Yes W) := by
  obtain ⟨fuel, hf⟩ := h
  obtain ⟨ops, A, n, c, hv, hn, _, hs⟩ := opens_ops H enc W fuel _ d p hf wt
  obtain ⟨A', n', c', rfl⟩ := Go.WideShapes.okWide_slice Try.underlying34 ok
  simp [Value.cells] at hv
  obtain ⟨rfl, rfl, rfl⟩ := hv
  exact plays_walk a0 A' n' c' ops W hs hn
end Go.Proofs.Ytblbdgdjnnjdjaa.Fre
