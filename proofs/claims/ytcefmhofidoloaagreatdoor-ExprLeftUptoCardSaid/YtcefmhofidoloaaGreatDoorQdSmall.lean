/- small: a number's last digit. -/
import Derived.Test.YtcefmhofidoloaaGreatDoorQc10
import Derived.Test.YtcefmhofidoloaaGreatDoorQdLeftP
set_option linter.unusedVariables false
set_option linter.unusedSimpArgs false
namespace Go.Proofs.YtcefmhofidoloaaGreatDoor.Exp
open Go.RowKit Go.Proofs.YtcefmhofidoloaaGreatDoor.Base Go.Proofs.YtcefmhofidoloaaGreatDoor.App Go.Proofs.YtcefmhofidoloaaGreatDoor.Byt Go.Proofs.YtcefmhofidoloaaGreatDoor.Lex

theorem rem10 (x : Int) : ∃ d : Nat, d < 10 ∧ (IntKind.u64.wrap x).tmod 10 = (d : Int) := by
  have h0 : 0 ≤ IntKind.u64.wrap x := by
    simp [IntKind.wrap, IntKind.signed, IntKind.bits]
    omega
  generalize IntKind.u64.wrap x = y at h0
  have e : y.tmod 10 = y % 10 := Int.tmod_eq_emod_of_nonneg h0
  exact ⟨(y % 10).toNat, by omega, by rw [e]; omega⟩
set_option maxRecDepth 100000 in
set_option maxHeartbeats 3200000 in
theorem small_calls (n : Int) : ∃ d : Nat, d < 10 ∧ ∀ w, Calls Tryz.prog 26 #[.int .i64 n] w fun e w' => e = .returned (.string ⟨(digB d).toArray⟩) ∧ Below w.heap.size w w' := by
  obtain ⟨d, hd, he⟩ := rem10 n
  refine ⟨d, hd, fun w => ?_⟩
  have HB : Asd (Below w.heap.size w (w.alloc (.cells (bcells (digB d)).toArray 5))) := Asd.mk (below_alloc (Below.refl _ w) _)
  have hcv := run_string (P := Tryz.prog) (w := w.alloc (.cells (bcells (digB d)).toArray 5)) 120 9 5 Tryz.underlying120 Tryz.underlying5 Tryz.underlying9 1 (IsBytes.new w (digB d) 5 (by simp [digB]))
  have hv : ((UInt8.ofNat (48 + d)).toNat : Int) = 48 + (d : Int) := by
    rw [UInt8.toNat_ofNat']
    omega
  have hc : (digB d).length = 1 := rfl
  have hb : (bcells (digB d)).toArray = #[.int .u8 (48 + (d : Int))] := by simp [bcells, digB, bcell]; exact hv
  rw [hb] at hcv HB
  rw [hc] at hcv
  have hd1 : (0 : Int) ≤ (d : Int) := by omega
  have hd2 : (d : Int) ≤ 9 := by omega
  clear hv hc hb hd
  generalize digB d = t at hcv ⊢
  go_enter Tryz.func26, Tryz.ntmps26
  go_wp2
  go_ret
  exact ⟨rfl, HB.out⟩
end Go.Proofs.YtcefmhofidoloaaGreatDoor.Exp
