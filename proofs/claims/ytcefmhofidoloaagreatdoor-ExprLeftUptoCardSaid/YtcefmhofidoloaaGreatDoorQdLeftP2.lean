/- Operators of one line: the plain law over the words of texts. -/
import Derived.Test.YtcefmhofidoloaaGreatDoorQc10
import Derived.Test.YtcefmhofidoloaaGreatDoorQdSmall
set_option linter.unusedVariables false
set_option linter.unusedSimpArgs false
namespace Go.Proofs.YtcefmhofidoloaaGreatDoor.Exp
open Go.RowKit Go.Proofs.YtcefmhofidoloaaGreatDoor.Base Go.Proofs.YtcefmhofidoloaaGreatDoor.App Go.Proofs.YtcefmhofidoloaaGreatDoor.Byt Go.Proofs.YtcefmhofidoloaaGreatDoor.Lex

theorem leftT_len {j : Nat} (hj : j < 8) : (leftT.getD j []).length ≤ 3 := by
  have : ∀ m : Fin 8, (leftT.getD m.val []).length ≤ 3 := by decide
  exact this ⟨j, hj⟩
theorem left_words {a b c j : Nat} (ha : a < 10) (hb : b < 10) (hc : c < 10) (hj : j < 8) :
    (readF nmOk (lexE (oneT a b c (leftT.getD j []))) 32).or 0 = .ok (leftE (leftO.getD j 0) a b c, 5) ∧
    (readF nmOk (lexE (twoT a b c (leftT.getD j []))) 32).or 0 = .ok (leftE (leftO.getD j 0) a b c, 7) ∧
    (readF nmOk (lexE (triT a b c (leftT.getD j []))) 32).or 0 = .ok (rightE (leftO.getD j 0) a b c, 7) := by
  have h3 := leftT_len hj
  obtain ⟨x1, h1, m1⟩ := lex_of_to (one_lex ha hb hc hj)
  obtain ⟨x2, h2, m2⟩ := lex_of_to (two_lex ha hb hc hj)
  obtain ⟨x3, h4, m3⟩ := lex_of_to (tri_lex ha hb hc hj)
  rw [lexE_ok (by simp only [oneT, digB, List.length_append, List.length_cons, List.length_nil]; omega) h1, lexE_ok (by simp only [twoT, digB, List.length_append, List.length_cons, List.length_nil]; omega) h2, lexE_ok (by simp only [triT, digB, List.length_append, List.length_cons, List.length_nil]; omega) h4]
  exact ⟨one_read nmOk hj a b c m1, two_read nmOk hj a b c m2, tri_read nmOk hj a b c m3⟩
def signsV : List Value := leftT.map fun t => .string ⟨t.toArray⟩
theorem signs_at {j : Nat} (hj : j < 8) : signsV[j]? = some (.string ⟨(leftT.getD j []).toArray⟩) := by
  have hc : j = 0 ∨ j = 1 ∨ j = 2 ∨ j = 3 ∨ j = 4 ∨ j = 5 ∨ j = 6 ∨ j = 7 := by omega
  rcases hc with rfl | rfl | rfl | rfl | rfl | rfl | rfl | rfl <;> rfl
theorem rem8 (x : Int) : ∃ j : Nat, j < 8 ∧ wrap64 ((IntKind.u64.wrap x).tmod 8) = (j : Int) := by
  have h0 : 0 ≤ IntKind.u64.wrap x := by
    simp [IntKind.wrap, IntKind.signed, IntKind.bits]
    omega
  generalize IntKind.u64.wrap x = y at h0
  have e : y.tmod 8 = y % 8 := Int.tmod_eq_emod_of_nonneg h0
  refine ⟨(y % 8).toNat, by omega, ?_⟩
  rw [e]
  unfold wrap64
  omega
end Go.Proofs.YtcefmhofidoloaaGreatDoor.Exp
