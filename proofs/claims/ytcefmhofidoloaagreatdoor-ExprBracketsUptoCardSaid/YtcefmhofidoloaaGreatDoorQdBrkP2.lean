/- A text in brackets: the plain law over the words of texts. -/
import Derived.Test.YtcefmhofidoloaaGreatDoorQc10
import Derived.Test.YtcefmhofidoloaaGreatDoorQdBrkP
set_option linter.unusedVariables false
set_option linter.unusedSimpArgs false
namespace Go.Proofs.YtcefmhofidoloaaGreatDoor.Exp
open Go.RowKit Go.Proofs.YtcefmhofidoloaaGreatDoor.Base Go.Proofs.YtcefmhofidoloaaGreatDoor.App Go.Proofs.YtcefmhofidoloaaGreatDoor.Byt Go.Proofs.YtcefmhofidoloaaGreatDoor.Lex

theorem lexE_some {l : List UInt8} {k : Nat} {a : Ex} {j : Nat} (h : (readF nmOk (lexE l) k).or 0 = .ok (a, j)) : ∃ ts, lexT l = .ok ts ∧ lexE l = ts ∧ l.length ≤ 16384 := by
  have h1 := (readF_ahd nmOk (lexE l) k).or _ _ _ h
  have h2 := (readF_le nmOk (lexE l) k).or _ _ _ h
  by_cases hl : 16384 < l.length
  · have e : lexE l = [] := by unfold lexE; rw [if_pos hl]
    rw [e] at h2
    simp at h2
    omega
  · cases hx : lexT l with
    | error p =>
      have e : lexE l = [] := by unfold lexE; rw [if_neg hl, hx]
      rw [e] at h2
      simp at h2
      omega
    | ok ts => exact ⟨ts, rfl, lexE_ok (by omega) hx, by omega⟩
theorem brack_words1 {l : List UInt8} (hl : l.length ≤ 4000) {a : Ex} (h : (readF nmOk (lexE l) 32).or 0 = .ok (a, (lexE l).length)) :
    (∃ j, (readF nmOk (lexE ([40] ++ l ++ [10, 41])) 32).or 0 = .ok (a, j)) ∨ ∃ p, (readF nmOk (lexE ([40] ++ l ++ [10, 41])) 32).or 0 = .error (p, 21) := by
  obtain ⟨ts, h1, h2, _⟩ := lexE_some h
  obtain ⟨xs, h3, h4⟩ := lex_brack1 h1
  rw [lexE_ok (by simp only [List.length_append, List.length_cons, List.length_nil]; omega) h3]
  rw [h2] at h
  rcases brack_law1 h h4 with h5 | h5
  · exact .inl ⟨_, h5⟩
  · exact .inr h5
theorem brack_words2 {l : List UInt8} (hl : l.length ≤ 4000) {a : Ex} (h : (readF nmOk (lexE l) 32).or 0 = .ok (a, (lexE l).length)) :
    (∃ j, (readF nmOk (lexE ([40, 40] ++ l ++ [10, 41, 41])) 32).or 0 = .ok (a, j)) ∨ ∃ p, (readF nmOk (lexE ([40, 40] ++ l ++ [10, 41, 41])) 32).or 0 = .error (p, 21) := by
  obtain ⟨ts, h1, h2, _⟩ := lexE_some h
  obtain ⟨xs, h3, h4⟩ := lex_brack2 h1
  rw [lexE_ok (by simp only [List.length_append, List.length_cons, List.length_nil]; omega) h3]
  rw [h2] at h
  rcases brack_law2 h h4 with h5 | h5
  · exact .inl ⟨_, h5⟩
  · exact .inr h5
end Go.Proofs.YtcefmhofidoloaaGreatDoor.Exp
