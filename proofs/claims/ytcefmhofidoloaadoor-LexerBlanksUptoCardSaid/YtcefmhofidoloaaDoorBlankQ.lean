/- Blanks and a remark ahead, a remark behind: the plain law. -/
import Derived.Test.YtcefmhofidoloaaDoorBlankP
set_option linter.unusedVariables false
set_option linter.unusedSimpArgs false
namespace Go.Proofs.YtcefmhofidoloaaDoor.Lex
open Go.RowKit Go.Proofs.YtcefmhofidoloaaDoor.Base

/-- What is ahead of a text and holds no word. -/
def Ahead (s : List UInt8) : Prop := ∀ (k : Nat) (t : List UInt8) (g : Nat), s.length + t.length ≤ g → toksP g k (s ++ t) = toksP t.length (k + s.length) t
theorem Ahead.nil : Ahead [] := fun k t g h => by
  simp only [List.length_nil, Nat.zero_add] at h
  exact toks_fuel g t.length _ _ h (Nat.le_refl _)
theorem Ahead.blank {c : UInt8} (hc : c = 32 ∨ c = 9 ∨ c = 10 ∨ c = 13) {s : List UInt8} (hs : Ahead s) : Ahead (c :: s) := fun k t g h => by
  simp only [List.length_cons] at h
  obtain ⟨g', rfl⟩ : ∃ g', g = g' + 1 := ⟨g - 1, by omega⟩
  rw [List.cons_append, pre_blank hc, hs (k + 1) t g' (by omega), List.length_cons, show k + 1 + s.length = k + (s.length + 1) by omega]
theorem Ahead.note {r : List UInt8} (hr : ¬ 10 ∈ r) : Ahead (45 :: 45 :: (r ++ [10])) := fun k t g h => by
  simp only [List.length_cons, List.length_append, List.length_nil] at h
  obtain ⟨g', rfl⟩ : ∃ g', g = g' + 2 := ⟨g - 2, by omega⟩
  have e : (45 :: 45 :: (r ++ [10])) ++ t = 45 :: 45 :: (r ++ 10 :: t) := by simp
  rw [e, pre_note r hr, toks_fuel g' t.length _ _ (by omega) (Nat.le_refl _)]
  simp only [List.length_cons, List.length_append, List.length_nil]
  rw [show k + r.length + 3 = k + (r.length + (0 + 1) + 1 + 1) by omega]
theorem Ahead.append {s s' : List UInt8} (h : Ahead s) (h' : Ahead s') : Ahead (s ++ s') := fun k t g hg => by
  rw [List.length_append] at hg
  rw [List.append_assoc, h k (s' ++ t) g (by rw [List.length_append]; omega), h' _ t _ (by rw [List.length_append]; exact Nat.le_refl _), List.length_append, show k + s.length + s'.length = k + (s.length + s'.length) by omega]
theorem lexT_ahead {s t : List UInt8} (h : Ahead s) : lexT (s ++ t) = shE s.length (lexT t) := by
  unfold lexT
  rw [h 0 t _ (by rw [List.length_append]; exact Nat.le_refl _), toks_shift]
theorem lexT_behind_bad {t b : List UInt8} {p : Nat} (hb : ¬ 39 ∈ b) (h : lexT t = .error p) : lexT (t ++ 10 :: b) = .error p := by
  unfold lexT at h ⊢
  exact toks_bad b hb t.length _ 0 t p (Nat.le_refl _) (by simp) h
theorem lexT_behind_ok {t b : List UInt8} {ts : List (Tk × Nat)} (hb : lexT b = .ok []) (h : lexT t = .ok ts) : lexT (t ++ 10 :: b) = .ok ts := by
  rw [lexT_cat h hb]
  simp [shT]
end Go.Proofs.YtcefmhofidoloaaDoor.Lex
