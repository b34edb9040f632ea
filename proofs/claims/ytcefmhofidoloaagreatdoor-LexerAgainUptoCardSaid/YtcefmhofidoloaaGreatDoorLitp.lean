/- How a text and a blob are written; plain laws on lists. -/
import Derived.Lib.Replace
import Derived.Lib.IndexLaws
import Derived.Test.YtcefmhofidoloaaGreatDoorProg
set_option linter.unusedVariables false
set_option linter.unusedSimpArgs false
namespace Go.Proofs.YtcefmhofidoloaaGreatDoor.Lex

def quote1 (c : UInt8) : List UInt8 := if c = 39 then [39, 39] else [c]
def quotes (l : List UInt8) : List UInt8 := l.flatMap quote1
theorem quotes_nil : quotes [] = [] := rfl
theorem quotes_cons (c : UInt8) (l : List UInt8) : quotes (c :: l) = quote1 c ++ quotes l := rfl
theorem quotes_append (a b : List UInt8) : quotes (a ++ b) = quotes a ++ quotes b := by simp [quotes]
theorem quotes_none {l : List UInt8} (h : ∀ c ∈ l, c ≠ 39) : quotes l = l := by
  induction l with
  | nil => rfl
  | cons c l ih =>
    rw [quotes_cons, ih (fun d hd => h d (by simp [hd]))]
    simp [quote1, h c (by simp)]
theorem occ_one (s : List UInt8) (i : Nat) : Lib.occAt s [39] i = true ↔ s[i]? = some 39 := by
  unfold Lib.occAt
  cases h : s.drop i with
  | nil =>
    have : s[i]? = none := by
      rw [List.drop_eq_nil_iff] at h
      exact List.getElem?_eq_none h
    simp [this]
  | cons c r =>
    have : s[i]? = some c := by
      have := congrArg (fun l => l[0]?) h
      simpa using this
    rw [this]
    simp [List.isPrefixOf]
    exact eq_comm
theorem replaceK_quotes : ∀ (k : Nat) (s : List UInt8), Lib.count s [39] ≤ k → Lib.replaceK [39] [39, 39] k s = quotes s := by
  intro k
  induction k with
  | zero =>
    intro s h
    rw [Lib.count_one] at h
    show s = quotes s
    rw [quotes_none]
    intro c hc e
    subst e
    have := List.count_pos_iff.2 hc
    omega
  | succ k ih =>
    intro s h
    rcases Lib.index_spec s [39] with ⟨h1, h2⟩ | ⟨i, h1, hi, hocc, hno⟩
    · rw [Lib.replaceK, if_pos (by rw [h1]; rfl), quotes_none]
      intro c hc e
      subst e
      obtain ⟨j, hj, hjc⟩ := List.getElem_of_mem hc
      have h3 := (occ_one s j).2 (by rw [List.getElem?_eq_getElem hj, hjc])
      have h4 := h2 j (by omega)
      rw [h3] at h4
      cases h4
    · rw [Lib.replaceK_hit _ _ _ _ _ h1]
      have h39 := (occ_one s i).1 hocc
      have hlt : i < s.length := (List.getElem?_eq_some_iff.1 h39).1
      have hs : s = s.take i ++ 39 :: s.drop (i + 1) := by
        have e : s[i] = 39 := (List.getElem?_eq_some_iff.1 h39).2
        rw [← e, ← List.drop_eq_getElem_cons hlt, List.take_append_drop]
      have hc := Lib.count_hit (sub := [39]) (by simp) h1
      simp only [List.length_cons, List.length_nil, Nat.zero_add] at hc ⊢
      rw [ih _ (by omega)]
      have hq : quotes (s.take i) = s.take i := quotes_none (by
        intro c hc2 e
        subst e
        obtain ⟨j, hj, hjc⟩ := List.getElem_of_mem hc2
        rw [List.length_take] at hj
        have h3 := (occ_one s j).2 (by
          have h5 : (s.take i)[j]? = some 39 := by rw [List.getElem?_eq_getElem (by rw [List.length_take]; omega), hjc]
          rw [List.getElem?_take, if_pos (by omega)] at h5
          exact h5)
        have h4 := hno j (by omega)
        rw [h3] at h4
        cases h4)
      have e2 : quotes s = quotes (s.take i ++ 39 :: s.drop (i + 1)) := by rw [← hs]
      rw [e2, quotes_append, quotes_cons, hq]
      simp [quote1]
theorem replace_quotes (s : List UInt8) : Lib.replaceAll s [39] [39, 39] = quotes s := by
  unfold Lib.replaceAll Lib.replace Lib.replaceNum
  rw [if_neg (by decide), if_pos (by left; decide)]
  exact replaceK_quotes _ _ (Nat.le_refl _)
theorem quotes_len (s : List UInt8) : (quotes s).length ≤ 2 * s.length := by
  induction s with
  | nil => simp [quotes]
  | cons c s ih =>
    rw [quotes_cons, List.length_append, List.length_cons]
    have : (quote1 c).length ≤ 2 := by unfold quote1; split <;> simp
    omega
theorem str_cat (a b : List UInt8) : (⟨a.toArray⟩ : ByteArray) ++ (⟨b.toArray⟩ : ByteArray) = ⟨(a ++ b).toArray⟩ := by
  apply ByteArray.ext
  simp [ByteArray.data_append]
end Go.Proofs.YtcefmhofidoloaaGreatDoor.Lex
