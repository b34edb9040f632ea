/- What is no word stays none with a line feed and a text without quotes behind it: the plain law. -/
import Derived.Test.YtcefmhofidoloaaDoorCatP
set_option linter.unusedVariables false
set_option linter.unusedSimpArgs false
namespace Go.Proofs.YtcefmhofidoloaaDoor.Lex
open Go.RowKit Go.Proofs.YtcefmhofidoloaaDoor.Base

theorem textP_noq : ∀ b : List UInt8, ¬ 39 ∈ b → textP b = none
  | [], _ => textP_nil
  | c :: r, h => by
    have hc : c ≠ 39 := fun e => h (by simp [e])
    rw [textP_c hc, textP_noq r (fun e => h (by simp [e]))]
    rfl
theorem textP_bad (b : List UInt8) (hb : ¬ 39 ∈ b) : ∀ (n : Nat) (l : List UInt8), l.length ≤ n → textP l = none → textP (l ++ 10 :: b) = none
  | _, [], _, _ => textP_noq (10 :: b) (by simpa using hb)
  | 0, c :: r, hn, _ => by simp at hn
  | n + 1, c :: r, hn, h => by
    simp only [List.length_cons] at hn
    by_cases hc : c = 39
    · subst hc
      match r, h, hn with
      | [], h, _ => rw [textP_q0] at h; cases h
      | d :: r', h, hn =>
        simp only [List.length_cons] at hn
        by_cases hd : d = 39
        · subst hd
          rw [textP_q2] at h
          have := textP_bad b hb n r' (by omega) (by simpa using h)
          simp only [List.cons_append]
          rw [textP_q2, this]
          rfl
        · rw [textP_q1 hd] at h; cases h
    · rw [textP_c hc] at h
      have := textP_bad b hb n r (by omega) (by simpa using h)
      simp only [List.cons_append]
      rw [textP_c hc, this]
      rfl
theorem blobP_bad (b : List UInt8) (hb : ¬ 39 ∈ b) {l : List UInt8} (h : blobP l = none) : blobP (l ++ 10 :: b) = none := by
  unfold blobP at h ⊢
  by_cases hm : 39 ∈ l
  · rw [if_pos hm] at h
    rw [if_pos (by simp [hm]), (takeW_ext (10 :: b) l hm).1]
    exact h
  · rw [if_neg (by simp [hm, hb])]
theorem symP_bad (b : List UInt8) {l : List UInt8} (hl : l ≠ []) (h : symP l = 0) : symP (l ++ 10 :: b) = 0 := by
  match l, hl with
  | [c], _ =>
    show symP (c :: 10 :: b) = 0
    have e1 : symP (c :: 10 :: b) = if c ∈ [40, 41, 44, 46, 42, 61, 60, 62, 43, 45, 47, 37, 59] then 1 else 0 := by rw [symP, if_neg (by simp)]
    have e2 : symP [c] = if c ∈ [40, 41, 44, 46, 42, 61, 60, 62, 43, 45, 47, 37, 59] then 1 else 0 := by rw [symP, if_neg (by simp)]
    rw [e1, ← e2]
    exact h
  | c :: d :: r, _ => exact h
theorem tokP_bad (b : List UInt8) (hb : ¬ 39 ∈ b) {l : List UInt8} (hl : l ≠ []) (h : tokP l = none) : tokP (l ++ 10 :: b) = none := by
  match l, hl with
  | c :: r, _ =>
    have hhead2 : (r ++ 10 :: b).head? = some 39 → r.head? = some 39 := fun h => by
      cases r with
      | nil => simp at h
      | cons d r => exact h
    by_cases h1 : (c = 120 ∨ c = 88) ∧ r.head? = some 39
    · rw [tokP_blob h1.1 h1.2] at h
      have h2 : (r ++ 10 :: b).head? = some 39 := by
        cases r with
        | nil => simp at h1
        | cons d r => exact h1.2
      have h3 : (r ++ 10 :: b).tail = r.tail ++ 10 :: b := by
        cases r with
        | nil => simp at h1
        | cons d r => rfl
      rw [List.cons_append, tokP_blob h1.1 h2, h3, blobP_bad b hb (by simpa using h)]
      rfl
    · have h1' : ¬ ((c = 120 ∨ c = 88) ∧ (r ++ 10 :: b).head? = some 39) := fun h => h1 ⟨h.1, hhead2 h.2⟩
      cases hl : isLet c with
      | true => rw [tokP_word h1 hl] at h; cases h
      | false =>
        cases hd : isDig c with
        | true =>
          rw [tokP_num h1 hl hd] at h
          rw [List.cons_append, tokP_num h1' hl hd, ← List.cons_append, runP_ext isDig (by decide), take_ext _ _ _ (runP_le _ _)]
          exact h
        | false =>
          by_cases hq : c = 39
          · subst hq
            rw [tokP_text] at h
            rw [List.cons_append, tokP_text, textP_bad b hb _ r (Nat.le_refl _) (by simpa using h)]
            rfl
          · rw [tokP_sym h1 hl hd hq] at h
            rw [List.cons_append, tokP_sym h1' hl hd hq, ← List.cons_append]
            by_cases h0 : symP (c :: r) = 0
            · rw [symP_bad b (by simp) h0]
              rfl
            · rw [if_neg h0] at h; cases h
/-- A remark, or blanks, ahead. -/
theorem pre_blank {c : UInt8} (h : c = 32 ∨ c = 9 ∨ c = 10 ∨ c = 13) (f k : Nat) (t : List UInt8) : toksP (f + 1) k (c :: t) = toksP f (k + 1) t := by
  rw [toksP]
  try simp only
  rw [if_pos h]
theorem pre_note (r : List UInt8) (hr : ¬ 10 ∈ r) (f k : Nat) (t : List UInt8) : toksP (f + 2) k (45 :: 45 :: (r ++ 10 :: t)) = toksP f (k + r.length + 3) t := by
  have hm : ¬ (10 : UInt8) ∈ 45 :: 45 :: r := by simp [hr]
  obtain ⟨e1, e2⟩ := takeW_no t (45 :: 45 :: r) hm
  rw [toksP]
  try simp only
  rw [if_neg (by decide), if_pos (by simp), if_pos (by simp)]
  simp only [List.cons_append] at e1 e2
  rw [e1, e2, pre_blank (by simp)]
  simp only [List.length_cons]
  rw [show k + (r.length + 1 + 1) + 1 = k + r.length + 3 by omega]
/-- What is refused stays refused, at the same place, with a line feed and a text without quotes behind it. -/
theorem toks_bad (b : List UInt8) (hb : ¬ 39 ∈ b) : ∀ (f g k : Nat) (s : List UInt8) (p : Nat), s.length ≤ f → s.length ≤ g → toksP f k s = .error p → toksP g k (s ++ 10 :: b) = .error p
  | 0, g, k, s, p, _, _, h => by simp [toksP] at h
  | f + 1, g, k, [], p, _, _, h => by simp [toksP] at h
  | f + 1, 0, k, c :: r, p, _, hg, h => by simp at hg
  | f + 1, g + 1, k, c :: r, p, hf, hg, h => by
    simp only [List.length_cons] at hf hg
    rw [toksP] at h
    rw [List.cons_append, toksP]
    try simp only at h
    try simp only
    by_cases h1 : c = 32 ∨ c = 9 ∨ c = 10 ∨ c = 13
    · rw [if_pos h1] at h ⊢
      exact toks_bad b hb f g (k + 1) r p (by omega) (by omega) h
    · rw [if_neg h1] at h ⊢
      by_cases h2 : c = 45 ∧ r.head? = some 45
      · have h2' : c = 45 ∧ (r ++ 10 :: b).head? = some 45 := ⟨h2.1, by
          cases r with
          | nil => simp at h2
          | cons d r => exact h2.2⟩
        rw [if_pos h2] at h
        rw [if_pos h2', if_pos (by simp), ← List.cons_append]
        by_cases hm : (10 : UInt8) ∈ c :: r
        · rw [if_pos hm] at h
          obtain ⟨e1, e2⟩ := takeW_ext (10 :: b) (c :: r) hm
          rw [e1, e2]
          have e : (c :: r).takeWhile (· != 10) ++ (c :: r).dropWhile (· != 10) = c :: r := List.takeWhile_append_dropWhile
          have el := congrArg List.length e
          rw [List.length_append] at el
          simp only [List.length_cons] at el
          have hpos : 1 ≤ ((c :: r).takeWhile (· != 10)).length := by
            rw [List.takeWhile_cons, h2.1, if_pos (by decide)]
            simp
          exact toks_bad b hb f g _ _ p (by omega) (by omega) h
        · rw [if_neg hm] at h
          cases h
      · have h2' : ¬ (c = 45 ∧ (r ++ 10 :: b).head? = some 45) := fun hx => h2 ⟨hx.1, by
          cases r with
          | nil => simp at hx
          | cons d r => exact hx.2⟩
        rw [if_neg h2] at h
        rw [if_neg h2', ← List.cons_append]
        cases ht : tokP (c :: r) with
        | none =>
          rw [ht] at h
          rw [tokP_bad b hb (by simp) ht]
          exact h
        | some x =>
          obtain ⟨t, n⟩ := x
          rw [ht] at h
          simp only at h
          have hn := tokP_le ht
          simp only [List.length_cons] at hn
          rw [tokP_ext b ht]
          simp only
          have hd : ((c :: r) ++ 10 :: b).drop n = (c :: r).drop n ++ 10 :: b := by
            rw [List.drop_append_of_le_length (by simp only [List.length_cons]; omega)]
          rw [hd]
          have hdl : ((c :: r).drop n).length = r.length + 1 - n := by rw [List.length_drop]; simp
          cases hr : toksP f (k + n) ((c :: r).drop n) with
          | error j =>
            rw [hr] at h
            simp [Except.map] at h
            subst h
            rw [toks_bad b hb f g _ _ j (by omega) (by omega) hr]
            rfl
          | ok ts' => rw [hr] at h; simp [Except.map] at h
end Go.Proofs.YtcefmhofidoloaaDoor.Lex
