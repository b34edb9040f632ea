/- The words of two texts with a line feed between: the plain law. -/
import Derived.Test.YtcefmhofidoloaaGreatDoorLx12
import Derived.Test.YtcefmhofidoloaaGreatDoorLx4
set_option linter.unusedVariables false
set_option linter.unusedSimpArgs false
namespace Go.Proofs.YtcefmhofidoloaaGreatDoor.Lex
open Go.RowKit Go.Proofs.YtcefmhofidoloaaGreatDoor.Base

theorem runP_ext (p : UInt8 → Bool) (h10 : p 10 = false) (b : List UInt8) : ∀ l, runP p (l ++ 10 :: b) = runP p l
  | [] => by simp [runP, h10]
  | c :: r => by
    simp only [List.cons_append, runP, runP_ext p h10 b r]
theorem take_ext (l b : List UInt8) (n : Nat) (h : n ≤ l.length) : (l ++ b).take n = l.take n := by
  rw [List.take_append_of_le_length h]
theorem textP_ext (b : List UInt8) : ∀ (n : Nat) (l : List UInt8), l.length ≤ n → ∀ x, textP l = some x → textP (l ++ 10 :: b) = some x
  | _, [], _, x, h => by rw [textP_nil] at h; cases h
  | 0, c :: r, hn, x, h => by simp at hn
  | n + 1, c :: r, hn, x, h => by
    simp only [List.length_cons] at hn
    by_cases hc : c = 39
    · subst hc
      match r, h, hn with
      | [], h, _ =>
        rw [textP_q0] at h
        injection h with h
        subst h
        exact textP_q1 (by decide) b
      | d :: r', h, hn =>
        simp only [List.length_cons] at hn
        by_cases hd : d = 39
        · subst hd
          rw [textP_q2] at h
          obtain ⟨y, hy, rfl⟩ := Option.map_eq_some_iff.mp h
          have := textP_ext b n r' (by omega) y hy
          simp only [List.cons_append]
          rw [textP_q2, this]
          rfl
        · rw [textP_q1 hd] at h
          injection h with h
          subst h
          exact textP_q1 hd _
    · rw [textP_c hc] at h
      obtain ⟨y, hy, rfl⟩ := Option.map_eq_some_iff.mp h
      have := textP_ext b n r (by omega) y hy
      simp only [List.cons_append]
      rw [textP_c hc, this]
      rfl
theorem takeW_ext {a : UInt8} (b : List UInt8) : ∀ l : List UInt8, a ∈ l → (l ++ b).takeWhile (· != a) = l.takeWhile (· != a) ∧ (l ++ b).dropWhile (· != a) = l.dropWhile (· != a) ++ b
  | [], h => by simp at h
  | c :: r, h => by
    simp only [List.cons_append, List.takeWhile_cons, List.dropWhile_cons]
    by_cases hc : c = a
    · subst hc; simp
    · have hm : a ∈ r := by
        rcases List.mem_cons.mp h with e | h
        · exact absurd e.symm hc
        · exact h
      have ih := takeW_ext b r hm
      have h1 : (c != a) = true := by simpa using hc
      rw [if_pos h1, if_pos h1, if_pos h1, if_pos h1, ih.1, ih.2]
      exact ⟨rfl, rfl⟩
theorem takeW_no {a : UInt8} (b : List UInt8) : ∀ l : List UInt8, ¬ a ∈ l → (l ++ a :: b).takeWhile (· != a) = l ∧ (l ++ a :: b).dropWhile (· != a) = a :: b
  | [], h => by simp
  | c :: r, h => by
    have hc : ¬ c = a := fun e => h (by simp [e])
    have hm : ¬ a ∈ r := fun e => h (by simp [e])
    have ih := takeW_no b r hm
    have h1 : (c != a) = true := by simpa using hc
    simp only [List.cons_append, List.takeWhile_cons, List.dropWhile_cons]
    rw [if_pos h1, if_pos h1, ih.1, ih.2]
    exact ⟨rfl, rfl⟩
theorem blobP_ext (b : List UInt8) {l : List UInt8} {x : List UInt8 × Nat} (h : blobP l = some x) : blobP (l ++ 10 :: b) = some x := by
  unfold blobP at h ⊢
  by_cases hm : 39 ∈ l
  · rw [if_pos hm] at h
    rw [if_pos (by simp [hm]), (takeW_ext (10 :: b) l hm).1]
    exact h
  · rw [if_neg hm] at h; cases h
theorem symP_ext (b : List UInt8) {l : List UInt8} (h : symP l ≠ 0) : symP (l ++ 10 :: b) = symP l := by
  match l with
  | [] => simp [symP] at h
  | [c] =>
    show symP (c :: 10 :: b) = symP [c]
    have e1 : symP (c :: 10 :: b) = if c ∈ [40, 41, 44, 46, 42, 61, 60, 62, 43, 45, 47, 37, 59] then 1 else 0 := by rw [symP, if_neg (by simp)]
    have e2 : symP [c] = if c ∈ [40, 41, 44, 46, 42, 61, 60, 62, 43, 45, 47, 37, 59] then 1 else 0 := by rw [symP, if_neg (by simp)]
    rw [e1, e2]
  | c :: d :: r => rfl
theorem tokP_ext (b : List UInt8) {l : List UInt8} {x : Tk × Nat} (h : tokP l = some x) : tokP (l ++ 10 :: b) = some x := by
  match l, h with
  | c :: r, h =>
    have hhead : r.head? = some 39 → (r ++ 10 :: b).head? = some 39 := fun h => by
      cases r with
      | nil => cases h
      | cons d r => exact h
    have hhead2 : (r ++ 10 :: b).head? = some 39 → r.head? = some 39 := fun h => by
      cases r with
      | nil => simp at h
      | cons d r => exact h
    by_cases h1 : (c = 120 ∨ c = 88) ∧ r.head? = some 39
    · rw [tokP_blob h1.1 h1.2] at h
      rw [List.cons_append, tokP_blob h1.1 (hhead h1.2)]
      obtain ⟨y, hy, rfl⟩ := Option.map_eq_some_iff.mp h
      have : (r ++ 10 :: b).tail = r.tail ++ 10 :: b := by
        cases r with
        | nil => simp at h1
        | cons d r => rfl
      rw [this, blobP_ext b hy]
      rfl
    · have h1' : ¬ ((c = 120 ∨ c = 88) ∧ (r ++ 10 :: b).head? = some 39) := fun h => h1 ⟨h.1, hhead2 h.2⟩
      cases hl : isLet c with
      | true =>
        rw [tokP_word h1 hl] at h
        rw [List.cons_append, tokP_word h1' hl, ← List.cons_append, runP_ext isWrd (by decide), take_ext _ _ _ (runP_le _ _)]
        exact h
      | false =>
        cases hd : isDig c with
        | true =>
          rw [tokP_num h1 hl hd] at h
          rw [List.cons_append, tokP_num h1' hl hd, ← List.cons_append, runP_ext isDig (by decide), take_ext _ _ _ (runP_le _ _)]
          exact h
        | false =>
          by_cases hq : c = 39
          · subst hq
            rw [tokP_text] at h
            rw [List.cons_append, tokP_text]
            obtain ⟨y, hy, rfl⟩ := Option.map_eq_some_iff.mp h
            rw [textP_ext b _ r (Nat.le_refl _) y hy]
            rfl
          · rw [tokP_sym h1 hl hd hq] at h
            rw [List.cons_append, tokP_sym h1' hl hd hq, ← List.cons_append]
            by_cases h0 : symP (c :: r) = 0
            · rw [if_pos h0] at h; cases h
            · rw [if_neg h0] at h
              rw [symP_ext b h0, if_neg h0, take_ext _ _ _ (symP_le _)]
              exact h

/-- Enough fuel is enough. -/
theorem toks_fuel : ∀ (f g k : Nat) (s : List UInt8), s.length ≤ f → s.length ≤ g → toksP f k s = toksP g k s
  | 0, 0, k, s, _, _ => rfl
  | 0, g + 1, k, s, h, _ => by
    have : s = [] := List.length_eq_zero_iff.mp (by omega)
    subst this
    simp [toksP]
  | f + 1, 0, k, s, _, h => by
    have : s = [] := List.length_eq_zero_iff.mp (by omega)
    subst this
    simp [toksP]
  | f + 1, g + 1, k, [], _, _ => by simp [toksP]
  | f + 1, g + 1, k, c :: r, hf, hg => by
    simp only [List.length_cons] at hf hg
    rw [toksP, toksP]
    try simp only
    split
    · exact toks_fuel f g _ _ (by omega) (by omega)
    · split
      · rename_i hc
        split
        · have h2 : ((c :: r).dropWhile (· != 10)).length ≤ r.length := by
            rw [List.dropWhile_cons, hc.1, if_pos (by decide)]
            have e : r.takeWhile (· != 10) ++ r.dropWhile (· != 10) = r := List.takeWhile_append_dropWhile
            have := congrArg List.length e
            rw [List.length_append] at this
            omega
          exact toks_fuel f g _ _ (by omega) (by omega)
        · rfl
      · cases ht : tokP (c :: r) with
        | none => rfl
        | some x =>
          obtain ⟨t, n⟩ := x
          have hn := tokP_le ht
          simp only [List.length_cons] at hn
          simp only
          rw [toks_fuel f g _ _ (by rw [List.length_drop]; simp only [List.length_cons]; omega) (by rw [List.length_drop]; simp only [List.length_cons]; omega)]
def shT (d : Nat) (l : List (Tk × Nat)) : List (Tk × Nat) := l.map fun x => (x.1, x.2 + d)
def shE (d : Nat) (x : Except Nat (List (Tk × Nat))) : Except Nat (List (Tk × Nat)) := match x with | .ok r => .ok (shT d r) | .error k => .error (k + d)
/-- Places are told from where the text begins. -/
theorem toks_shift (d : Nat) : ∀ (f k : Nat) (s : List UInt8), toksP f (k + d) s = shE d (toksP f k s)
  | 0, k, s => by simp [toksP, shE, shT]
  | f + 1, k, [] => by simp [toksP, shE, shT]
  | f + 1, k, c :: r => by
    rw [toksP, toksP]
    try simp only
    split
    · rw [show k + d + 1 = k + 1 + d by omega]
      exact toks_shift d f _ _
    · split
      · split
        · rw [show ∀ j, k + d + j = k + j + d from fun j => by omega]
          exact toks_shift d f _ _
        · simp [shE, shT]
      · cases ht : tokP (c :: r) with
        | none => rfl
        | some x =>
          obtain ⟨t, n⟩ := x
          simp only
          rw [show k + d + n = k + n + d by omega, toks_shift d f _ _]
          cases toksP f (k + n) ((c :: r).drop n) <;> simp [shE, shT, Except.map]
/-- The words of two texts with a line feed between. -/
theorem toks_cat (b : List UInt8) : ∀ (f g k : Nat) (s : List UInt8) (ts : List (Tk × Nat)), s.length ≤ f → s.length + 1 + b.length ≤ g → toksP f k s = .ok ts →
    toksP g k (s ++ 10 :: b) = addT ts (toksP b.length (k + s.length + 1) b)
  | f, g, k, [], ts, _, hg, h => by
    have hts : ts = [] := by cases f <;> simp [toksP] at h <;> first | exact h | exact h.symm
    subst hts
    cases g with
    | zero => simp at hg
    | succ g =>
      simp only [List.length_nil] at hg
      rw [List.nil_append, toksP]
      try simp only
      rw [if_pos (by decide), toks_fuel g b.length _ _ (by omega) (Nat.le_refl _)]
      simp only [List.length_nil, Nat.add_zero]
      cases toksP b.length (k + 1) b <;> simp [addT]
  | 0, g, k, c :: r, ts, hf, _, _ => by simp at hf
  | f + 1, 0, k, c :: r, ts, _, hg, _ => by simp at hg
  | f + 1, g + 1, k, c :: r, ts, hf, hg, h => by
    simp only [List.length_cons] at hf hg
    rw [toksP] at h
    rw [List.cons_append, toksP]
    try simp only at h
    try simp only
    by_cases h1 : c = 32 ∨ c = 9 ∨ c = 10 ∨ c = 13
    · rw [if_pos h1] at h ⊢
      rw [toks_cat b f g (k + 1) r ts (by omega) (by omega) h]
      simp only [List.length_cons]
      rw [show k + 1 + r.length + 1 = k + (r.length + 1) + 1 by omega]
    · rw [if_neg h1] at h ⊢
      by_cases h2 : c = 45 ∧ r.head? = some 45
      · have h2' : c = 45 ∧ (r ++ 10 :: b).head? = some 45 := ⟨h2.1, by
          cases r with
          | nil => simp at h2
          | cons d r => exact h2.2⟩
        rw [if_pos h2] at h
        rw [if_pos h2', if_pos (by simp), ← List.cons_append]
        by_cases hm : (10 : UInt8) ∈ c :: r
        · rw [if_pos hm] at h
          obtain ⟨e1, e2⟩ := takeW_ext (10 :: b) (c :: r) hm
          rw [e1, e2]
          have e : (c :: r).takeWhile (· != 10) ++ (c :: r).dropWhile (· != 10) = c :: r := List.takeWhile_append_dropWhile
          have el := congrArg List.length e
          rw [List.length_append] at el
          simp only [List.length_cons] at el
          have hpos : 1 ≤ ((c :: r).takeWhile (· != 10)).length := by
            rw [List.takeWhile_cons, h2.1, if_pos (by decide)]
            simp
          rw [toks_cat b f g _ _ ts (by omega) (by omega) h]
          simp only [List.length_cons]
          rw [show k + ((c :: r).takeWhile (· != 10)).length + ((c :: r).dropWhile (· != 10)).length + 1 = k + (r.length + 1) + 1 by omega]
        · rw [if_neg hm] at h
          injection h with h
          subst h
          obtain ⟨e1, e2⟩ := takeW_no b (c :: r) hm
          rw [e1, e2]
          cases g with
          | zero => omega
          | succ g =>
            rw [toksP]
            try simp only
            rw [if_pos (by decide), toks_fuel g b.length _ _ (by omega) (Nat.le_refl _)]
            cases toksP b.length (k + (c :: r).length + 1) b <;> simp [addT]
      · have h2' : ¬ (c = 45 ∧ (r ++ 10 :: b).head? = some 45) := fun hx => h2 ⟨hx.1, by
          cases r with
          | nil => simp at hx
          | cons d r => exact hx.2⟩
        rw [if_neg h2] at h
        rw [if_neg h2']
        cases ht : tokP (c :: r) with
        | none => rw [ht] at h; simp at h
        | some x =>
          obtain ⟨t, n⟩ := x
          rw [ht] at h
          simp only at h
          have hn := tokP_le ht
          simp only [List.length_cons] at hn
          rw [← List.cons_append, tokP_ext b ht]
          simp only
          have hd : ((c :: r) ++ 10 :: b).drop n = (c :: r).drop n ++ 10 :: b := by
            rw [List.drop_append_of_le_length (by simp only [List.length_cons]; omega)]
          rw [hd]
          cases hr : toksP f (k + n) ((c :: r).drop n) with
          | error j => rw [hr] at h; simp [Except.map] at h
          | ok ts' =>
            rw [hr] at h
            simp [Except.map] at h
            subst h
            have hdl : ((c :: r).drop n).length = r.length + 1 - n := by rw [List.length_drop]; simp
            rw [toks_cat b f g _ _ ts' (by omega) (by omega) hr]
            rw [show k + n + ((c :: r).drop n).length + 1 = k + (c :: r).length + 1 by rw [hdl]; simp only [List.length_cons]; omega]
            cases toksP b.length (k + (c :: r).length + 1) b <;> simp [addT, Except.map]
theorem lexT_cat {a b : List UInt8} {xs ys : List (Tk × Nat)} (ha : lexT a = .ok xs) (hb : lexT b = .ok ys) : lexT (a ++ 10 :: b) = .ok (xs ++ shT (a.length + 1) ys) := by
  unfold lexT at ha hb ⊢
  rw [toks_cat b a.length _ 0 a xs (Nat.le_refl _) (by simp; omega) ha]
  rw [show 0 + a.length + 1 = 0 + (a.length + 1) by omega, toks_shift, hb]
  rfl
end Go.Proofs.YtcefmhofidoloaaGreatDoor.Lex
