/- Tokens: the plain law of its loop. -/
import Derived.Test.YtcefmhofidoloaaGreatDoorLx10
set_option linter.unusedVariables false
set_option linter.unusedSimpArgs false
namespace Go.Proofs.YtcefmhofidoloaaGreatDoor.Lex
open Go.RowKit Go.Proofs.YtcefmhofidoloaaGreatDoor.Base Go.Proofs.YtcefmhofidoloaaGreatDoor.App Go.Proofs.YtcefmhofidoloaaGreatDoor.Byt

/-- The words of a text. -/
def lexT (l : List UInt8) : Except Nat (List (Tk × Nat)) := toksP l.length 0 l
def addT (done : List (Tk × Nat)) (x : Except Nat (List (Tk × Nat))) : Except Nat (List (Tk × Nat)) := match x with | .ok r => .ok (done ++ r) | .error k => .error k
/-- The words that are found so far, and the place. -/
def LexSt (l : List UInt8) (done : List (Tk × Nat)) (k : Nat) : Prop :=
  ∃ f, l.length - k ≤ f ∧ lexT l = addT done (toksP f k (l.drop k))
theorem LexSt.start (l : List UInt8) : LexSt l [] 0 := by
  refine ⟨l.length, by omega, ?_⟩
  rw [List.drop_zero]
  unfold lexT
  cases toksP l.length 0 l <;> rfl
theorem drop_len {l : List UInt8} {k : Nat} {c : UInt8} {r : List UInt8} (h : l.drop k = c :: r) : k < l.length ∧ r = l.drop (k + 1) ∧ l.length - k = r.length + 1 := by
  have h1 := congrArg List.length h
  simp only [List.length_drop, List.length_cons] at h1
  have hk : k < l.length := by omega
  refine ⟨hk, ?_, h1⟩
  rw [List.drop_eq_getElem_cons hk] at h
  injection h with _ h
  exact h.symm
theorem LexSt.fin {l : List UInt8} {done : List (Tk × Nat)} {k : Nat} (h : LexSt l done k) (hk : l.drop k = []) : lexT l = .ok done := by
  obtain ⟨f, hf, h⟩ := h
  rw [h, hk]
  cases f with
  | zero => simp [toksP, addT]
  | succ f => simp [toksP, addT]
theorem LexSt.unfold {l : List UInt8} {done : List (Tk × Nat)} {k : Nat} {c : UInt8} {r : List UInt8} (h : LexSt l done k) (hk : l.drop k = c :: r) : ∃ f, r.length ≤ f ∧ lexT l = addT done (toksP (f + 1) k (c :: r)) := by
  obtain ⟨f, hf, h⟩ := h
  obtain ⟨h1, h2, h3⟩ := drop_len hk
  cases f with
  | zero => omega
  | succ f => exact ⟨f, by omega, by rw [h, hk]⟩
def isBl (c : UInt8) : Prop := c = 32 ∨ c = 9 ∨ c = 10 ∨ c = 13
theorem LexSt.blank {l : List UInt8} {done : List (Tk × Nat)} {k : Nat} {c : UInt8} {r : List UInt8} (h : LexSt l done k) (hk : l.drop k = c :: r) (hb : isBl c) : LexSt l done (k + 1) := by
  obtain ⟨f, hf, h⟩ := h.unfold hk
  obtain ⟨h1, h2, h3⟩ := drop_len hk
  refine ⟨f, by omega, ?_⟩
  rw [h, ← h2, toksP]
  try simp only
  rw [if_pos (show c = 32 ∨ c = 9 ∨ c = 10 ∨ c = 13 from hb)]
theorem LexSt.note {l : List UInt8} {done : List (Tk × Nat)} {k : Nat} {c : UInt8} {r : List UInt8} (h : LexSt l done k) (hk : l.drop k = c :: r) (hc : c = 45) (hr : r.head? = some 45) (hm : 10 ∈ l.drop k) : LexSt l done (k + ((l.drop k).takeWhile (· != 10)).length) := by
  obtain ⟨f, hf, h⟩ := h.unfold hk
  obtain ⟨h1, h2, h3⟩ := drop_len hk
  have hw : (l.drop k).dropWhile (· != 10) = l.drop (k + ((l.drop k).takeWhile (· != 10)).length) := by
    rw [← List.drop_drop]
    have e : (l.drop k).takeWhile (· != 10) ++ (l.drop k).dropWhile (· != 10) = l.drop k := List.takeWhile_append_dropWhile
    have := List.drop_left' (l₁ := (l.drop k).takeWhile (· != 10)) (l₂ := (l.drop k).dropWhile (· != 10)) rfl
    rw [e] at this
    exact this.symm
  have hge : 1 ≤ ((l.drop k).takeWhile (· != 10)).length := by
    rw [hk, List.takeWhile_cons, hc]
    simp
  refine ⟨f, by omega, ?_⟩
  rw [h, ← hw, hk, toksP]
  try simp only
  rw [if_neg (by rw [hc]; decide), if_pos ⟨hc, hr⟩, if_pos (by rw [← hk]; exact hm)]
theorem LexSt.last {l : List UInt8} {done : List (Tk × Nat)} {k : Nat} {c : UInt8} {r : List UInt8} (h : LexSt l done k) (hk : l.drop k = c :: r) (hc : c = 45) (hr : r.head? = some 45) (hm : ¬ 10 ∈ l.drop k) : lexT l = .ok done := by
  obtain ⟨f, hf, h⟩ := h.unfold hk
  rw [h, toksP]
  try simp only
  rw [if_neg (by rw [hc]; decide), if_pos ⟨hc, hr⟩, if_neg (by rw [← hk]; exact hm)]
  simp [addT]
theorem LexSt.bad {l : List UInt8} {done : List (Tk × Nat)} {k : Nat} {c : UInt8} {r : List UInt8} (h : LexSt l done k) (hk : l.drop k = c :: r) (hb : ¬ isBl c) (hn : ¬ (c = 45 ∧ r.head? = some 45)) (ht : tokP (l.drop k) = none) : lexT l = .error k := by
  obtain ⟨f, hf, h⟩ := h.unfold hk
  rw [hk] at ht
  rw [h, toksP]
  try simp only
  rw [if_neg (show ¬ (c = 32 ∨ c = 9 ∨ c = 10 ∨ c = 13) from hb), if_neg hn, ht]
  rfl
theorem LexSt.word {l : List UInt8} {done : List (Tk × Nat)} {k : Nat} {c : UInt8} {r : List UInt8} (h : LexSt l done k) (hk : l.drop k = c :: r) (hb : ¬ isBl c) (hn : ¬ (c = 45 ∧ r.head? = some 45)) {t : Tk} {n : Nat} (ht : tokP (l.drop k) = some (t, n)) : LexSt l (done ++ [(t, k)]) (k + n) := by
  obtain ⟨f, hf, h⟩ := h.unfold hk
  obtain ⟨h1, h2, h3⟩ := drop_len hk
  have h4 := tokP_le ht
  simp only at h4
  rw [hk] at ht
  refine ⟨f, by omega, ?_⟩
  rw [h, toksP]
  try simp only
  rw [if_neg (show ¬ (c = 32 ∨ c = 9 ∨ c = 10 ∨ c = 13) from hb), if_neg hn, ht]
  try simp only
  rw [← hk, List.drop_drop]
  cases toksP f (k + n) (l.drop (k + n)) <;> simp [addT, Except.map]
end Go.Proofs.YtcefmhofidoloaaGreatDoor.Lex
