/- Operators of one line go together from the left on: the plain law of ExprLeft. -/
import Derived.Test.YtcefmhofidoloaaGreatDoorQc10
import Derived.Test.YtcefmhofidoloaaGreatDoorQdDeepP
set_option linter.unusedVariables false
set_option linter.unusedSimpArgs false
namespace Go.Proofs.YtcefmhofidoloaaGreatDoor.Exp
open Go.Proofs.YtcefmhofidoloaaGreatDoor.Lex

/-- The operators of the law: the text, the number. -/
def leftT : List (List UInt8) := [[43], [45], [42], [47], [37], [124, 124], [97, 110, 100], [111, 114]]
def leftO : List Int := [11, 12, 13, 14, 15, 16, 4, 3]
def digE (d : Nat) : Ex := litE ⟨2, (d : Int), []⟩
def digK (d : Nat) : Tk := ⟨2, [], (d : Int)⟩
def digB (d : Nat) : List UInt8 := [UInt8.ofNat (48 + d)]
theorem dig_itoa {d : Nat} (h : d < 10) : Lib.itoa (d : Int) = digB d := by
  have : ∀ m : Fin 10, Lib.itoa ((m.val : Nat) : Int) = digB m.val := by decide +kernel
  exact this ⟨d, h⟩
theorem dig_lex {d : Nat} (h : d < 10) : LexTo (digB d) [digK d] := by
  have := LexTo.good (good_num (v := (d : Int)) (by omega) (by omega))
  have e : prT ⟨2, [], (d : Int)⟩ = digB d := by simp [prT, dig_itoa h]
  rwa [e] at this
theorem left_lex {j : Nat} (h : j < 8) : LexTo (leftT.getD j []) [opK (leftO.getD j 0)] := by
  have hc : j = 0 ∨ j = 1 ∨ j = 2 ∨ j = 3 ∨ j = 4 ∨ j = 5 ∨ j = 6 ∨ j = 7 := by omega
  rcases hc with rfl | rfl | rfl | rfl | rfl | rfl | rfl | rfl
  · exact LexTo.sym (by decide)
  · exact LexTo.sym (by decide)
  · exact LexTo.sym (by decide)
  · exact LexTo.sym (by decide)
  · exact LexTo.sym (by decide)
  · have := LexTo.good (good_sym2 (a := 124) (b := 124) (by decide))
    have e : LexTo [124, 124] [tkS [124, 124]] := by simpa [prT] using this
    exact e
  · exact LexTo.word _ (by decide) (by decide) (by decide)
  · exact LexTo.word _ (by decide) (by decide) (by decide)
def oneT (a b c : Nat) (s : List UInt8) : List UInt8 := digB a ++ [32] ++ s ++ [32] ++ digB b ++ [32] ++ s ++ [32] ++ digB c
def twoT (a b c : Nat) (s : List UInt8) : List UInt8 := [40] ++ digB a ++ [32] ++ s ++ [32] ++ digB b ++ [41, 32] ++ s ++ [32] ++ digB c
def triT (a b c : Nat) (s : List UInt8) : List UInt8 := digB a ++ [32] ++ s ++ [32, 40] ++ digB b ++ [32] ++ s ++ [32] ++ digB c ++ [41]
def leftE (o : Int) (a b c : Nat) : Ex := pairE o (pairE o (digE a) (digE b)) (digE c)
def rightE (o : Int) (a b c : Nat) : Ex := pairE o (digE a) (pairE o (digE b) (digE c))
section
variable {a b c j : Nat} (ha : a < 10) (hb : b < 10) (hc : c < 10) (hj : j < 8)
theorem sp32 (q : List UInt8) : Sps (32 :: q) := .mk' (.inl rfl) q
theorem op_dig {s : List UInt8} {ws : List Tk} (hs : LexTo s ws) {r : List UInt8} {ts : List Tk} (hr : LexTo r ts) : LexTo ([32] ++ (s ++ ([32] ++ r))) (ws ++ ts) := LexAny.blank.cat (hs.cat (sp32 _) (LexAny.blank.cat hr))
include ha hb hc hj
theorem one_lex : LexTo (oneT a b c (leftT.getD j [])) [digK a, opK (leftO.getD j 0), digK b, opK (leftO.getD j 0), digK c] := by
  have h := (dig_lex ha).cat (sp32 _) (op_dig (left_lex hj) ((dig_lex hb).cat (sp32 _) (op_dig (left_lex hj) (dig_lex hc))))
  unfold oneT
  simp only [List.append_assoc] at h ⊢
  exact h
theorem two_lex : LexTo (twoT a b c (leftT.getD j [])) [tkS [40], digK a, opK (leftO.getD j 0), digK b, tkS [41], opK (leftO.getD j 0), digK c] := by
  have hx := (LexTo.sym (c := 41) (by decide)).cat (sp32 _) (op_dig (left_lex hj) (dig_lex hc))
  have h := (LexAny.sym (c := 40) (.inl rfl)).cat ((dig_lex ha).cat (sp32 _) (op_dig (left_lex hj) ((dig_lex hb).cat (.mk' (.inr (.inr (.inl rfl))) _) hx)))
  unfold twoT
  simp only [List.append_assoc, List.cons_append, List.nil_append] at h ⊢
  exact h
theorem tri_lex : LexTo (triT a b c (leftT.getD j [])) [digK a, opK (leftO.getD j 0), tkS [40], digK b, opK (leftO.getD j 0), digK c, tkS [41]] := by
  have hx := (LexAny.sym (c := 40) (.inl rfl)).cat ((dig_lex hb).cat (sp32 _) (op_dig (left_lex hj) ((dig_lex hc).cat (.mk' (.inr (.inr (.inl rfl))) _) (LexTo.sym (c := 41) (by decide)))))
  have h := (dig_lex ha).cat (sp32 _) (op_dig (left_lex hj) hx)
  unfold triT
  simp only [List.append_assoc, List.cons_append, List.nil_append] at h ⊢
  exact h
end
theorem toks3 {xs : Toks} {t : Tk} {ts : List Tk} (h : xs.map (·.1) = t :: ts) : ∃ p ys, xs = (t, p) :: ys ∧ ys.map (·.1) = ts := by
  cases xs with
  | nil => cases h
  | cons x xs =>
    simp only [List.map_cons, List.cons.injEq] at h
    exact ⟨x.2, xs, by rw [← h.1], h.2⟩
set_option maxRecDepth 100000 in
theorem one_read (nm : List UInt8 → Bool) {j : Nat} (hj : j < 8) (a b c : Nat) {xs : Toks} (h : xs.map (·.1) = [digK a, opK (leftO.getD j 0), digK b, opK (leftO.getD j 0), digK c]) : (readF nm xs 32).or 0 = .ok (leftE (leftO.getD j 0) a b c, 5) := by
  obtain ⟨p0, xs0, e0, h1⟩ := toks3 h
  clear h
  subst e0
  obtain ⟨p1, xs1, e1, h2⟩ := toks3 h1
  clear h1
  subst e1
  obtain ⟨p2, xs2, e2, h3⟩ := toks3 h2
  clear h2
  subst e2
  obtain ⟨p3, xs3, e3, h4⟩ := toks3 h3
  clear h3
  subst e3
  obtain ⟨p4, xs4, e4, h5⟩ := toks3 h4
  clear h4
  subst e4
  have e : _ = [] := List.map_eq_nil_iff.mp h5
  subst e
  have hc : j = 0 ∨ j = 1 ∨ j = 2 ∨ j = 3 ∨ j = 4 ∨ j = 5 ∨ j = 6 ∨ j = 7 := by omega
  clear h5 hj
  rcases hc with rfl | rfl | rfl | rfl | rfl | rfl | rfl | rfl
  all_goals rfl
set_option maxRecDepth 100000 in
theorem two_read (nm : List UInt8 → Bool) {j : Nat} (hj : j < 8) (a b c : Nat) {xs : Toks} (h : xs.map (·.1) = [tkS [40], digK a, opK (leftO.getD j 0), digK b, tkS [41], opK (leftO.getD j 0), digK c]) : (readF nm xs 32).or 0 = .ok (leftE (leftO.getD j 0) a b c, 7) := by
  obtain ⟨p0, xs0, e0, h1⟩ := toks3 h
  clear h
  subst e0
  obtain ⟨p1, xs1, e1, h2⟩ := toks3 h1
  clear h1
  subst e1
  obtain ⟨p2, xs2, e2, h3⟩ := toks3 h2
  clear h2
  subst e2
  obtain ⟨p3, xs3, e3, h4⟩ := toks3 h3
  clear h3
  subst e3
  obtain ⟨p4, xs4, e4, h5⟩ := toks3 h4
  clear h4
  subst e4
  obtain ⟨p5, xs5, e5, h6⟩ := toks3 h5
  clear h5
  subst e5
  obtain ⟨p6, xs6, e6, h7⟩ := toks3 h6
  clear h6
  subst e6
  have e : _ = [] := List.map_eq_nil_iff.mp h7
  subst e
  have hc : j = 0 ∨ j = 1 ∨ j = 2 ∨ j = 3 ∨ j = 4 ∨ j = 5 ∨ j = 6 ∨ j = 7 := by omega
  clear h7 hj
  rcases hc with rfl | rfl | rfl | rfl | rfl | rfl | rfl | rfl
  all_goals rfl
set_option maxRecDepth 100000 in
theorem tri_read (nm : List UInt8 → Bool) {j : Nat} (hj : j < 8) (a b c : Nat) {xs : Toks} (h : xs.map (·.1) = [digK a, opK (leftO.getD j 0), tkS [40], digK b, opK (leftO.getD j 0), digK c, tkS [41]]) : (readF nm xs 32).or 0 = .ok (rightE (leftO.getD j 0) a b c, 7) := by
  obtain ⟨p0, xs0, e0, h1⟩ := toks3 h
  clear h
  subst e0
  obtain ⟨p1, xs1, e1, h2⟩ := toks3 h1
  clear h1
  subst e1
  obtain ⟨p2, xs2, e2, h3⟩ := toks3 h2
  clear h2
  subst e2
  obtain ⟨p3, xs3, e3, h4⟩ := toks3 h3
  clear h3
  subst e3
  obtain ⟨p4, xs4, e4, h5⟩ := toks3 h4
  clear h4
  subst e4
  obtain ⟨p5, xs5, e5, h6⟩ := toks3 h5
  clear h5
  subst e5
  obtain ⟨p6, xs6, e6, h7⟩ := toks3 h6
  clear h6
  subst e6
  have e : _ = [] := List.map_eq_nil_iff.mp h7
  subst e
  have hc : j = 0 ∨ j = 1 ∨ j = 2 ∨ j = 3 ∨ j = 4 ∨ j = 5 ∨ j = 6 ∨ j = 7 := by omega
  clear h7 hj
  rcases hc with rfl | rfl | rfl | rfl | rfl | rfl | rfl | rfl
  all_goals rfl
theorem same_self (o : Int) (a b c : Nat) : sameE (leftE o a b c) (leftE o a b c) = true := by
  simp [leftE, sameE, sameL, pairE, digE, litE, vNull]
theorem same_not (o : Int) (a b c : Nat) : sameE (leftE o a b c) (rightE o a b c) = false := by
  simp [leftE, rightE, sameE, sameL, pairE, digE, litE, vNull]
theorem ln_dig (d : Nat) : lnE (digE d) = 9 := ln_lit _
theorem left_len {o : Int} (h : 3 ≤ o ∧ o ≤ 16) (h4 : pairLn o.toNat ≠ 4) (a b c : Nat) : (prE litV (rightE o a b c)).length = (prE litV (leftE o a b c)).length + 2 := by
  have hp := pairLn_le h
  have hl : lftL (pairLn o.toNat) = pairLn o.toNat := by unfold lftL; rw [if_neg h4]
  unfold rightE leftE
  rw [pr_pair litV h, pr_pair litV h, pr_pair litV h, pr_pair litV h, hl]
  have e1 : ∀ (L : Int) (d : Nat), L ≤ 9 → brT L (lnE (digE d), prE litV (digE d)) = prE litV (digE d) := fun L d hL => brT_no _ _ (by rw [ln_dig]; exact hL)
  simp only [e1 _ a (show pairLn o.toNat ≤ 9 by omega), e1 _ b (show pairLn o.toNat ≤ 9 by omega), e1 _ b (show pairLn o.toNat + 1 ≤ 9 by omega), e1 _ c (show pairLn o.toNat + 1 ≤ 9 by omega)]
  rw [brT_br (by rw [ln_pair]; omega) (by rw [ln_pair]; omega), brT_no _ _ (by rw [ln_pair]; omega)]
  simp only [List.length_append, List.length_cons, List.length_nil]
  omega
theorem leftO_ok {j : Nat} (hj : j < 8) : (3 ≤ leftO.getD j 0 ∧ leftO.getD j 0 ≤ 16) ∧ pairLn (leftO.getD j 0).toNat ≠ 4 := by
  have hc : j = 0 ∨ j = 1 ∨ j = 2 ∨ j = 3 ∨ j = 4 ∨ j = 5 ∨ j = 6 ∨ j = 7 := by omega
  rcases hc with rfl | rfl | rfl | rfl | rfl | rfl | rfl | rfl <;> decide
end Go.Proofs.YtcefmhofidoloaaGreatDoor.Exp
