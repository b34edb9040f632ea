/- Decimal digits: what they say, and that the numeral of a number says that number: plain laws. -/
import Derived.Test.YtcefmhofidoloaaGreatDoorTok
import Derived.Lib.ItoaLen
import Derived.Lib.ParseIntB
set_option linter.unusedVariables false
set_option linter.unusedSimpArgs false
namespace Go.Proofs.YtcefmhofidoloaaGreatDoor.Lex
open Go.RowKit Go.Proofs.YtcefmhofidoloaaGreatDoor.Base

/-- What digits say. -/
def dStep (a : Nat) (c : UInt8) : Nat := a * 10 + (c.toNat - 48)
theorem dStep_eq (a : Nat) (c : UInt8) : dStep a c = a * 10 + (c.toNat - 48) := by unfold dStep; exact Eq.refl _
attribute [irreducible] dStep
def decV : Nat → List UInt8 → Nat
  | a, [] => a
  | a, c :: l => decV (dStep a c) l
theorem decV_cons0 (a : Nat) (c : UInt8) (l : List UInt8) : decV a (c :: l) = decV (dStep a c) l := by rw [decV]
theorem decV_cons (a : Nat) (c : UInt8) (l : List UInt8) : decV a (c :: l) = decV (a * 10 + (c.toNat - 48)) l := by rw [decV_cons0, dStep_eq]
theorem decV_append (m : List UInt8) : ∀ (l : List UInt8) (a : Nat), decV a (l ++ m) = decV (decV a l) m
  | [], a => by simp [decV]
  | c :: l, a => by rw [List.cons_append, decV_cons, decV_cons, decV_append m l]
theorem decV_ge : ∀ (l : List UInt8) (a : Nat), a ≤ decV a l
  | [], a => by rw [decV]; exact Nat.le_refl _
  | c :: l, a => by
    rw [decV_cons]
    have := decV_ge l (a * 10 + (c.toNat - 48))
    omega
theorem isDig_iff (c : UInt8) : isDig c = true ↔ 48 ≤ c.toNat ∧ c.toNat ≤ 57 := by simp [isDig, digN]
theorem parseM_ok (M : Nat) (hM : M < 18446744073709551616) : ∀ (l : List UInt8) (a : Nat), (∀ c ∈ l, isDig c = true) → decV a l ≤ M → Lib.parseUintM M a l = .ok (decV a l)
  | [], a, _, _ => by rw [decV, Lib.parseUintM]
  | c :: l, a, hd, h => by
    have hc := (isDig_iff c).mp (hd c (by simp))
    rw [decV_cons] at h ⊢
    have hg := decV_ge l (a * 10 + (c.toNat - 48))
    rw [Lib.parseUintM, if_pos hc, if_neg (by omega), if_neg (by omega)]
    exact parseM_ok M hM l _ (fun d hd' => hd d (by simp [hd'])) h
theorem parseM_big (M : Nat) : ∀ (l : List UInt8) (a : Nat), a ≤ M → (∀ c ∈ l, isDig c = true) → M < decV a l → ∀ v, Lib.parseUintM M a l ≠ .ok v
  | [], a, ha, _, h, v => by rw [decV] at h; omega
  | c :: l, a, ha, hd, h, v => by
    have hc := (isDig_iff c).mp (hd c (by simp))
    rw [decV_cons] at h
    rw [Lib.parseUintM, if_pos hc]
    split
    · intro e; cases e
    · split
      · intro e; cases e
      · exact parseM_big M l _ (by omega) (fun d hd' => hd d (by simp [hd'])) h v
/-- What digits are read as. -/
theorem numP_digits {l : List UInt8} (hl : l ≠ []) (hd : ∀ c ∈ l, isDig c = true) : numP l = if decV 0 l < 9223372036854775808 then some (decV 0 l : Int) else none := by
  match l, hl with
  | c :: r, _ =>
    have hc := (isDig_iff c).mp (hd c (by simp))
    have e : Lib.parseUintB 64 (c :: r) = Lib.parseUintM 18446744073709551615 0 (c :: r) := by
      unfold Lib.parseUintB
      rw [if_neg (by simp)]
    have h43 : ¬ (c.toNat = 43 ∨ c.toNat = 45) := by omega
    have h45 : ¬ c.toNat = 45 := by omega
    by_cases hb : decV 0 (c :: r) ≤ 18446744073709551615
    · have e2 := parseM_ok 18446744073709551615 (by decide) (c :: r) 0 hd hb
      unfold numP Lib.parseIntB
      simp only [if_neg h43, e, e2]
      by_cases h63 : decV 0 (c :: r) < 9223372036854775808
      · rw [if_neg (by intro h; have := h.2; omega), if_neg (by intro h; exact h45 h.1), if_neg h45, if_pos h63]
      · rw [if_pos ⟨h45, by omega⟩, if_neg h63]
    · have e2 := parseM_big 18446744073709551615 (c :: r) 0 (by decide) hd (by omega)
      rw [if_neg (by omega)]
      unfold numP Lib.parseIntB
      simp only [if_neg h43, e]
      cases hx : Lib.parseUintM 18446744073709551615 0 (c :: r) with
      | ok v => exact absurd hx (e2 v)
      | _ => rfl
theorem decDigits_dig : ∀ (u : Nat), ∀ c ∈ Lib.decDigits u, isDig c = true := by
  intro u
  induction u using Nat.strongRecOn with
  | ind u ih =>
    intro c hc
    rw [Lib.decDigits] at hc
    split at hc
    · rename_i h
      simp only [List.mem_singleton] at hc
      subst hc
      rw [isDig_iff]
      simp; omega
    · rename_i h
      rcases List.mem_append.mp hc with hc | hc
      · exact ih (u / 10) (by omega) c hc
      · simp only [List.mem_singleton] at hc
        subst hc
        rw [isDig_iff]
        simp; omega
theorem decDigits_ne (u : Nat) : Lib.decDigits u ≠ [] := by
  rw [Lib.decDigits]
  split <;> simp
theorem decV_digits : ∀ (u : Nat), decV 0 (Lib.decDigits u) = u := by
  intro u
  induction u using Nat.strongRecOn with
  | ind u ih =>
    rw [Lib.decDigits]
    split
    · rename_i h
      have e : (UInt8.ofNat (48 + u)).toNat = 48 + u := by rw [UInt8.toNat_ofNat']; omega
      rw [decV_cons, decV, e]; omega
    · rename_i h
      have e : (UInt8.ofNat (48 + u % 10)).toNat = 48 + u % 10 := by rw [UInt8.toNat_ofNat']; omega
      rw [decV_append, ih (u / 10) (by omega), decV_cons, decV, e]; omega
theorem numP_itoa {v : Int} (h0 : 0 ≤ v) (h1 : v ≤ 9223372036854775807) : numP (Lib.itoa v) = some v := by
  obtain ⟨u, rfl⟩ : ∃ u : Nat, v = u := ⟨v.toNat, by omega⟩
  rw [Lib.itoa_nonneg, numP_digits (decDigits_ne u) (decDigits_dig u), decV_digits, if_pos (by omega)]
end Go.Proofs.YtcefmhofidoloaaGreatDoor.Lex
