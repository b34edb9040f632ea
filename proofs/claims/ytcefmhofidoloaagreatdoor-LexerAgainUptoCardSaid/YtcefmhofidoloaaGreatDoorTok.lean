/- The words of a text, as a plain function. -/
import Derived.Test.YtcefmhofidoloaaGreatDoorBase
import Derived.Test.YtcefmhofidoloaaGreatDoorShelf
set_option linter.unusedVariables false
set_option linter.unusedSimpArgs false
namespace Go.Proofs.YtcefmhofidoloaaGreatDoor.Lex
open Go.RowKit Go.Proofs.YtcefmhofidoloaaGreatDoor.Base

def letN (n : Nat) : Bool := decide (97 ≤ n ∧ n ≤ 122) || decide (65 ≤ n ∧ n ≤ 90) || decide (n = 95)
def digN (n : Nat) : Bool := decide (48 ≤ n ∧ n ≤ 57)
def isLet (c : UInt8) : Bool := letN c.toNat
def isDig (c : UInt8) : Bool := digN c.toNat
def isWrd (c : UInt8) : Bool := isLet c || isDig c
/-- How many at the front are of a kind. -/
def runP (p : UInt8 → Bool) : List UInt8 → Nat
  | [] => 0
  | c :: r => if p c then runP p r + 1 else 0
theorem runP_le (p : UInt8 → Bool) : ∀ l, runP p l ≤ l.length
  | [] => Nat.le_refl _
  | c :: r => by
    have := runP_le p r
    simp only [runP, List.length_cons]
    split <;> omega
def lowB (c : UInt8) : UInt8 := if 65 ≤ c.toNat ∧ c.toNat ≤ 90 then UInt8.ofNat (c.toNat + 32) else c
/-- A quoted text behind its first quote. -/
def textP : List UInt8 → Option (List UInt8 × Nat)
  | [] => none
  | c :: r =>
    if c = 39 then
      match r with
      | [] => some ([], 1)
      | d :: r' => if d = 39 then (textP r').map (fun x => (39 :: x.1, x.2 + 2)) else some ([], 1)
    else (textP r).map (fun x => (c :: x.1, x.2 + 1))
def hexV (c : UInt8) : Option Nat :=
  if digN c.toNat then some (c.toNat - 48)
  else if 97 ≤ c.toNat ∧ c.toNat ≤ 102 then some (c.toNat - 87)
  else if 65 ≤ c.toNat ∧ c.toNat ≤ 70 then some (c.toNat - 55) else none
def hexPair (a b : UInt8) : Option Nat := (hexV a).bind fun x => (hexV b).map fun y => 16 * x + y
def unhex : List UInt8 → Option (List UInt8)
  | [] => some []
  | [_] => none
  | a :: b :: r => (hexPair a b).bind fun x => (unhex r).map fun l => UInt8.ofNat x :: l
/-- A blob behind its x and its first quote. -/
def blobP (l : List UInt8) : Option (List UInt8 × Nat) :=
  if 39 ∈ l then (unhex (l.takeWhile (· != 39))).map fun x => (x, (l.takeWhile (· != 39)).length + 2) else none
def symP : List UInt8 → Nat
  | [] => 0
  | c :: r =>
    if (c = 60 ∧ r.head? = some 62) ∨ (c = 60 ∧ r.head? = some 61) ∨ (c = 62 ∧ r.head? = some 61) ∨ (c = 124 ∧ r.head? = some 124) then 2
    else if c ∈ [40, 41, 44, 46, 42, 61, 60, 62, 43, 45, 47, 37, 59] then 1 else 0
/-- A word: its kind, its text, its number. -/
structure Tk where
  kind : Nat
  text : List UInt8
  num : Int
def numP (l : List UInt8) : Option Int := match Lib.parseIntB 64 l with | .ok v => some v | _ => none
def tokP : List UInt8 → Option (Tk × Nat)
  | [] => none
  | c :: r =>
    if (c = 120 ∨ c = 88) ∧ r.head? = some 39 then (blobP r.tail).map fun x => (⟨4, x.1, 0⟩, x.2 + 1)
    else if isLet c then some (⟨1, ((c :: r).take (runP isWrd (c :: r))).map lowB, 0⟩, runP isWrd (c :: r))
    else if isDig c then (numP ((c :: r).take (runP isDig (c :: r)))).map fun v => (⟨2, [], v⟩, runP isDig (c :: r))
    else if c = 39 then (textP r).map fun x => (⟨3, x.1, 0⟩, x.2 + 1)
    else if symP (c :: r) = 0 then none
    else some (⟨5, (c :: r).take (symP (c :: r)), 0⟩, symP (c :: r))
/-- The words, each with its place; or the place of what is none. -/
def toksP : Nat → Nat → List UInt8 → Except Nat (List (Tk × Nat))
  | 0, _, _ => .ok []
  | f + 1, k, s =>
    match s with
    | [] => .ok []
    | c :: r =>
      if c = 32 ∨ c = 9 ∨ c = 10 ∨ c = 13 then toksP f (k + 1) r
      else if c = 45 ∧ r.head? = some 45 then
        (if 10 ∈ (c :: r) then toksP f (k + ((c :: r).takeWhile (· != 10)).length) ((c :: r).dropWhile (· != 10)) else .ok [])
      else
        match tokP (c :: r) with
        | none => .error k
        | some (t, n) => (toksP f (k + n) ((c :: r).drop n)).map ((t, k) :: ·)

theorem textP_le : ∀ (n : Nat) (l : List UInt8), l.length ≤ n → ∀ x, textP l = some x → 1 ≤ x.2 ∧ x.2 ≤ l.length
  | _, [], _, x, h => by simp [textP] at h
  | 0, c :: r, hn, x, h => by simp at hn
  | n + 1, c :: r, hn, x, h => by
    simp only [List.length_cons] at hn ⊢
    rw [textP.eq_def] at h
    simp only at h
    split at h
    · match r, h with
      | [], h => simp at h; subst h; exact ⟨Nat.le_refl _, by simp⟩
      | d :: r', h =>
        simp only at h
        split at h
        · obtain ⟨y, hy, rfl⟩ := Option.map_eq_some_iff.mp h
          have := textP_le n r' (by simp only [List.length_cons] at hn; omega) y hy
          simp only [List.length_cons]
          omega
        · simp at h; subst h; exact ⟨Nat.le_refl _, by simp⟩
    · obtain ⟨y, hy, rfl⟩ := Option.map_eq_some_iff.mp h
      have := textP_le n r (by omega) y hy
      simp only
      omega
theorem dropWhile_ne (a : UInt8) : ∀ l : List UInt8, a ∈ l → l.dropWhile (· != a) ≠ []
  | [], h => by simp at h
  | c :: r, h => by
    rw [List.dropWhile_cons]
    split
    · rename_i hc
      exact dropWhile_ne a r (by
        rcases List.mem_cons.mp h with rfl | h
        · simp at hc
        · exact h)
    · simp
theorem blobP_le {l : List UInt8} {x : List UInt8 × Nat} (h : blobP l = some x) : x.2 ≤ l.length + 1 := by
  unfold blobP at h
  split at h
  · rename_i hm
    obtain ⟨y, hy, rfl⟩ := Option.map_eq_some_iff.mp h
    simp only
    have h1 : l.takeWhile (· != 39) ++ l.dropWhile (· != 39) = l := List.takeWhile_append_dropWhile
    have h2 : l.dropWhile (· != 39) ≠ [] := dropWhile_ne 39 l hm
    have h4 := congrArg List.length h1
    rw [List.length_append] at h4
    have : (l.dropWhile (· != 39)).length ≠ 0 := by simpa using h2
    omega
  · cases h
theorem tokP_le {l : List UInt8} {x : Tk × Nat} (h : tokP l = some x) : 1 ≤ x.2 ∧ x.2 ≤ l.length := by
  match l, h with
  | c :: r, h =>
    rw [tokP.eq_2] at h
    split at h
    · rename_i hc
      obtain ⟨y, hy, rfl⟩ := Option.map_eq_some_iff.mp h
      have := blobP_le hy
      have hr : r ≠ [] := by rintro rfl; simp at hc
      have : r.length = r.tail.length + 1 := by
        cases r with
        | nil => exact absurd rfl hr
        | cons a b => simp
      simp only [List.length_cons]
      omega
    · split at h
      · rename_i hl
        injection h with h
        subst h
        refine ⟨?_, runP_le _ _⟩
        simp [runP, isWrd, hl]
      · split at h
        · rename_i hl
          obtain ⟨y, hy, rfl⟩ := Option.map_eq_some_iff.mp h
          refine ⟨?_, runP_le _ _⟩
          simp [runP, hl]
        · split at h
          · obtain ⟨y, hy, rfl⟩ := Option.map_eq_some_iff.mp h
            have := textP_le _ _ (Nat.le_refl _) y hy
            simp only [List.length_cons]
            omega
          · split at h
            · cases h
            · rename_i h0
              injection h with h
              subst h
              refine ⟨by simp only; omega, ?_⟩
              simp only [symP, List.length_cons] at h0 ⊢
              split
              · rename_i h5
                have hr : r ≠ [] := by rintro rfl; simp at h5
                have : 0 < r.length := List.length_pos_iff.mpr hr
                omega
              · split
                · omega
                · omega
end Go.Proofs.YtcefmhofidoloaaGreatDoor.Lex
