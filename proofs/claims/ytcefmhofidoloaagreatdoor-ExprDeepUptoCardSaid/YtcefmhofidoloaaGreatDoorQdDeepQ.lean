/- Nesting: what the law's loops gather. -/
import Derived.Test.YtcefmhofidoloaaGreatDoorQc10
import Derived.Test.YtcefmhofidoloaaGreatDoorQdDeepP
set_option linter.unusedVariables false
set_option linter.unusedSimpArgs false
namespace Go.Proofs.YtcefmhofidoloaaGreatDoor.Exp
open Go.RowKit Go.Proofs.YtcefmhofidoloaaGreatDoor.Base Go.Proofs.YtcefmhofidoloaaGreatDoor.App Go.Proofs.YtcefmhofidoloaaGreatDoor.Byt Go.Proofs.YtcefmhofidoloaaGreatDoor.Lex

def d3 (x : Int) : Nat := ((IntKind.u64.wrap x) % 3).toNat
theorem u64_pos (x : Int) : 0 ≤ IntKind.u64.wrap x := by
  simp [IntKind.wrap, IntKind.signed, IntKind.bits]
  omega
theorem d3_lt (x : Int) : d3 x = 0 ∨ d3 x = 1 ∨ d3 x = 2 := by unfold d3; have := u64_pos x; omega
theorem d3_eq (x : Int) : wrap64 ((IntKind.u64.wrap x).tmod 3) = (d3 x : Int) := by
  have h0 := u64_pos x
  unfold d3
  generalize IntKind.u64.wrap x = y at h0
  have e : y.tmod 3 = y % 3 := Int.tmod_eq_emod_of_nonneg h0
  rw [e]
  unfold wrap64
  omega
theorem rem40 (x : Int) : ∃ d : Nat, d < 40 ∧ wrap64 ((IntKind.u64.wrap x).tmod 40) = (d : Int) := by
  have h0 := u64_pos x
  generalize IntKind.u64.wrap x = y at h0
  have e : y.tmod 40 = y % 40 := Int.tmod_eq_emod_of_nonneg h0
  refine ⟨(y % 40).toNat, by omega, ?_⟩
  rw [e]
  unfold wrap64
  omega
theorem rem300 (x : Int) : ∃ d : Nat, d < 300 ∧ wrap64 ((IntKind.u64.wrap x).tmod 300) = (d : Int) := by
  have h0 := u64_pos x
  generalize IntKind.u64.wrap x = y at h0
  have e : y.tmod 300 = y % 300 := Int.tmod_eq_emod_of_nonneg h0
  refine ⟨(y % 300).toNat, by omega, ?_⟩
  rw [e]
  unfold wrap64
  omega
/-- The kind at a place; 0 where there is none. -/
def kdOf (xs : List Int) (i : Nat) : Nat := match xs[i]? with
  | some x => d3 x
  | none => 0
def kds (xs : List Int) (n : Nat) : List Nat := (List.range n).map (kdOf xs)
theorem kds_len (xs : List Int) (n : Nat) : (kds xs n).length = n := by simp [kds]
theorem kds_succ (xs : List Int) (n : Nat) : kds xs (n + 1) = kds xs n ++ [kdOf xs n] := by simp [kds, List.range_succ]
def ahT (ks : List Nat) : List UInt8 := ks.flatMap aheadT
theorem ahT_snoc (ks : List Nat) (k : Nat) : ahT (ks ++ [k]) = ahT ks ++ aheadT k := by simp [ahT]
def bhT (n : Nat) : List UInt8 := List.replicate n 41
theorem bhT_succ (n : Nat) : bhT (n + 1) = bhT n ++ [41] := by simp [bhT, List.replicate_succ']
theorem bhT_cons (n : Nat) : bhT (n + 1) = 41 :: bhT n := by simp [bhT, List.replicate_succ]
theorem nestT_eq : ∀ (ks : List Nat) (s : List UInt8), nestT ks s = ahT ks ++ s ++ bhT ks.length
  | [], s => by simp [nestT, ahT, bhT]
  | k :: ks, s => by
    rw [nestT, nestT_eq ks s, List.length_cons, bhT_succ]
    simp [ahT]
theorem dep_snoc : ∀ (ks : List Nat) (k : Nat), dep (ks ++ [k]) = dep ks + depK k
  | [], k => by simp [dep]
  | x :: ks, k => by rw [List.cons_append, dep, dep_snoc ks k, dep]; omega
theorem dep_le : ∀ ks : List Nat, dep ks ≤ 2 * ks.length
  | [] => by simp [dep]
  | x :: ks => by
    have := dep_le ks
    rw [dep, List.length_cons]
    unfold depK
    split
    · omega
    · split <;> omega
theorem aheadT_len (k : Nat) : (aheadT k).length ≤ 5 := by
  unfold aheadT
  split
  · simp
  · split <;> simp
theorem ahT_len : ∀ ks : List Nat, (ahT ks).length ≤ 5 * ks.length
  | [] => by simp [ahT]
  | x :: ks => by
    have := ahT_len ks
    have h := aheadT_len x
    unfold ahT at this ⊢
    rw [List.flatMap_cons, List.length_append, List.length_cons]
    omega
theorem coreT_len : ∀ c, (coreT c).length = 1 + 4 * c
  | 0 => rfl
  | c + 1 => by rw [coreT, List.length_append, coreT_len c]; simp; omega
theorem coreT_succ (c : Nat) : coreT (c + 1) = coreT c ++ [32, 43, 32, 49] := rfl
/-- What is read of the nested text. -/
theorem deep_words (ks : List Nat) (c : Nat) (hk : ks.length < 40) (hc : c < 300) :
    (dep ks ≤ 32 → ∃ e j, (readF nmOk (lexE (ahT ks ++ coreT c ++ bhT ks.length)) 32).or 0 = .ok (e, j)) ∧ (32 < dep ks → ∃ p, (readF nmOk (lexE (ahT ks ++ coreT c ++ bhT ks.length)) 32).or 0 = .error (p, 21)) := by
  obtain ⟨xs, h1, h2, h3⟩ := deep_law words_nm nm_a ks c
  rw [nestT_eq] at h1
  have hl : (ahT ks ++ coreT c ++ bhT ks.length).length ≤ 16384 := by
    have h4 := ahT_len ks
    have h5 := coreT_len c
    have h6 : (bhT ks.length).length = ks.length := by simp [bhT]
    rw [List.length_append, List.length_append, h5, h6]
    omega
  rw [lexE_ok hl h1]
  exact ⟨h2, h3⟩
end Go.Proofs.YtcefmhofidoloaaGreatDoor.Exp
