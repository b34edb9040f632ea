/- Where words stand. -/
import Derived.Test.YtcefmhofidoloaaGreatDoorLx12
set_option linter.unusedVariables false
set_option linter.unusedSimpArgs false
namespace Go.Proofs.YtcefmhofidoloaaGreatDoor.Lex
open Go.RowKit Go.Proofs.YtcefmhofidoloaaGreatDoor.Base

theorem toks_place : ∀ (f k : Nat) (s : List UInt8) (ts : List (Tk × Nat)), toksP f k s = .ok ts → ∀ x ∈ ts, x.2 ≤ k + s.length
  | 0, k, s, ts, h, x, hx => by simp [toksP] at h; subst h; simp at hx
  | f + 1, k, [], ts, h, x, hx => by simp [toksP] at h; subst h; simp at hx
  | f + 1, k, c :: r, ts, h, x, hx => by
    rw [toksP] at h
    try simp only at h
    split at h
    · have := toks_place f _ _ _ h x hx
      simp only [List.length_cons]; omega
    · split at h
      · split at h
        · have h1 := toks_place f _ _ _ h x hx
          have h2 : ((c :: r).takeWhile (· != 10)).length + ((c :: r).dropWhile (· != 10)).length = (c :: r).length := by
            have e : (c :: r).takeWhile (· != 10) ++ (c :: r).dropWhile (· != 10) = c :: r := List.takeWhile_append_dropWhile
            have := congrArg List.length e
            rw [List.length_append] at this
            exact this
          omega
        · simp at h; subst h; simp at hx
      · cases ht : tokP (c :: r) with
        | none => rw [ht] at h; simp at h
        | some y =>
          obtain ⟨t, n⟩ := y
          rw [ht] at h
          simp only at h
          have hn := tokP_le ht
          simp only at hn
          cases hr : toksP f (k + n) ((c :: r).drop n) with
          | error j => rw [hr] at h; simp [Except.map] at h
          | ok ts' =>
            rw [hr] at h
            simp [Except.map] at h
            subst h
            rcases List.mem_cons.mp hx with rfl | hx
            · simp
            · have := toks_place f _ _ _ hr x hx
              rw [List.length_drop] at this
              omega
theorem lexT_place {l : List UInt8} {ts : List (Tk × Nat)} (h : lexT l = .ok ts) (i : Nat) (hi : i < ts.length) : ts[i].2 ≤ l.length := by
  have := toks_place _ _ _ _ h ts[i] (List.getElem_mem hi)
  omega
end Go.Proofs.YtcefmhofidoloaaGreatDoor.Lex
