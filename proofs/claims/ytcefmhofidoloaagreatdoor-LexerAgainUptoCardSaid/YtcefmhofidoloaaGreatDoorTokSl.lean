/- A slice of words as values; '==' of words; works. -/
import Derived.Test.YtcefmhofidoloaaGreatDoorSeen
import Derived.Test.YtcefmhofidoloaaGreatDoorKw
import Derived.Test.YtcefmhofidoloaaGreatDoorEqs
set_option linter.unusedVariables false
set_option linter.unusedSimpArgs false
namespace Go.Proofs.YtcefmhofidoloaaGreatDoor.Lex
open Go.RowKit Go.Proofs.YtcefmhofidoloaaGreatDoor.Base Go.Proofs.YtcefmhofidoloaaGreatDoor.App Go.Proofs.YtcefmhofidoloaaGreatDoor.Byt

/-- The slice at A, m long, holds the words ts. -/
def TokSl (W : World) (A : Option Addr) (m : Nat) (ts : List (Tk × Nat)) : Prop :=
  m = ts.length ∧ m ≤ 16384 ∧ (0 < m → ∃ g, A = some ⟨g, 0, none⟩ ∧ ∀ i (hi : i < ts.length), W.cell? ⟨g, i * 4, none⟩ = some (.int .i64 (ts[i].1.kind : Int)) ∧ W.cell? ⟨g, i * 4 + 1, none⟩ = some (.string ⟨ts[i].1.text.toArray⟩) ∧ W.cell? ⟨g, i * 4 + 2, none⟩ = some (.int .i64 (ts[i].2 : Nat)) ∧ W.cell? ⟨g, i * 4 + 3, none⟩ = some (.int .i64 ts[i].1.num))
theorem TokSl.below {W W' : World} {A : Option Addr} {m : Nat} {ts : List (Tk × Nat)} (h : TokSl W A m ts) (hb : Below W.heap.size W W') : TokSl W' A m ts := by
  refine ⟨h.1, h.2.1, fun h0 => ?_⟩
  obtain ⟨g, rfl, hc⟩ := h.2.2 h0
  refine ⟨g, rfl, fun i hi => ?_⟩
  obtain ⟨a, b, c, d⟩ := hc i hi
  exact ⟨(hb.cell (World.block_lt_of_cell? W _ a)).trans a, (hb.cell (World.block_lt_of_cell? W _ b)).trans b, (hb.cell (World.block_lt_of_cell? W _ c)).trans c, (hb.cell (World.block_lt_of_cell? W _ d)).trans d⟩
theorem tkCells_at : ∀ (ts : List (Tk × Nat)) (i : Nat) (hi : i < ts.length) (j : Nat), j < 4 → (tkCells ts)[i * 4 + j]? = (tcells ts[i])[j]?
  | x :: r, 0, hi, j, hj => by
    simp only [tkCells, List.flatMap_cons, Nat.zero_mul, Nat.zero_add, List.getElem_cons_zero]
    rw [List.getElem?_append_left (by simpa [tcells] using hj)]
  | x :: r, i + 1, hi, j, hj => by
    have ih := tkCells_at r i (by simpa using hi) j hj
    simp only [tkCells, List.flatMap_cons, List.getElem_cons_succ] at ih ⊢
    rw [List.getElem?_append_right (by simp [tcells]; omega)]
    rw [← ih]
    congr 1
    simp [tcells]
    omega
theorem TokSl.of_own {W : World} {B : Nat} {A : Option Addr} {m c : Nat} {ts : List (Tk × Nat)} (hm : m = ts.length) (hle : m ≤ 16384) (h : W.ownsRow B 52 4 (.slice A m c) m (tkCells ts)) : TokSl W A m ts := by
  refine ⟨hm, hle, fun h0 => ?_⟩
  have hc := fun g => h.cells (g := g)
  rcases h.2 with ⟨he, h00⟩ | ⟨g, cap, cur, he, hb, hh, _⟩
  · omega
  · injection he with h1 h2 h3
    subst h1
    refine ⟨g, rfl, fun i hi => ?_⟩
    have hg := hc g (by simp [Value.ownBlock])
    have hat : ∀ j, j < 4 → W.cell? ⟨g, i * 4 + j, none⟩ = (tcells ts[i])[j]? := fun j hj => by
      have h1 := tkCells_at ts i hi j hj
      have h2 : (tcells ts[i])[j]? = some ((tcells ts[i])[j]'(by simpa [tcells] using hj)) := List.getElem?_eq_getElem _
      rw [h2] at h1 ⊢
      have := hg _ _ h1
      rw [addr_add, Nat.zero_add] at this
      exact this
    exact ⟨(hat 0 (by omega)).trans rfl, (hat 1 (by omega)).trans rfl, (hat 2 (by omega)).trans rfl, (hat 3 (by omega)).trans rfl⟩

/-- How Tokens ends, as a reader sees it. -/
def LexR (l : List UInt8) (w : World) (e : Ending) (w' : World) : Prop :=
  Below w.heap.size w w' ∧ if 16384 < l.length then FaultE w e w' 0 8 else match lexT l with
  | .ok ts => ∃ A m c, e = .returned (.tuple #[.slice A m c, .nilIface]) ∧ TokSl w' A m ts
  | .error k => FaultE w e w' k 20

theorem lexT_len_aux : ∀ (f k : Nat) (s : List UInt8) (ts : List (Tk × Nat)), toksP f k s = .ok ts → ts.length ≤ s.length
  | 0, k, s, ts, h => by simp [toksP] at h; subst h; simp
  | f + 1, k, [], ts, h => by simp [toksP] at h; subst h; simp
  | f + 1, k, c :: r, ts, h => by
    rw [toksP] at h
    try simp only at h
    split at h
    · have := lexT_len_aux f _ _ _ h
      simp only [List.length_cons]; omega
    · split at h
      · split at h
        · have h1 := lexT_len_aux f _ _ _ h
          have h2 : ((c :: r).dropWhile (· != 10)).length ≤ (c :: r).length := by
            have e : (c :: r).takeWhile (· != 10) ++ (c :: r).dropWhile (· != 10) = c :: r := List.takeWhile_append_dropWhile
            have := congrArg List.length e
            rw [List.length_append] at this
            omega
          omega
        · simp at h; subst h; simp
      · cases ht : tokP (c :: r) with
        | none => rw [ht] at h; simp at h
        | some x =>
          obtain ⟨t, n⟩ := x
          rw [ht] at h
          simp only at h
          have hn := tokP_le ht
          simp only at hn
          cases hr : toksP f (k + n) ((c :: r).drop n) with
          | error j => rw [hr] at h; simp [Except.map] at h
          | ok ts' =>
            rw [hr] at h
            simp [Except.map] at h
            subst h
            have := lexT_len_aux f _ _ _ hr
            rw [List.length_drop] at this
            simp only [List.length_cons] at this hn ⊢
            omega
theorem lexT_len {l : List UInt8} {ts : List (Tk × Nat)} (h : lexT l = .ok ts) : ts.length ≤ l.length := lexT_len_aux _ _ _ _ h

theorem tokens_reads (s : ByteArray) (w : World) (hw : LexW w) :
    Calls Tryz.prog 14 #[.string s] w fun e w' => LexR s.data.toList w e w' := by
  refine (tokens_calls s w hw).mono ?_
  rintro e w' ⟨hb, he⟩
  refine ⟨hb, ?_⟩
  by_cases h : 16384 < s.data.toList.length
  · rw [if_pos h] at he ⊢
    exact he
  · rw [if_neg h] at he ⊢
    cases hl : lexT s.data.toList with
    | ok ts =>
      rw [hl] at he
      obtain ⟨A, m, c, rfl, hm, ho⟩ := he
      have := lexT_len hl
      exact ⟨A, m, c, rfl, TokSl.of_own hm (by omega) ho⟩
    | error k =>
      rw [hl] at he
      exact he
end Go.Proofs.YtcefmhofidoloaaGreatDoor.Lex
