/- ParseUint of two hexadecimal digits; ContainsAny. -/
import Derived.Test.YtcefmhofidoloaaGreatDoorLx3
set_option linter.unusedVariables false
set_option linter.unusedSimpArgs false
namespace Go.Proofs.YtcefmhofidoloaaGreatDoor.Lex
open Go.RowKit Go.Proofs.YtcefmhofidoloaaGreatDoor.Base Go.Proofs.YtcefmhofidoloaaGreatDoor.App Go.Proofs.YtcefmhofidoloaaGreatDoor.Byt

/-- What the lexer leans on in memory: its tables, and what two variables hold. -/
structure LexW (w : World) : Prop where
  shaped : w.ShapedOpen Tryz.prog
  syn : ∃ t p, w.cell? ⟨3, 0, none⟩ = some (.iface t p)
  rng : ∃ t p, w.cell? ⟨4, 0, none⟩ = some (.iface t p)
theorem LexW.below {w w' : World} (h : LexW w) (hb : Below w.heap.size w w') : LexW w' := by
  obtain ⟨t, p, h1⟩ := h.syn
  obtain ⟨t', p', h2⟩ := h.rng
  exact ⟨shaped_below h.shaped hb, ⟨t, p, (hb.cell (World.block_lt_of_cell? w _ h1)).trans h1⟩, ⟨t', p', (hb.cell (World.block_lt_of_cell? w _ h2)).trans h2⟩⟩

def hexT (l : List UInt8) : Option Nat := l.foldl (fun a c => a.bind fun n => (hexV c).map fun v => 16 * n + v) (some 0)
/-- ParseUint(s, 16, 8) of two bytes, in the inner package. -/
def Hexed (l : List UInt8) (w : World) (e : Ending) (w' : World) : Prop :=
  Below w.heap.size w w' ∧ match hexT l with
  | some n => e = .returned (.tuple #[.int .u64 (n : Int), .nilIface])
  | none => e = .returned (.tuple #[.int .u64 0, .iface 249 (.int .i64 2)])
set_option maxRecDepth 100000 in
theorem low_up (n : Nat) (h : n < 256) : bits .or .u8 (n : Int) 32 = ((n ||| 32 : Nat) : Int) := by
  have : ∀ m : Fin 256, bits .or .u8 ((m.val : Nat) : Int) 32 = ((m.val ||| 32 : Nat) : Int) := by decide
  exact this ⟨n, h⟩
set_option maxRecDepth 100000 in
theorem or32 (n : Nat) (h : n < 256) : (n ||| 32) < 256 ∧ ((97 ≤ (n ||| 32) ∧ (n ||| 32) ≤ 102) → (65 ≤ n ∧ n ≤ 70 ∧ (n ||| 32) = n + 32) ∨ (97 ≤ n ∧ n ≤ 102 ∧ (n ||| 32) = n)) ∧ (¬ (97 ≤ (n ||| 32) ∧ (n ||| 32) ≤ 102) → ¬ (65 ≤ n ∧ n ≤ 70) ∧ ¬ (97 ≤ n ∧ n ≤ 102)) := by
  have : ∀ m : Fin 256, (m.val ||| 32) < 256 ∧ ((97 ≤ (m.val ||| 32) ∧ (m.val ||| 32) ≤ 102) → (65 ≤ m.val ∧ m.val ≤ 70 ∧ (m.val ||| 32) = m.val + 32) ∨ (97 ≤ m.val ∧ m.val ≤ 102 ∧ (m.val ||| 32) = m.val)) ∧ (¬ (97 ≤ (m.val ||| 32) ∧ (m.val ||| 32) ≤ 102) → ¬ (65 ≤ m.val ∧ m.val ≤ 70) ∧ ¬ (97 ≤ m.val ∧ m.val ≤ 102)) := by decide
  exact this ⟨n, h⟩

theorem hexV_dig {c : UInt8} (h : 48 ≤ c.toNat ∧ c.toNat ≤ 57) : hexV c = some (c.toNat - 48) := by
  rw [hexV, if_pos (by simp [digN]; exact h)]
theorem hexV_let {c : UInt8} {m : Nat} (h : ¬ (48 ≤ c.toNat ∧ c.toNat ≤ 57)) (hm : (c.toNat ||| 32) = m) (h2 : 97 ≤ m ∧ m ≤ 102) : hexV c = some (m - 87) := by
  rw [hexV, if_neg (by simp [digN]; omega)]
  subst hm
  rcases (or32 c.toNat c.toNat_lt).2.1 h2 with ⟨a, b, e⟩ | ⟨a, b, e⟩
  · rw [if_neg (by omega), if_pos ⟨a, b⟩, e]
    congr 1
  · rw [if_pos ⟨a, b⟩, e]
theorem hexV_no {c : UInt8} {m : Nat} (h : ¬ (48 ≤ c.toNat ∧ c.toNat ≤ 57)) (hm : (c.toNat ||| 32) = m) (h2 : ¬ (97 ≤ m ∧ m ≤ 102)) : hexV c = none := by
  rw [hexV, if_neg (by simp [digN]; omega)]
  subst hm
  have := (or32 c.toNat c.toNat_lt).2.2 h2
  rw [if_neg this.2, if_neg this.1]
theorem hexT_none (l : List UInt8) : l.foldl (fun a c => a.bind fun n => (hexV c).map fun v => 16 * n + v) none = none := by
  induction l with
  | nil => rfl
  | cons c l ih => simpa using ih
theorem hexV_lt {c : UInt8} {v : Nat} (h : hexV c = some v) : v < 16 := by
  unfold hexV at h
  have := c.toNat_lt
  split at h
  · rename_i hd
    simp [digN] at hd
    injection h with h; omega
  · split at h
    · injection h with h; omega
    · split at h
      · injection h with h; omega
      · cases h
theorem hexT_go {l : List UInt8} {k n : Nat} (h : hexT (l.take k) = some n) {c : UInt8} {v : Nat} (hc : l.drop k = c :: l.drop (k + 1)) (hv : hexV c = some v) : hexT (l.take (k + 1)) = some (16 * n + v) := by
  have hk : k < l.length := by
    have := congrArg List.length hc
    simp at this
    omega
  have hl : l.take (k + 1) = l.take k ++ [c] := by
    rw [List.take_succ_eq_append_getElem hk]
    rw [List.drop_eq_getElem_cons hk] at hc
    injection hc with hc
    rw [hc]
  unfold hexT at h ⊢
  rw [hl, List.foldl_append, h]
  simp [hv]
theorem hexT_stop {l : List UInt8} {k n : Nat} (h : hexT (l.take k) = some n) {c : UInt8} (hc : l.drop k = c :: l.drop (k + 1)) (hv : hexV c = none) : hexT l = none := by
  have hl : l = l.take k ++ c :: l.drop (k + 1) := by rw [← hc]; exact (List.take_append_drop k l).symm
  unfold hexT at h ⊢
  rw [hl, List.foldl_append, List.foldl_cons, h]
  simp only [Option.bind_some, hv, Option.map_none]
  exact hexT_none _
theorem hexed_some {l : List UInt8} {n : Nat} {w w' : World} {e : Ending} (hx : hexT l = some n) (he : e = .returned (.tuple #[.int .u64 (n : Int), .nilIface])) (hb : Below w.heap.size w w') : Hexed l w e w' := ⟨hb, by rw [hx]; exact he⟩
theorem hexed_none {l : List UInt8} {w w' : World} {e : Ending} (hx : hexT l = none) (he : e = .returned (.tuple #[.int .u64 0, .iface 249 (.int .i64 2)])) (hb : Below w.heap.size w w') : Hexed l w e w' := ⟨hb, by rw [hx]; exact he⟩
end Go.Proofs.YtcefmhofidoloaaGreatDoor.Lex
