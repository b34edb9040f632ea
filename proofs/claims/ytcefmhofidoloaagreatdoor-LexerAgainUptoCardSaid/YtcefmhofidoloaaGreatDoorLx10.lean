/- token: the plain law. -/
import Derived.Test.YtcefmhofidoloaaGreatDoorLx9
import Derived.Test.YtcefmhofidoloaaGreatDoorLx2
import Derived.Test.YtcefmhofidoloaaGreatDoorLx4
import Derived.Laws.ResultCell
set_option linter.unusedVariables false
set_option linter.unusedSimpArgs false
namespace Go.Proofs.YtcefmhofidoloaaGreatDoor.Lex
open Go.RowKit Go.Proofs.YtcefmhofidoloaaGreatDoor.Base Go.Proofs.YtcefmhofidoloaaGreatDoor.App Go.Proofs.YtcefmhofidoloaaGreatDoor.Byt

theorem load_token {w : World} {g : Nat} {cs : Array Value} (hg : w.heap[g]? = some (.cells cs 52 (0, 0))) (h4 : cs.size = 4) : (loadVar 52 ⟨g, 0, none⟩).run Tryz.prog w = .ok (.agg cs) w :=
  run_loadVar_row w g 52 52 cs (0, 0) _ hg Tryz.underlying52 rfl (by rw [h4]; kernel_rfl)
theorem results_token {fn : Func} {p u : Tmp} (h : fn.results = #[.cell p 52, .tmp u]) (tmps : Array Value) (w : World) (g : Nat) (cs : Array Value)
    (hp : tmps.getD p undef = .pointer (some ⟨g, 0, none⟩)) (hg : w.heap[g]? = some (.cells cs 52 (0, 0))) (h4 : cs.size = 4) :
    (results fn tmps).run Tryz.prog w = .ok (.tuple #[.agg cs, tmps.getD u undef]) w := by
  rw [results_cell_tmp h, hp]
  simp [asAddr, load_token hg h4, Result.andThen]

/-- How token ends. -/
def TokEnd (l : List UInt8) (w : World) (e : Ending) (w' : World) : Prop :=
  Below w.heap.size w w' ∧ match tokP l with
  | some x => e = .returned (.tuple #[.agg #[.int .i64 (x.1.kind : Int), .string ⟨x.1.text.toArray⟩, .int .i64 0, .int .i64 x.1.num], .int .i64 (x.2 : Nat)])
  | none => ∃ k tx nm, e = .returned (.tuple #[.agg #[.int .i64 k, .string tx, .int .i64 0, .int .i64 nm], .int .i64 0])
theorem tok_some {l : List UInt8} {x : Tk × Nat} {w w' : World} {e : Ending} (hx : tokP l = some x) (hb : Below w.heap.size w w') (he : e = .returned (.tuple #[.agg #[.int .i64 (x.1.kind : Int), .string ⟨x.1.text.toArray⟩, .int .i64 0, .int .i64 x.1.num], .int .i64 (x.2 : Nat)])) : TokEnd l w e w' := ⟨hb, by rw [hx]; exact he⟩
theorem tok_none {l : List UInt8} {w w' : World} {e : Ending} (hx : tokP l = none) (hb : Below w.heap.size w w') (k : Int) (tx : ByteArray) (nm : Int) (he : e = .returned (.tuple #[.agg #[.int .i64 k, .string tx, .int .i64 0, .int .i64 nm], .int .i64 0])) : TokEnd l w e w' := ⟨hb, by rw [hx]; exact ⟨k, tx, nm, he⟩⟩

theorem tokP_blob {c : UInt8} {r : List UInt8} (hc : c = 120 ∨ c = 88) (hr : r.head? = some 39) : tokP (c :: r) = (blobP r.tail).map fun x => (⟨4, x.1, 0⟩, x.2 + 1) := by
  rw [tokP.eq_2, if_pos ⟨hc, hr⟩]
theorem tokP_word {c : UInt8} {r : List UInt8} (h : ¬ ((c = 120 ∨ c = 88) ∧ r.head? = some 39)) (hl : isLet c = true) : tokP (c :: r) = some (⟨1, ((c :: r).take (runP isWrd (c :: r))).map lowB, 0⟩, runP isWrd (c :: r)) := by
  rw [tokP.eq_2, if_neg h, if_pos hl]
theorem tokP_num {c : UInt8} {r : List UInt8} (h : ¬ ((c = 120 ∨ c = 88) ∧ r.head? = some 39)) (hl : isLet c = false) (hd : isDig c = true) : tokP (c :: r) = (numP ((c :: r).take (runP isDig (c :: r)))).map fun v => (⟨2, [], v⟩, runP isDig (c :: r)) := by
  rw [tokP.eq_2, if_neg h, hl, if_neg (by decide), if_pos hd]
theorem tokP_text {r : List UInt8} : tokP (39 :: r) = (textP r).map fun x => (⟨3, x.1, 0⟩, x.2 + 1) := by
  rw [tokP.eq_2, if_neg (by rintro ⟨h | h, _⟩ <;> cases h), show isLet 39 = false by decide, if_neg (by decide), show isDig 39 = false by decide, if_neg (by decide), if_pos rfl]
theorem tokP_sym {c : UInt8} {r : List UInt8} (h : ¬ ((c = 120 ∨ c = 88) ∧ r.head? = some 39)) (hl : isLet c = false) (hd : isDig c = false) (hq : ¬ c = 39) : tokP (c :: r) = if symP (c :: r) = 0 then none else some (⟨5, (c :: r).take (symP (c :: r)), 0⟩, symP (c :: r)) := by
  rw [tokP.eq_2, if_neg h, hl, if_neg (by decide), hd, if_neg (by decide), if_neg hq]

theorem run_all (p : UInt8 → Bool) : ∀ (l : List UInt8), ∀ c ∈ l.take (runP p l), p c = true
  | [], c, h => by simp [runP] at h
  | a :: r, c, h => by
    rw [runP] at h
    by_cases ha : p a = true
    · rw [if_pos ha, List.take_succ_cons] at h
      rcases List.mem_cons.mp h with rfl | h
      · exact ha
      · exact run_all p r c h
    · rw [if_neg ha] at h
      simp at h
theorem run_pos (p : UInt8 → Bool) {c : UInt8} {r : List UInt8} (h : p c = true) : 1 ≤ runP p (c :: r) := by
  rw [runP, if_pos h]; omega
theorem uintM_dig (M : Nat) : ∀ (l : List UInt8) (acc : Nat), (∀ c ∈ l, isDig c = true) → (∃ u, Lib.parseUintM M acc l = .ok u) ∨ Lib.parseUintM M acc l = .range
  | [], acc, _ => .inl ⟨acc, rfl⟩
  | c :: r, acc, h => by
    have hc : 48 ≤ c.toNat ∧ c.toNat ≤ 57 := by
      have := h c (by simp)
      simpa [isDig, digN] using this
    rw [Lib.parseUintM, if_pos hc]
    split
    · exact .inr rfl
    · split
      · exact .inr rfl
      · exact uintM_dig M r _ fun d hd => h d (by simp [hd])
theorem num_dig {l : List UInt8} (hne : l ≠ []) (h : ∀ c ∈ l, isDig c = true) : (∃ v, Lib.parseIntB 64 l = .ok v) ∨ Lib.parseIntB 64 l = .range := by
  match l, hne with
  | c :: r, _ =>
    have hc : 48 ≤ c.toNat ∧ c.toNat ≤ 57 := by
      have := h c (by simp)
      simpa [isDig, digN] using this
    have hu : Lib.parseUintB 64 (c :: r) = Lib.parseUintM (2 ^ 64 - 1) 0 (c :: r) := by
      rw [Lib.parseUintB, if_neg (by simp)]
    rw [Lib.parseIntB]
    simp only [show ¬ (c.toNat = 43 ∨ c.toNat = 45) by omega, if_false, hu]
    rcases uintM_dig (2 ^ 64 - 1) (c :: r) 0 h with ⟨u, hx⟩ | hx
    · rw [hx]
      simp only
      split
      · exact .inr rfl
      · split
        · exact .inr rfl
        · exact .inl ⟨_, rfl⟩
    · rw [hx]
      exact .inr rfl
theorem textO_none {r : List UInt8} (h : textP r = none) : textO r = ([], 0) := by rw [textO, h]
theorem textO_some {r : List UInt8} {x : List UInt8 × Nat} (h : textP r = some x) : textO r = (x.1, x.2 + 1) := by rw [textO, h]
theorem blobO_none {r : List UInt8} (h : blobP r = none) : blobO r = ([], 0) := by rw [blobO, h]
theorem blobO_some {r : List UInt8} {x : List UInt8 × Nat} (h : blobP r = some x) : blobO r = x := by rw [blobO, h]
theorem blobP_ge {r : List UInt8} {x : List UInt8 × Nat} (h : blobP r = some x) : 2 ≤ x.2 := by
  unfold blobP at h
  split at h
  · obtain ⟨y, hy, rfl⟩ := Option.map_eq_some_iff.mp h
    simp
  · cases h
theorem pre1 (l : List UInt8) (a : UInt8) : Lib.hasPrefix l [a] = decide (l.head? = some a) := by
  unfold Lib.hasPrefix
  cases l with
  | nil => rfl
  | cons x l =>
    simp [List.isPrefixOf]
    by_cases h : a = x
    · subst h; simp
    · have : ¬ x = a := fun e => h e.symm
      simp [h, this]
theorem symP_le : ∀ l : List UInt8, symP l ≤ l.length
  | [] => Nat.le_refl _
  | c :: r => by
    simp only [symP, List.length_cons]
    split
    · rename_i h5
      have hr : r ≠ [] := by rintro rfl; simp at h5
      have : 0 < r.length := List.length_pos_iff.mpr hr
      omega
    · split
      · omega
      · omega
end Go.Proofs.YtcefmhofidoloaaGreatDoor.Lex
