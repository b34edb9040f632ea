/- Slices of bytes: how they read, what they are as a text, what a row of the call's own holds. Any program. -/
import Derived.Test.YtcefmhofidoloaaGreatDoorBase
import Derived.Laws.BytesString
import Derived.Laws.Cells
import Derived.Laws.AppendOwn
set_option linter.unusedVariables false
namespace Go.Proofs.YtcefmhofidoloaaGreatDoor.Byt
open Go.RowKit Go.Proofs.YtcefmhofidoloaaGreatDoor.Base

def bcell (b : UInt8) : Value := .int .u8 (b.toNat : Int)
def bcells (xs : List UInt8) : List Value := xs.map bcell

/-- The slice at A, n long, reads as the bytes xs. -/
def IsBytes (w : World) (A : Option Addr) (n : Nat) (xs : List UInt8) : Prop :=
  xs.length = n ∧ n ≤ 140737488351232 ∧ (0 < n → ∃ b o, A = some ⟨b, o, none⟩ ∧ ∀ j, j < n → w.cell? ⟨b, o + j, none⟩ = some (bcell (xs.getD j 0)))

theorem IsBytes.drewN {w : World} {A : Option Addr} {n : Nat} {xs : List UInt8} (h : IsBytes w A n xs) (m : Nat) : IsBytes (w.drewN m) A n xs := h
theorem IsBytes.below {w w' : World} {A : Option Addr} {n : Nat} {xs : List UInt8} (h : IsBytes w A n xs) (hb : Below w.heap.size w w') : IsBytes w' A n xs := by
  refine ⟨h.1, h.2.1, fun hn => ?_⟩
  obtain ⟨b, o, rfl, hc⟩ := h.2.2 hn
  exact ⟨b, o, rfl, fun j hj => (hb.cell (World.block_lt_of_cell? w _ (hc j hj))).trans (hc j hj)⟩
theorem IsBytes.fr {w w' : World} {S : Nat → Prop} {A : Option Addr} {n : Nat} {xs : List UInt8} (h : IsBytes w A n xs) (hf : Fr S w w') (hs : ∀ a, A = some a → 0 < n → ¬ S a.block) : IsBytes w' A n xs := by
  refine ⟨h.1, h.2.1, fun hn => ?_⟩
  obtain ⟨b, o, rfl, hc⟩ := h.2.2 hn
  refine ⟨b, o, rfl, fun j hj => ?_⟩
  rw [← hc j hj]
  exact World.cell?_of_block (w := w) (a := ⟨b, o + j, none⟩) (hf.block b (World.block_lt_of_cell? w _ (hc j hj)) (hs _ rfl hn))

theorem addr_add (b o n : Nat) : ((⟨b, o, none⟩ : Addr).add n) = ⟨b, o + n, none⟩ := by unfold Addr.add; split <;> simp_all

theorem fold_push (xs : List UInt8) : ∀ s : ByteArray, (xs.map fun b => ((b.toNat : Nat) : Int)).foldl (fun (r : ByteArray) (n : Int) => r.push (UInt8.ofNat n.toNat)) s = ⟨s.data ++ xs.toArray⟩ := by
  induction xs with
  | nil => intro s; obtain ⟨d⟩ := s; simp
  | cons b xs ih =>
    intro s
    simp only [List.map_cons, List.foldl_cons]
    rw [ih]
    obtain ⟨d⟩ := s
    simp [ByteArray.push]

/-- 'string(b)'. -/
theorem run_string {P : Program} {w : World} (src dst e : TypeId) (hs : P.underlying src = some (.slice e)) (he : P.underlying e = some (.int .u8)) (hd : P.underlying dst = some .string) {A : Option Addr} {n : Nat} (c : Nat) {xs : List UInt8} (h : IsBytes w A n xs) :
    (convert src dst (.slice A n c)).run P w = .ok (.string ⟨xs.toArray⟩) w := by
  rw [run_convert_bytes_string w src dst e A n c hs he hd]
  cases A with
  | none =>
    have h0 : n = 0 := by
      rcases Nat.eq_zero_or_pos n with h0 | h0
      · exact h0
      · obtain ⟨_, _, h1, _⟩ := h.2.2 h0; cases h1
    have hx : xs = [] := List.length_eq_zero_iff.1 (h.1.trans h0)
    subst hx
    rfl
  | some a =>
    have hl : (loadCells a n).run P w = .ok ((xs.map fun b => ((b.toNat : Nat) : Int)).map (Value.int .u8)).toArray w := by
      rw [run_loadCells w a n (fun j => bcell (xs.getD j 0)) (fun j hj => by
        obtain ⟨b, o, h1, hc⟩ := h.2.2 (by omega)
        cases h1
        rw [addr_add]
        exact hc j hj)]
      congr 2
      apply List.ext_getElem?
      intro j
      have := h.1
      by_cases hj : j < n
      · simp [hj, List.getD, show j < xs.length by omega, bcell]
      · rw [List.getElem?_eq_none (by simp; omega), List.getElem?_eq_none (by simp; omega)]
    rw [run_bytesToString w a n c _ hl, fold_push]
    have e : ByteArray.empty.data ++ xs.toArray = xs.toArray := by show (#[] : Array UInt8) ++ xs.toArray = _; simp
    rw [e]

/-- A new block of bytes. -/
theorem IsBytes.new (w : World) (xs : List UInt8) (t : TypeId) (h : xs.length ≤ 140737488351232) : IsBytes (w.alloc (.cells (bcells xs).toArray t)) (some ⟨w.heap.size, 0, none⟩) xs.length xs := by
  refine ⟨rfl, h, fun _ => ⟨_, _, rfl, fun j hj => ?_⟩⟩
  rw [blk_cell (blk_new w _)]
  simp [bcells, List.getD, hj]

/-- What a row of the call's own reads as. -/
theorem of_own {w : World} {B : Nat} {t : TypeId} {v : Value} {n : Nat} {xs : List UInt8} (h : w.ownsRow B t 1 v n (bcells xs)) (hn : n ≤ 140737488351232) :
    ∃ A c, v = .slice A n c ∧ IsBytes w A n xs ∧ ∀ a, A = some a → B ≤ a.block ∧ a.block < w.heap.size := by
  have hl : xs.length = n := by have := h.1; simpa [bcells] using this
  rcases h with ⟨_, ⟨rfl, h0⟩ | ⟨g, cap, cur, rfl, hb, hh, hcap, _, hsz, ht⟩⟩
  · exact ⟨none, 0, by rw [h0], ⟨hl, hn, fun hp => by omega⟩, by simp⟩
  · refine ⟨_, cap, rfl, ⟨hl, hn, fun hp => ⟨g, 0, rfl, fun j hj => ?_⟩⟩, fun a ha => by cases ha; exact ⟨hb, blk_lt hh⟩⟩
    rw [Nat.zero_add, blk_cell hh]
    have : (cur.toList.take (n * 1))[j]? = (bcells xs)[j]? := by rw [ht]
    rw [List.getElem?_take, if_pos (by omega), Array.getElem?_toList] at this
    rw [this]
    simp [bcells, List.getD, show j < xs.length by omega]
end Go.Proofs.YtcefmhofidoloaaGreatDoor.Byt
