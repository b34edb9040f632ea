/- Words on worlds for the proofs of this seat: which blocks a call may turn, and what a block that is not turned still holds. -/
import Derived.Below
import Derived.WalkKit
import Derived.ProofKit
import Derived.Laws.IdiomCopy
import Derived.Deep.Draws
set_option linter.unusedVariables false
namespace Go.Proofs.YtcefmhofidoloaaGreatDoor.Base
open Go.RowKit

/-- All blocks of w outside S are as they were; what is new comes behind them. -/
structure Fr (S : Nat → Prop) (w w' : World) : Prop where
  os : w'.os = w.os
  tape : w'.tape = w.tape
  output : w'.output = w.output
  size : w.heap.size ≤ w'.heap.size
  block : ∀ k, k < w.heap.size → ¬ S k → w'.heap[k]? = w.heap[k]?

theorem Fr.refl (S : Nat → Prop) (w : World) : Fr S w w := ⟨rfl, rfl, rfl, Nat.le_refl _, fun _ _ _ => rfl⟩
theorem Fr.trans {S T U : Nat → Prop} {a b c : World} (h : Fr S a b) (k : Fr T b c) (hs : ∀ k, S k → k < a.heap.size → U k) (ht : ∀ k, T k → k < a.heap.size → U k) : Fr U a c :=
  ⟨k.os.trans h.os, k.tape.trans h.tape, k.output.trans h.output, Nat.le_trans h.size k.size, fun i hi hu => (k.block i (Nat.lt_of_lt_of_le hi h.size) (fun h' => hu (ht i h' hi))).trans (h.block i hi (fun h' => hu (hs i h' hi)))⟩
theorem Fr.mono {S T : Nat → Prop} {a b : World} (h : Fr S a b) (hs : ∀ k, S k → k < a.heap.size → T k) : Fr T a b :=
  ⟨h.os, h.tape, h.output, h.size, fun i hi hu => h.block i hi (fun h' => hu (hs i h' hi))⟩
theorem Fr.below {S : Nat → Prop} {a b : World} (h : Fr S a b) (hs : ∀ k, S k → a.heap.size ≤ k) : Below a.heap.size a b :=
  ⟨h.os, h.tape, h.output, h.size, fun i hi => h.block i hi (fun h' => by have := hs i h'; omega)⟩
theorem Fr.of_below {S : Nat → Prop} {a b : World} (h : Below a.heap.size a b) : Fr S a b :=
  ⟨h.os, h.tape, h.output, h.size, fun i hi _ => h.block i hi⟩
theorem Fr.of_grown {S : Nat → Prop} {a b : World} {row : Option Nat} (h : a.grownBy b row) (hs : ∀ k, row = some k → S k) : Fr S a b :=
  ⟨h.os, h.tape, h.output, h.size, fun i hi hu => h.block i hi (fun h' => hu (hs i h'.symm))⟩
theorem Fr.setCell {S : Nat → Prop} {a b : World} (h : Fr S a b) {p : Addr} (hp : S p.block) (u : Value) : Fr S a (b.setCell p u) :=
  ⟨h.os, h.tape, h.output, by simpa [World.setCell] using h.size, fun i hi hu => (Below.heap_setCell b p u i (fun e => hu (e ▸ hp))).trans (h.block i hi hu)⟩
theorem Fr.setNew {S : Nat → Prop} {a b : World} (h : Fr S a b) {p : Addr} (hp : a.heap.size ≤ p.block) (u : Value) : Fr S a (b.setCell p u) :=
  ⟨h.os, h.tape, h.output, by simpa [World.setCell] using h.size, fun i hi hu => (Below.heap_setCell b p u i (by omega)).trans (h.block i hi hu)⟩
theorem Fr.drewN {S : Nat → Prop} {a b : World} (h : Fr S a b) (n : Nat) : Fr S a (b.drewN n) := ⟨h.os, h.tape, h.output, h.size, h.block⟩
theorem Fr.drew {S : Nat → Prop} {a b : World} (h : Fr S a b) : Fr S a b.drew := ⟨h.os, h.tape, h.output, h.size, h.block⟩
theorem Fr.alloc {S : Nat → Prop} {a b : World} (h : Fr S a b) (o : Obj) : Fr S a (b.alloc o) :=
  ⟨h.os, h.tape, h.output, Nat.le_trans h.size (by simp), fun i hi hu => (Below.heap_alloc b o i (by have := h.size; omega)).trans (h.block i hi hu)⟩

theorem heap_setCells (b : Nat) : ∀ (vs : List Value) (o : Nat) (w : World) (k : Nat), k ≠ b → (w.setCells b o vs).heap[k]? = w.heap[k]?
  | [], _, _, _, _ => rfl
  | v :: vs, o, w, k, h => by
    show ((w.setCell ⟨b, o, none⟩ v).setCells b (o + 1) vs).heap[k]? = _
    rw [heap_setCells b vs (o + 1) _ k h, Below.heap_setCell _ _ _ _ h]

theorem setCells_os (b : Nat) : ∀ (vs : List Value) (o : Nat) (w : World), (w.setCells b o vs).os = w.os
  | [], _, _ => rfl
  | v :: vs, o, w => by show ((w.setCell ⟨b, o, none⟩ v).setCells b (o + 1) vs).os = _; rw [setCells_os b vs]; rfl
theorem setCells_tape (b : Nat) : ∀ (vs : List Value) (o : Nat) (w : World), (w.setCells b o vs).tape = w.tape
  | [], _, _ => rfl
  | v :: vs, o, w => by show ((w.setCell ⟨b, o, none⟩ v).setCells b (o + 1) vs).tape = _; rw [setCells_tape b vs]; rfl
theorem setCells_output (b : Nat) : ∀ (vs : List Value) (o : Nat) (w : World), (w.setCells b o vs).output = w.output
  | [], _, _ => rfl
  | v :: vs, o, w => by show ((w.setCell ⟨b, o, none⟩ v).setCells b (o + 1) vs).output = _; rw [setCells_output b vs]; rfl
theorem setCells_size (b : Nat) : ∀ (vs : List Value) (o : Nat) (w : World), (w.setCells b o vs).heap.size = w.heap.size
  | [], _, _ => rfl
  | v :: vs, o, w => by show ((w.setCell ⟨b, o, none⟩ v).setCells b (o + 1) vs).heap.size = _; rw [setCells_size b vs]; simp [World.setCell]
/-- A row's cells written from o on. -/
def putCells (cur : Array Value) : Nat → List Value → Array Value
  | _, [] => cur
  | o, v :: vs => putCells (cur.setIfInBounds o v) (o + 1) vs
theorem setCells_heap {b : Nat} {t : TypeId} {fr : Nat × Nat} : ∀ (vs : List Value) {cur : Array Value} (o : Nat) {w : World}, w.heap[b]? = some (.cells cur t fr) → (w.setCells b o vs).heap[b]? = some (.cells (putCells cur o vs) t fr)
  | [], _, _, _, h => h
  | v :: vs, cur, o, w, h => by
    show ((w.setCell ⟨b, o, none⟩ v).setCells b (o + 1) vs).heap[b]? = _
    refine setCells_heap vs (o + 1) (cur := cur.setIfInBounds o v) ?_
    simp [World.setCell, Array.getElem?_modify, h]
theorem putCells_size : ∀ (vs : List Value) (cur : Array Value) (o : Nat), (putCells cur o vs).size = cur.size
  | [], _, _ => rfl
  | v :: vs, cur, o => by simp only [putCells]; rw [putCells_size vs]; simp
theorem putCells_get : ∀ (vs : List Value) (cur : Array Value) (o j : Nat), o + vs.length ≤ cur.size → (putCells cur o vs)[j]? = if o ≤ j ∧ j < o + vs.length then vs[j - o]? else cur[j]?
  | [], cur, o, j, _ => by simp [putCells]; omega
  | v :: vs, cur, o, j, h => by
    simp only [putCells]
    simp only [List.length_cons] at h ⊢
    rw [putCells_get vs _ (o + 1) j (by simp; omega)]
    by_cases h1 : o + 1 ≤ j ∧ j < o + 1 + vs.length
    · rw [if_pos h1, if_pos (by omega), show j - o = (j - (o + 1)) + 1 by omega]; simp
    · rw [if_neg h1]
      by_cases h2 : j = o
      · subst h2; rw [if_pos (by omega)]; simp [Array.getElem?_setIfInBounds]; omega
      · rw [if_neg (by omega), Array.getElem?_setIfInBounds, if_neg (by omega)]
theorem putCells_take (vs : List Value) (cur : Array Value) (h : vs.length ≤ cur.size) : (putCells cur 0 vs).toList.take vs.length = vs := by
  apply List.ext_getElem?
  intro j
  by_cases hj : j < vs.length
  · rw [List.getElem?_take, if_pos hj, Array.getElem?_toList, putCells_get vs cur 0 j (by omega), if_pos (by omega)]; simp
  · rw [List.getElem?_take, if_neg hj, List.getElem?_eq_none (by omega)]

theorem blk_cell {W : World} {g : Nat} {cs : Array Value} {t : TypeId} {fr : Nat × Nat} (h : W.heap[g]? = some (.cells cs t fr)) (j : Nat) : W.cell? ⟨g, j, none⟩ = cs[j]? := by simp [World.cell?, h]
theorem blk_frozen {W : World} {g : Nat} {cs : Array Value} {t : TypeId} (h : W.heap[g]? = some (.cells cs t (0, 0))) (j : Nat) : W.frozen? ⟨g, j, none⟩ = false := by simp [World.frozen?, h]
theorem blk_lt {W : World} {g : Nat} {o : Obj} (h : W.heap[g]? = some o) : g < W.heap.size := (Array.getElem?_eq_some_iff.1 h).1
theorem blk_set {W : World} {g : Nat} {cs : Array Value} {t : TypeId} {fr : Nat × Nat} (h : W.heap[g]? = some (.cells cs t fr)) (j : Nat) (v : Value) : (W.setCell ⟨g, j, none⟩ v).heap[g]? = some (.cells (cs.setIfInBounds j v) t fr) := by
  simp [World.setCell, Array.getElem?_modify, h]
theorem blk_far {W : World} {g : Nat} {o : Obj} (h : W.heap[g]? = some o) {p : Addr} (hp : g ≠ p.block) (v : Value) : (W.setCell p v).heap[g]? = some o := by
  rw [Below.heap_setCell _ _ _ _ hp]; exact h
theorem blk_alloc {W : World} {g : Nat} {o : Obj} (h : W.heap[g]? = some o) (o' : Obj) : (W.alloc o').heap[g]? = some o := by
  rw [Below.heap_alloc _ _ _ (blk_lt h)]; exact h
theorem blk_new (W : World) (o : Obj) : (W.alloc o).heap[W.heap.size]? = some o := by
  show (W.heap.push o)[W.heap.size]? = _; simp
theorem blk_fr {S : Nat → Prop} {W W' : World} {g : Nat} {o : Obj} (h : W.heap[g]? = some o) (hf : Fr S W W') (hs : ¬ S g) : W'.heap[g]? = some o :=
  (hf.block g (blk_lt h) hs).trans h
/-- A fact that the walk does not look into. -/
structure Asd (p : Prop) : Prop where mk :: (out : p)
theorem ret_eq {v v' : Value} (h : v = v') : Ending.returned v = Ending.returned v' := by rw [h]
end Go.Proofs.YtcefmhofidoloaaGreatDoor.Base
