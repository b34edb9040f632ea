/- Texts put together: Base, App, Bytes, Hx, Wk, Hd0, Hld, Eqs, Hd1, Hd2, EvP, Lin, Ck1, Ck2, Ck3, Ru, EvR, Run, Ck4, Rb1, Rb2, Rb3, Rlo, Rc1, Rcm, Rtx, Rcn. -/
import Derived.Below
import Derived.WalkKit
import Derived.ProofKit
import Derived.Laws.IdiomCopy
import Derived.Deep.Draws
import Derived.Deep.AppendLies
import Derived.Laws.AppendOwn
import Derived.Laws.OwnMore
import Derived.Laws.BytesString
import Derived.Laws.Cells
import Derived.Test.YtinflndbfdbnhaaProg
import Derived.KernelRfl
import Derived.OwnWalk
import Derived.RegionTactic
import Derived.ChangeAlike
import Derived.Deep.QuietTactic
import Derived.BigQuiet
import Derived.StillTailTactics
import Derived.Deep.RegionWith
import Derived.WalkSpells
import Derived.WalkLawsBesides
import Derived.WalkMore
import Derived.Outline
import Derived.Lib.IndexLaws
import Derived.Deep.Cut
import Derived.Deep.CutBlock
import Derived.Deep.DeepCutAuto
import Derived.Deep.RegionHeld3
import Derived.Laws.ResultCell
import Derived.Recover
import Derived.Defers
import Derived.OpenShut
import Derived.ShutString
import Derived.ChangeOld
import Derived.SizedLaws
import Derived.Lib.AppendIntMem
import Derived.ChangeAgain
import Derived.Laws.StructEq
import Derived.Lib.Bytealg
/- Words on worlds for the proofs of this seat: which blocks a call may turn, and what a block that is not turned still holds. -/
set_option linter.unusedVariables false
namespace Go.Proofs.Ytinflndbfdbnhaa.Base
open Go.RowKit

/-- All blocks of w outside S are as they were; what is new comes behind them. -/
structure Fr (S : Nat → Prop) (w w' : World) : Prop where
  os : w'.os = w.os
  tape : w'.tape = w.tape
  output : w'.output = w.output
  size : w.heap.size ≤ w'.heap.size
  block : ∀ k, k < w.heap.size → ¬ S k → w'.heap[k]? = w.heap[k]?

theorem Fr.refl (S : Nat → Prop) (w : World) : Fr S w w := ⟨rfl, rfl, rfl, Nat.le_refl _, fun _ _ _ => rfl⟩
theorem Fr.trans {S T U : Nat → Prop} {a b c : World} (h : Fr S a b) (k : Fr T b c) (hs : ∀ k, S k → k < a.heap.size → U k) (ht : ∀ k, T k → k < a.heap.size → U k) : Fr U a c :=
  ⟨k.os.trans h.os, k.tape.trans h.tape, k.output.trans h.output, Nat.le_trans h.size k.size, fun i hi hu => (k.block i (Nat.lt_of_lt_of_le hi h.size) (fun h' => hu (ht i h' hi))).trans (h.block i hi (fun h' => hu (hs i h' hi)))⟩
theorem Fr.mono {S T : Nat → Prop} {a b : World} (h : Fr S a b) (hs : ∀ k, S k → k < a.heap.size → T k) : Fr T a b :=
  ⟨h.os, h.tape, h.output, h.size, fun i hi hu => h.block i hi (fun h' => hu (hs i h' hi))⟩
theorem Fr.below {S : Nat → Prop} {a b : World} (h : Fr S a b) (hs : ∀ k, S k → a.heap.size ≤ k) : Below a.heap.size a b :=
  ⟨h.os, h.tape, h.output, h.size, fun i hi => h.block i hi (fun h' => by have := hs i h'; omega)⟩
theorem Fr.of_below {S : Nat → Prop} {a b : World} (h : Below a.heap.size a b) : Fr S a b :=
  ⟨h.os, h.tape, h.output, h.size, fun i hi _ => h.block i hi⟩
theorem Fr.of_grown {S : Nat → Prop} {a b : World} {row : Option Nat} (h : a.grownBy b row) (hs : ∀ k, row = some k → S k) : Fr S a b :=
  ⟨h.os, h.tape, h.output, h.size, fun i hi hu => h.block i hi (fun h' => hu (hs i h'.symm))⟩
theorem Fr.setCell {S : Nat → Prop} {a b : World} (h : Fr S a b) {p : Addr} (hp : S p.block) (u : Value) : Fr S a (b.setCell p u) :=
  ⟨h.os, h.tape, h.output, by simpa [World.setCell] using h.size, fun i hi hu => (Below.heap_setCell b p u i (fun e => hu (e ▸ hp))).trans (h.block i hi hu)⟩
theorem Fr.setNew {S : Nat → Prop} {a b : World} (h : Fr S a b) {p : Addr} (hp : a.heap.size ≤ p.block) (u : Value) : Fr S a (b.setCell p u) :=
  ⟨h.os, h.tape, h.output, by simpa [World.setCell] using h.size, fun i hi hu => (Below.heap_setCell b p u i (by omega)).trans (h.block i hi hu)⟩
theorem Fr.drewN {S : Nat → Prop} {a b : World} (h : Fr S a b) (n : Nat) : Fr S a (b.drewN n) := ⟨h.os, h.tape, h.output, h.size, h.block⟩
theorem Fr.drew {S : Nat → Prop} {a b : World} (h : Fr S a b) : Fr S a b.drew := ⟨h.os, h.tape, h.output, h.size, h.block⟩
theorem Fr.alloc {S : Nat → Prop} {a b : World} (h : Fr S a b) (o : Obj) : Fr S a (b.alloc o) :=
  ⟨h.os, h.tape, h.output, Nat.le_trans h.size (by simp), fun i hi hu => (Below.heap_alloc b o i (by have := h.size; omega)).trans (h.block i hi hu)⟩

theorem heap_setCells (b : Nat) : ∀ (vs : List Value) (o : Nat) (w : World) (k : Nat), k ≠ b → (w.setCells b o vs).heap[k]? = w.heap[k]?
  | [], _, _, _, _ => rfl
  | v :: vs, o, w, k, h => by
    show ((w.setCell ⟨b, o, none⟩ v).setCells b (o + 1) vs).heap[k]? = _
    rw [heap_setCells b vs (o + 1) _ k h, Below.heap_setCell _ _ _ _ h]

theorem setCells_os (b : Nat) : ∀ (vs : List Value) (o : Nat) (w : World), (w.setCells b o vs).os = w.os
  | [], _, _ => rfl
  | v :: vs, o, w => by show ((w.setCell ⟨b, o, none⟩ v).setCells b (o + 1) vs).os = _; rw [setCells_os b vs]; rfl
theorem setCells_tape (b : Nat) : ∀ (vs : List Value) (o : Nat) (w : World), (w.setCells b o vs).tape = w.tape
  | [], _, _ => rfl
  | v :: vs, o, w => by show ((w.setCell ⟨b, o, none⟩ v).setCells b (o + 1) vs).tape = _; rw [setCells_tape b vs]; rfl
theorem setCells_output (b : Nat) : ∀ (vs : List Value) (o : Nat) (w : World), (w.setCells b o vs).output = w.output
  | [], _, _ => rfl
  | v :: vs, o, w => by show ((w.setCell ⟨b, o, none⟩ v).setCells b (o + 1) vs).output = _; rw [setCells_output b vs]; rfl
theorem setCells_size (b : Nat) : ∀ (vs : List Value) (o : Nat) (w : World), (w.setCells b o vs).heap.size = w.heap.size
  | [], _, _ => rfl
  | v :: vs, o, w => by show ((w.setCell ⟨b, o, none⟩ v).setCells b (o + 1) vs).heap.size = _; rw [setCells_size b vs]; simp [World.setCell]
/-- A row's cells written from o on. -/
def putCells (cur : Array Value) : Nat → List Value → Array Value
  | _, [] => cur
  | o, v :: vs => putCells (cur.setIfInBounds o v) (o + 1) vs
theorem setCells_heap {b : Nat} {t : TypeId} {fr : Nat × Nat} : ∀ (vs : List Value) {cur : Array Value} (o : Nat) {w : World}, w.heap[b]? = some (.cells cur t fr) → (w.setCells b o vs).heap[b]? = some (.cells (putCells cur o vs) t fr)
  | [], _, _, _, h => h
  | v :: vs, cur, o, w, h => by
    show ((w.setCell ⟨b, o, none⟩ v).setCells b (o + 1) vs).heap[b]? = _
    refine setCells_heap vs (o + 1) (cur := cur.setIfInBounds o v) ?_
    simp [World.setCell, Array.getElem?_modify, h]
theorem putCells_size : ∀ (vs : List Value) (cur : Array Value) (o : Nat), (putCells cur o vs).size = cur.size
  | [], _, _ => rfl
  | v :: vs, cur, o => by simp only [putCells]; rw [putCells_size vs]; simp
theorem putCells_get : ∀ (vs : List Value) (cur : Array Value) (o j : Nat), o + vs.length ≤ cur.size → (putCells cur o vs)[j]? = if o ≤ j ∧ j < o + vs.length then vs[j - o]? else cur[j]?
  | [], cur, o, j, _ => by simp [putCells]; omega
  | v :: vs, cur, o, j, h => by
    simp only [putCells]
    simp only [List.length_cons] at h ⊢
    rw [putCells_get vs _ (o + 1) j (by simp; omega)]
    by_cases h1 : o + 1 ≤ j ∧ j < o + 1 + vs.length
    · rw [if_pos h1, if_pos (by omega), show j - o = (j - (o + 1)) + 1 by omega]; simp
    · rw [if_neg h1]
      by_cases h2 : j = o
      · subst h2; rw [if_pos (by omega)]; simp [Array.getElem?_setIfInBounds]; omega
      · rw [if_neg (by omega), Array.getElem?_setIfInBounds, if_neg (by omega)]
theorem putCells_take (vs : List Value) (cur : Array Value) (h : vs.length ≤ cur.size) : (putCells cur 0 vs).toList.take vs.length = vs := by
  apply List.ext_getElem?
  intro j
  by_cases hj : j < vs.length
  · rw [List.getElem?_take, if_pos hj, Array.getElem?_toList, putCells_get vs cur 0 j (by omega), if_pos (by omega)]; simp
  · rw [List.getElem?_take, if_neg hj, List.getElem?_eq_none (by omega)]

theorem blk_cell {W : World} {g : Nat} {cs : Array Value} {t : TypeId} {fr : Nat × Nat} (h : W.heap[g]? = some (.cells cs t fr)) (j : Nat) : W.cell? ⟨g, j, none⟩ = cs[j]? := by simp [World.cell?, h]
theorem blk_frozen {W : World} {g : Nat} {cs : Array Value} {t : TypeId} (h : W.heap[g]? = some (.cells cs t (0, 0))) (j : Nat) : W.frozen? ⟨g, j, none⟩ = false := by simp [World.frozen?, h]
theorem blk_lt {W : World} {g : Nat} {o : Obj} (h : W.heap[g]? = some o) : g < W.heap.size := (Array.getElem?_eq_some_iff.1 h).1
theorem blk_set {W : World} {g : Nat} {cs : Array Value} {t : TypeId} {fr : Nat × Nat} (h : W.heap[g]? = some (.cells cs t fr)) (j : Nat) (v : Value) : (W.setCell ⟨g, j, none⟩ v).heap[g]? = some (.cells (cs.setIfInBounds j v) t fr) := by
  simp [World.setCell, Array.getElem?_modify, h]
theorem blk_far {W : World} {g : Nat} {o : Obj} (h : W.heap[g]? = some o) {p : Addr} (hp : g ≠ p.block) (v : Value) : (W.setCell p v).heap[g]? = some o := by
  rw [Below.heap_setCell _ _ _ _ hp]; exact h
theorem blk_alloc {W : World} {g : Nat} {o : Obj} (h : W.heap[g]? = some o) (o' : Obj) : (W.alloc o').heap[g]? = some o := by
  rw [Below.heap_alloc _ _ _ (blk_lt h)]; exact h
theorem blk_new (W : World) (o : Obj) : (W.alloc o).heap[W.heap.size]? = some o := by
  show (W.heap.push o)[W.heap.size]? = _; simp
theorem blk_fr {S : Nat → Prop} {W W' : World} {g : Nat} {o : Obj} (h : W.heap[g]? = some o) (hf : Fr S W W') (hs : ¬ S g) : W'.heap[g]? = some o :=
  (hf.block g (blk_lt h) hs).trans h
/-- A fact that the walk does not look into. -/
structure Asd (p : Prop) : Prop where mk :: (out : p)
theorem ret_eq {v v' : Value} (h : v = v') : Ending.returned v = Ending.returned v' := by rw [h]
end Go.Proofs.Ytinflndbfdbnhaa.Base

/- append of whatever slice, nil or not, onto a row of the call's own; what turns no block of a type. Any program. -/
set_option linter.unusedVariables false
namespace Go.Proofs.Ytinflndbfdbnhaa.App
open Go.RowKit Go.Proofs.Ytinflndbfdbnhaa.Base

/-- A slice's type, its element's type, and what the latter is. -/
structure RowT (P : Program) (t e : TypeId) (size bytes : Nat) : Prop where
  ht : P.underlying t = some (.slice e)
  hi : ∃ i z, P.info? e = some i ∧ i.zero = some z ∧ i.size = size ∧ i.bytes = bytes ∧ z.cells.size = size
  pos : 0 < size

/-- What the slice at A, m long, gives to an append. -/
structure Feeds (w : World) (A : Option Addr) (m c size : Nat) (news : List Value) : Prop where
  len : news.length = m * size
  got : ∀ a, A = some a → ∀ j u, news[j]? = some u → w.cell? (a.add j) = some u
  zero : A = none → m = 0 ∧ c = 0
  one : ∀ u ∈ news, u.oneCell' = true

theorem Feeds.drew {w : World} {A : Option Addr} {m c size : Nat} {news : List Value} (h : Feeds w A m c size news) : Feeds w.drew A m c size news := ⟨h.len, h.got, h.zero, h.one⟩
theorem Feeds.of_block {w : World} {B : Nat} {cs : Array Value} {t : TypeId} {fr : Nat × Nat} (hb : w.heap[B]? = some (.cells cs t fr)) {m c size : Nat} (hl : cs.toList.length = m * size) (h1 : ∀ u ∈ cs.toList, u.oneCell' = true) : Feeds w (some ⟨B, 0, none⟩) m c size cs.toList :=
  ⟨hl, fun a ha => by cases ha; exact World.news_of_block hb, (fun h => by cases h), h1⟩
theorem Feeds.below {w w' : World} {A : Option Addr} {m c size : Nat} {news : List Value} (h : Feeds w A m c size news) (hb : Below w.heap.size w w') : Feeds w' A m c size news :=
  ⟨h.len, fun a ha j u hu => (hb.cell (by have h1 := World.block_lt_of_cell? w _ (h.got a ha j u hu); exact h1)).trans (h.got a ha j u hu), h.zero, h.one⟩

theorem own_form {w : World} {B : Nat} {e : TypeId} {s : Nat} {v : Value} {n : Nat} {xs : List Value} (h : w.ownsRow B e s v n xs) : ∃ A c, v = .slice A n c := by
  rcases h.2 with ⟨rfl, rfl⟩ | ⟨g, cap, cur, rfl, _⟩
  · exact ⟨_, _, rfl⟩
  · exact ⟨_, _, rfl⟩

theorem run_src {P : Program} (w : World) {t ty e : TypeId} {size bytes : Nat} (ht : RowT P t e size bytes) {base : Nat}
    {v : Value} {n : Nat} {xs : List Value} (hown : w.ownsRow base e size v n xs) {A : Option Addr} {m c : Nat} {news : List Value} (hs : Feeds w A m c size news)
    (h63 : n + m ≤ maxLen) (hbytes : (n + m) * bytes ≤ 140737488355328) (hbase : base ≤ w.heap.size) :
    ∃ A' c' w', (Builtin.append_ #[t, t] ty #[v, .slice A m c]).run P w = .ok (.slice A' (n + m) c') w' ∧ w'.ownsRow base e size (.slice A' (n + m) c') (n + m) (xs ++ news) ∧ w.grownBy w' v.ownBlock := by
  obtain ⟨i, z, hi, hz, hsz, hby, hzs⟩ := ht.hi
  cases A with
  | none =>
    obtain ⟨rfl, rfl⟩ := hs.zero rfl
    have hn : news = [] := List.length_eq_zero_iff.1 (by have := hs.len; omega)
    subst hn
    obtain ⟨A', c', rfl⟩ := own_form hown
    refine ⟨A', c', w, ?_, by simpa using hown, ⟨rfl, rfl, rfl, Nat.le_refl _, fun _ _ _ => rfl⟩⟩
    exact run_append_owned_none (P := P) (w := w) base t ty e i size ht.ht hi _ n xs hown
  | some a =>
    obtain ⟨v', w', hr, h2, h3, _⟩ := run_append_own (P := P) w base t ty e i z size bytes ht.ht hi hz hsz hby hzs ht.pos v n xs hown a m c news hs.len (hs.got a rfl) hs.one h63 hbytes hbase
    obtain ⟨A', c', rfl⟩ := own_form h2
    exact ⟨A', c', w', hr, h2, h3⟩

theorem wp_src {P : Program} {w : World} {o : Oper} {a : Act} {K : Act → World → Prop} {Q : Exit → Act → World → Prop} (s x : Operand) (t : TypeId)
    (ho : o.op = .call { callee := .builtin .append, args := #[s, x], argTypes := #[t, t] })
    {e : TypeId} {size bytes : Nat} (ht : RowT P t e size bytes) {base : Nat} (v : Value) {n : Nat} {xs : List Value} (hv : a.eval s = v) (hown : w.ownsRow base e size v n xs)
    (A : Option Addr) (m c : Nat) {news : List Value} (hx : a.eval x = .slice A m c) (hs : Feeds w A m c size news)
    (h63 : n + m ≤ maxLen) (hbytes : (n + m) * bytes ≤ 140737488355328) (hbase : base ≤ w.heap.size)
    (h : ∀ A' c' w', w'.ownsRow base e size (.slice A' (n + m) c') (n + m) (xs ++ news) → w.grownBy w' v.ownBlock → K (a.put o.dst (.slice A' (n + m) c')) w') : o.wp P a w K Q := by
  obtain ⟨A', c', w', hr, h2, h3⟩ := run_src (P := P) w (ty := o.type) ht hown hs h63 hbytes hbase
  unfold Oper.wp execOp
  simp only [ho, resolve, invoke, builtin, Sem.run_bind, Sem.run_pure, Result.andThen_ok, List.map_toArray, List.map_cons, List.map_nil, hv, hx, hr]
  exact h A' c' w' h2 h3

theorem wpList_src {P : Program} {w : World} {ops : Array Oper} {rest : List Oper} {o : Oper} {a : Act} {Q : Exit → Act → World → Prop} (hgd : o.guard = none) (s x : Operand) (t : TypeId)
    (ho : o.op = .call { callee := .builtin .append, args := #[s, x], argTypes := #[t, t] })
    {e : TypeId} {size bytes : Nat} (ht : RowT P t e size bytes) {base : Nat} (v : Value) {n : Nat} {xs : List Value} (hv : a.eval s = v) (hown : w.ownsRow base e size v n xs)
    (A : Option Addr) (m c : Nat) {news : List Value} (hx : a.eval x = .slice A m c) (hs : Feeds w A m c size news)
    (h63 : n + m ≤ maxLen) (hbytes : (n + m) * bytes ≤ 140737488355328) (hbase : base ≤ w.heap.size)
    (h : ∀ A' c' w', w'.ownsRow base e size (.slice A' (n + m) c') (n + m) (xs ++ news) → w.grownBy w' v.ownBlock → wpList P ops Q rest (a.put o.dst (.slice A' (n + m) c')) w') : wpList P ops Q (o :: rest) a w :=
  wpList_plain hgd fun _ hK => wp_src s x t ho ht v hv hown A m c hx hs h63 hbytes hbase fun A' c' w' h2 h3 => hK _ _ (h A' c' w' h2 h3)

theorem step_src {P : Program} {w : World} {ops : Array Oper} {o : Oper} {a : Act} {K : Act → World → Prop} {Q : Exit → Act → World → Prop} {E : Prop} (hgd : o.guard = none) (s x : Operand) (t : TypeId)
    (ho : o.op = .call { callee := .builtin .append, args := #[s, x], argTypes := #[t, t] })
    {e : TypeId} {size bytes : Nat} (ht : RowT P t e size bytes) {base : Nat} (v : Value) {n : Nat} {xs : List Value} (hv : a.eval s = v) (hown : w.ownsRow base e size v n xs)
    (A : Option Addr) (m c : Nat) {news : List Value} (hx : a.eval x = .slice A m c) (hs : Feeds w A m c size news)
    (h63 : n + m ≤ maxLen) (hbytes : (n + m) * bytes ≤ 140737488355328) (hbase : base ≤ w.heap.size)
    (h : ∀ A' c' w', w'.ownsRow base e size (.slice A' (n + m) c') (n + m) (xs ++ news) → w.grownBy w' v.ownBlock → K (a.put o.dst (.slice A' (n + m) c')) w') :
    if Region.wanted o (yielded ops a.tmps) = true then Oper.wp P o a w K Q else E := by
  have hw : Region.wanted o (yielded ops a.tmps) = true := by simp [Region.wanted, hgd]
  rw [if_pos hw]
  exact wp_src s x t ho ht v hv hown A m c hx hs h63 hbytes hbase h

/-- The same, onto an empty row that was just made. -/
theorem step_src0 {P : Program} {w : World} {ops : Array Oper} {o : Oper} {a : Act} {K : Act → World → Prop} {Q : Exit → Act → World → Prop} {E : Prop} (hgd : o.guard = none) (s x : Operand) (t : TypeId)
    (ho : o.op = .call { callee := .builtin .append, args := #[s, x], argTypes := #[t, t] })
    {e : TypeId} {size bytes : Nat} (ht : RowT P t e size bytes) (base : Nat) {b : Nat} (hv : a.eval s = .slice (some ⟨b, 0, none⟩) 0 0) (hown : w.ownsRow base e size (.slice (some ⟨b, 0, none⟩) 0 0) 0 [])
    (A : Option Addr) (m c : Nat) {news : List Value} (hx : a.eval x = .slice A m c) (hs : Feeds w A m c size news)
    (h63 : m ≤ maxLen) (hbytes : m * bytes ≤ 140737488355328) (hbase : base ≤ w.heap.size)
    (h : ∀ A' c' w', w'.ownsRow base e size (.slice A' m c') m news → w.grownBy w' (some b) → K (a.put o.dst (.slice A' m c')) w') :
    if Region.wanted o (yielded ops a.tmps) = true then Oper.wp P o a w K Q else E :=
  step_src hgd s x t ho ht _ hv hown A m c hx hs (by omega) (by simpa using hbytes) hbase (fun A' c' w' h1 h2 => by
    simp only [Nat.zero_add, List.nil_append] at h1 ⊢
    exact h A' c' w' h1 h2)
/-- No block of type e has turned. -/
def KeepT (e : TypeId) (w w' : World) : Prop := ∀ (g : Nat) (cs : Array Value) (fr : Nat × Nat), w.heap[g]? = some (Obj.cells cs e fr) → w'.heap[g]? = some (Obj.cells cs e fr)
theorem KeepT.refl (e : TypeId) (w : World) : KeepT e w w := fun _ _ _ h => h
theorem KeepT.trans {e : TypeId} {a b c : World} (h : KeepT e a b) (k : KeepT e b c) : KeepT e a c := fun g cs fr hg => k g cs fr (h g cs fr hg)
theorem KeepT.drew {e : TypeId} {a b : World} (h : KeepT e a b) : KeepT e a b.drew := h
theorem KeepT.drewN {e : TypeId} {a b : World} (h : KeepT e a b) (n : Nat) : KeepT e a (b.drewN n) := h
theorem KeepT.alloc {e : TypeId} {a b : World} (h : KeepT e a b) (o : Obj) : KeepT e a (b.alloc o) := fun g cs fr hg => blk_alloc (h g cs fr hg) o
theorem KeepT.below {e : TypeId} {a b c : World} (h : KeepT e a b) (hb : Below b.heap.size b c) : KeepT e a c := fun g cs fr hg => (hb.block g (blk_lt (h g cs fr hg))).trans (h g cs fr hg)
theorem KeepT.fr {e : TypeId} {a b c : World} (h : KeepT e a b) (hb : Fr (fun _ => False) b c) : KeepT e a c := fun g cs fr hg => (hb.block g (blk_lt (h g cs fr hg)) (fun h => h)).trans (h g cs fr hg)
theorem own_typ {W : World} {B : Nat} {e : TypeId} {s : Nat} {v : Value} {n : Nat} {xs : List Value} (h : W.ownsRow B e s v n xs) {g : Nat} {cs : Array Value} {t : TypeId} {fr : Nat × Nat} (hb : W.heap[g]? = some (.cells cs t fr)) (hne : e ≠ t) : some g ≠ v.ownBlock := by
  rcases h.2 with ⟨rfl, _⟩ | ⟨g', cap, cur, rfl, _, hh, _⟩
  · simp [Value.ownBlock]
  · intro hk
    simp [Value.ownBlock] at hk
    subst hk
    rw [hh] at hb
    injection hb with hb
    injection hb with _ ht
    exact hne ht
theorem KeepT.grown {e e' : TypeId} {a b c : World} (h : KeepT e a b) {B s : Nat} {v : Value} {n : Nat} {xs : List Value} (ho : b.ownsRow B e' s v n xs) (hg : b.grownBy c v.ownBlock) (hne : e' ≠ e) : KeepT e a c :=
  fun g cs fr hh => (hg.block g (blk_lt (h g cs fr hh)) (own_typ ho (h g cs fr hh) hne)).trans (h g cs fr hh)
theorem KeepT.setCell {e t : TypeId} {a b : World} (h : KeepT e a b) {p : Addr} {cs : Array Value} {fr : Nat × Nat} (hp : b.heap[p.block]? = some (.cells cs t fr)) (hne : t ≠ e) (u : Value) : KeepT e a (b.setCell p u) := fun g ds fs hg => by
  have h1 := h g ds fs hg
  refine blk_far h1 (fun he => ?_) u
  subst he
  rw [hp] at h1
  injection h1 with h1
  injection h1 with _ h2
  exact hne h2
theorem KeepT.own {e : TypeId} {w w' : World} (hk : KeepT e w w') {B s : Nat} {v : Value} {n : Nat} {xs : List Value} (h : w.ownsRow B e s v n xs) : w'.ownsRow B e s v n xs := by
  refine ⟨h.1, ?_⟩
  rcases h.2 with h0 | ⟨g, cap, cur, hv, hb, hh, rest⟩
  · exact .inl h0
  · exact .inr ⟨g, cap, cur, hv, hb, hk g cur (0, 0) hh, rest⟩

/-- What grows a row of the call's own turns nothing below the call. -/
theorem below_grown {W W' : World} {B : Nat} {e : TypeId} {s : Nat} {v : Value} {n : Nat} {xs : List Value} {w : World} (hb : Below B w W) (hg : W.grownBy W' v.ownBlock) (h : W.ownsRow B e s v n xs) (hB : B ≤ w.heap.size) : Below B w W' :=
  hb.trans ⟨hg.os, hg.tape, hg.output, hg.size, fun j hj => hg.block j (by have := hb.size; omega) (fun hk => by have := h.lt j hk.symm; omega)⟩
theorem blk_grown {W W' : World} {g : Nat} {cs : Array Value} {t : TypeId} {fr : Nat × Nat} (h : W.heap[g]? = some (.cells cs t fr)) {B : Nat} {e : TypeId} {s : Nat} {v : Value} {n : Nat} {xs : List Value} (ho : W.ownsRow B e s v n xs) (hg : W.grownBy W' v.ownBlock) (hne : e ≠ t) : W'.heap[g]? = some (.cells cs t fr) :=
  (hg.block g (blk_lt h) (own_typ ho h hne)).trans h
theorem below_alloc {a w : World} (h : Below a.heap.size a w) (o : Obj) : Below a.heap.size a (w.alloc o) := h.alloc h.size o
theorem below_step {a b c : World} (h : Below a.heap.size a b) (k : Below b.heap.size b c) : Below a.heap.size a c := h.trans (k.mono h.size)
theorem below_fr {a b c : World} (h : Below a.heap.size a b) (k : Fr (fun _ => False) b c) : Below a.heap.size a c := below_step h (k.below (fun _ h => h.elim))
theorem below_set {a w : World} (h : Below a.heap.size a w) {p : Addr} (hp : a.heap.size ≤ p.block) (u : Value) : Below a.heap.size a (w.setCell p u) := h.setCell hp u
theorem below_own {a b c : World} (h : Below a.heap.size a b) {B : Nat} {e : TypeId} {s : Nat} {v : Value} {n : Nat} {xs : List Value} (ho : b.ownsRow B e s v n xs) (hg : b.grownBy c v.ownBlock) (hB : a.heap.size ≤ B) : Below a.heap.size a c :=
  h.grown hg h.size (fun k hk => by have := ho.lt k hk; omega)
theorem below_grew {a b c : World} (h : Below a.heap.size a b) {row : Option Nat} (hg : b.grownBy c row) (hr : ∀ k, row = some k → a.heap.size ≤ k) : Below a.heap.size a c := h.grown hg h.size hr
theorem below_grown_at {a b c : World} (h : Below a.heap.size a b) {g : Nat} (hg : b.grownBy c (some g)) (hr : a.heap.size ≤ g) : Below a.heap.size a c :=
  h.grown hg h.size (fun k hk => by have hk' : g = k := Option.some.inj hk; omega)
theorem own_base {w : World} {B B' : Nat} {e : TypeId} {s : Nat} {v : Value} {n : Nat} {xs : List Value} (h : w.ownsRow B e s v n xs) (hB : B' ≤ B) : w.ownsRow B' e s v n xs := by
  refine ⟨h.1, ?_⟩
  rcases h.2 with h0 | ⟨g, cap, cur, hv, hb, rest⟩
  · exact .inl h0
  · exact .inr ⟨g, cap, cur, hv, by omega, rest⟩
/-- An empty row of the call's own. -/
theorem own_empty {w : World} {B b : Nat} {e : TypeId} {s : Nat} (h : w.heap[b]? = some (.cells #[] e (0, 0))) (hB : B ≤ b) : w.ownsRow B e s (.slice (some ⟨b, 0, none⟩) 0 0) 0 [] :=
  ⟨by simp, .inr ⟨b, 0, #[], rfl, hB, h, Nat.le_refl _, by decide, by simp, by simp⟩⟩
theorem own_empty_new {w : World} {B b : Nat} {e : TypeId} {s : Nat} (hb : w.heap.size = b) (hB : B ≤ b) : (w.alloc (.cells #[] e)).ownsRow B e s (.slice (some ⟨b, 0, none⟩) 0 0) 0 [] := by
  subst hb
  exact own_empty (blk_new w _) hB
end Go.Proofs.Ytinflndbfdbnhaa.App

/- Slices of bytes: how they read, what they are as a text, what a row of the call's own holds. Any program. -/
set_option linter.unusedVariables false
namespace Go.Proofs.Ytinflndbfdbnhaa.Byt
open Go.RowKit Go.Proofs.Ytinflndbfdbnhaa.Base

def bcell (b : UInt8) : Value := .int .u8 (b.toNat : Int)
def bcells (xs : List UInt8) : List Value := xs.map bcell

/-- The slice at A, n long, reads as the bytes xs. -/
def IsBytes (w : World) (A : Option Addr) (n : Nat) (xs : List UInt8) : Prop :=
  xs.length = n ∧ n ≤ 140737488351232 ∧ (0 < n → ∃ b o, A = some ⟨b, o, none⟩ ∧ ∀ j, j < n → w.cell? ⟨b, o + j, none⟩ = some (bcell (xs.getD j 0)))

theorem IsBytes.drewN {w : World} {A : Option Addr} {n : Nat} {xs : List UInt8} (h : IsBytes w A n xs) (m : Nat) : IsBytes (w.drewN m) A n xs := h
theorem IsBytes.below {w w' : World} {A : Option Addr} {n : Nat} {xs : List UInt8} (h : IsBytes w A n xs) (hb : Below w.heap.size w w') : IsBytes w' A n xs := by
  refine ⟨h.1, h.2.1, fun hn => ?_⟩
  obtain ⟨b, o, rfl, hc⟩ := h.2.2 hn
  exact ⟨b, o, rfl, fun j hj => (hb.cell (World.block_lt_of_cell? w _ (hc j hj))).trans (hc j hj)⟩
theorem IsBytes.fr {w w' : World} {S : Nat → Prop} {A : Option Addr} {n : Nat} {xs : List UInt8} (h : IsBytes w A n xs) (hf : Fr S w w') (hs : ∀ a, A = some a → 0 < n → ¬ S a.block) : IsBytes w' A n xs := by
  refine ⟨h.1, h.2.1, fun hn => ?_⟩
  obtain ⟨b, o, rfl, hc⟩ := h.2.2 hn
  refine ⟨b, o, rfl, fun j hj => ?_⟩
  rw [← hc j hj]
  exact World.cell?_of_block (w := w) (a := ⟨b, o + j, none⟩) (hf.block b (World.block_lt_of_cell? w _ (hc j hj)) (hs _ rfl hn))

theorem addr_add (b o n : Nat) : ((⟨b, o, none⟩ : Addr).add n) = ⟨b, o + n, none⟩ := by unfold Addr.add; split <;> simp_all

theorem fold_push (xs : List UInt8) : ∀ s : ByteArray, (xs.map fun b => ((b.toNat : Nat) : Int)).foldl (fun (r : ByteArray) (n : Int) => r.push (UInt8.ofNat n.toNat)) s = ⟨s.data ++ xs.toArray⟩ := by
  induction xs with
  | nil => intro s; obtain ⟨d⟩ := s; simp
  | cons b xs ih =>
    intro s
    simp only [List.map_cons, List.foldl_cons]
    rw [ih]
    obtain ⟨d⟩ := s
    simp [ByteArray.push]

/-- 'string(b)'. -/
theorem run_string {P : Program} {w : World} (src dst e : TypeId) (hs : P.underlying src = some (.slice e)) (he : P.underlying e = some (.int .u8)) (hd : P.underlying dst = some .string) {A : Option Addr} {n : Nat} (c : Nat) {xs : List UInt8} (h : IsBytes w A n xs) :
    (convert src dst (.slice A n c)).run P w = .ok (.string ⟨xs.toArray⟩) w := by
  rw [run_convert_bytes_string w src dst e A n c hs he hd]
  cases A with
  | none =>
    have h0 : n = 0 := by
      rcases Nat.eq_zero_or_pos n with h0 | h0
      · exact h0
      · obtain ⟨_, _, h1, _⟩ := h.2.2 h0; cases h1
    have hx : xs = [] := List.length_eq_zero_iff.1 (h.1.trans h0)
    subst hx
    rfl
  | some a =>
    have hl : (loadCells a n).run P w = .ok ((xs.map fun b => ((b.toNat : Nat) : Int)).map (Value.int .u8)).toArray w := by
      rw [run_loadCells w a n (fun j => bcell (xs.getD j 0)) (fun j hj => by
        obtain ⟨b, o, h1, hc⟩ := h.2.2 (by omega)
        cases h1
        rw [addr_add]
        exact hc j hj)]
      congr 2
      apply List.ext_getElem?
      intro j
      have := h.1
      by_cases hj : j < n
      · simp [hj, List.getD, show j < xs.length by omega, bcell]
      · rw [List.getElem?_eq_none (by simp; omega), List.getElem?_eq_none (by simp; omega)]
    rw [run_bytesToString w a n c _ hl, fold_push]
    have e : ByteArray.empty.data ++ xs.toArray = xs.toArray := by show (#[] : Array UInt8) ++ xs.toArray = _; simp
    rw [e]

/-- A new block of bytes. -/
theorem IsBytes.new (w : World) (xs : List UInt8) (t : TypeId) (h : xs.length ≤ 140737488351232) : IsBytes (w.alloc (.cells (bcells xs).toArray t)) (some ⟨w.heap.size, 0, none⟩) xs.length xs := by
  refine ⟨rfl, h, fun _ => ⟨_, _, rfl, fun j hj => ?_⟩⟩
  rw [blk_cell (blk_new w _)]
  simp [bcells, List.getD, hj]

/-- What a row of the call's own reads as. -/
theorem of_own {w : World} {B : Nat} {t : TypeId} {v : Value} {n : Nat} {xs : List UInt8} (h : w.ownsRow B t 1 v n (bcells xs)) (hn : n ≤ 140737488351232) :
    ∃ A c, v = .slice A n c ∧ IsBytes w A n xs ∧ ∀ a, A = some a → B ≤ a.block ∧ a.block < w.heap.size := by
  have hl : xs.length = n := by have := h.1; simpa [bcells] using this
  rcases h with ⟨_, ⟨rfl, h0⟩ | ⟨g, cap, cur, rfl, hb, hh, hcap, _, hsz, ht⟩⟩
  · exact ⟨none, 0, by rw [h0], ⟨hl, hn, fun hp => by omega⟩, by simp⟩
  · refine ⟨_, cap, rfl, ⟨hl, hn, fun hp => ⟨g, 0, rfl, fun j hj => ?_⟩⟩, fun a ha => by cases ha; exact ⟨hb, blk_lt hh⟩⟩
    rw [Nat.zero_add, blk_cell hh]
    have : (cur.toList.take (n * 1))[j]? = (bcells xs)[j]? := by rw [ht]
    rw [List.getElem?_take, if_pos (by omega), Array.getElem?_toList] at this
    rw [this]
    simp [bcells, List.getD, show j < xs.length by omega]
end Go.Proofs.Ytinflndbfdbnhaa.Byt

/- Expressions as plain data. -/
set_option linter.unusedVariables false
namespace Go.Proofs.Ytinflndbfdbnhaa.Exp

/-- A value: its kind, its number, its bytes. -/
structure Vl where
  kind : Int
  int : Int
  text : List UInt8
/-- An expression. -/
inductive Ex where
  | mk (kind op : Int) (v : Vl) (table name : List UInt8) (col ty : Int) (args : List Ex)
def Ex.kind : Ex → Int | .mk k _ _ _ _ _ _ _ => k
def Ex.op : Ex → Int | .mk _ o _ _ _ _ _ _ => o
def Ex.v : Ex → Vl | .mk _ _ v _ _ _ _ _ => v
def Ex.table : Ex → List UInt8 | .mk _ _ _ t _ _ _ _ => t
def Ex.name : Ex → List UInt8 | .mk _ _ _ _ n _ _ _ => n
def Ex.col : Ex → Int | .mk _ _ _ _ _ c _ _ => c
def Ex.ty : Ex → Int | .mk _ _ _ _ _ _ t _ => t
def Ex.args : Ex → List Ex | .mk _ _ _ _ _ _ _ a => a
def vNull : Vl := ⟨0, 0, []⟩
def litE (v : Vl) : Ex := .mk 1 0 v [] [] 0 0 []
def colE (t n : List UInt8) : Ex := .mk 2 0 vNull t n 0 0 []
def unE (o : Int) (a : Ex) : Ex := .mk 3 o vNull [] [] 0 0 [a]
def pairE (o : Int) (a b : Ex) : Ex := .mk 4 o vNull [] [] 0 0 [a, b]
def nullE (o : Int) (a : Ex) : Ex := .mk 7 o vNull [] [] 0 0 [a]
def callE (k o : Int) (l : List Ex) : Ex := .mk k o vNull [] [] 0 0 l

/-- How many operands a function has. -/
def opn (k : Nat) : Nat := if k = 5 then 3 else if k = 6 then 2 else 1
end Go.Proofs.Ytinflndbfdbnhaa.Exp

/- What the walks of this seat lean on. -/


/- Expressions in memory. -/
set_option linter.unusedVariables false
set_option linter.unusedSimpArgs false
namespace Go.Proofs.Ytinflndbfdbnhaa.Exp
open Go.RowKit Go.Proofs.Ytinflndbfdbnhaa.Base Go.Proofs.Ytinflndbfdbnhaa.App Go.Proofs.Ytinflndbfdbnhaa.Byt

/-- A function that is called by its text. -/
def IsGo (F : FuncId) : Prop := ∀ (args : Array Value) (w : World), (callFunc F args).run Try.prog w = .ok (.enter F args) w
theorem isGo_of {F : FuncId} {fn : Func} {c : Code} (hf : Try.prog.funcs[F]? = some fn) (hname : (fn.name == "runtime.NumGoroutine") = false) (hb : fn.body = some c) : IsGo F := by
  intro args w
  have h1 : ¬ fn.name = "runtime.NumGoroutine" := by simpa using hname
  simp [callFunc, hf, h1, hb]

theorem mk_func (fn : Fn) (first cap : Array Value) (w : World) : (Instr.makeFunc fn first cap).run Try.prog w = .ok (.func fn first cap) w := rfl
theorem st_func (a : Addr) (fn : Fn) (first cap : Array Value) (w : World) : (store a (.func fn first cap)).run Try.prog w = stored Try.prog w a (.func fn first cap) .plain := run_store _ _ _ _ _ rfl
theorem blk_below {W W' : World} {g : Nat} {o : Obj} (hb : Below W.heap.size W W') (h : W.heap[g]? = some o) : W'.heap[g]? = some o := (hb.block g (blk_lt h)).trans h
/-- The cells of an expression whose operands' slice is s. -/
def exC (x : Ex) (s : Value) : List Value := [.int .i64 x.kind, .int .i64 x.op, .int .i64 x.v.kind, .int .i64 x.v.int, .string ⟨x.v.text.toArray⟩, .string ⟨x.table.toArray⟩, .string ⟨x.name.toArray⟩, .int .i64 x.col, .int .i64 x.ty, s]
/-- The value of an expression whose operands' slice is s. -/
def exV (x : Ex) (s : Value) : Value := .agg #[.int .i64 x.kind, .int .i64 x.op, .int .i64 x.v.kind, .int .i64 x.v.int, .string ⟨x.v.text.toArray⟩, .string ⟨x.table.toArray⟩, .string ⟨x.name.toArray⟩, .int .i64 x.col, .int .i64 x.ty, s]
/-- An expression lies at a place of a block. -/
def RowC (W : World) (g o : Nat) (x : Ex) (s : Value) : Prop := ∀ j (hj : j < 10), W.cell? ⟨g, o + j, none⟩ = some ((exC x s)[j]'hj)
/-- The slice s holds these expressions, and all that is within them; the blocks are of a kind. -/
inductive Held (P : Nat → Prop) (W : World) : List Ex → Value → Prop
  | nil (A : Option Addr) (c : Nat) : Held P W [] (.slice A 0 c)
  | cons (g o c : Nat) (xs : List Ex) (ss : List Value) (hg : P g) (hl : ss.length = xs.length) (hu : ∀ j, j < xs.length * 10 → W.frozen? ⟨g, o + j, none⟩ = false) (hrow : ∀ i (h : i < xs.length), RowC W g (o + i * 10) xs[i] (ss[i]'(by omega))) (hsub : ∀ i (h : i < xs.length), Held P W xs[i].args (ss[i]'(by omega))) : Held P W xs (.slice (some ⟨g, o, none⟩) xs.length c)
theorem RowC.below {W W' : World} {g o : Nat} {x : Ex} {s : Value} (h : RowC W g o x s) (hb : Below W.heap.size W W') : RowC W' g o x s := fun j hj =>
  (hb.cell (World.block_lt_of_cell? W _ (h j hj))).trans (h j hj)
theorem frozen_blk {W W' : World} {g : Nat} (h : W'.heap[g]? = W.heap[g]?) (j : Nat) : W'.frozen? ⟨g, j, none⟩ = W.frozen? ⟨g, j, none⟩ := by
  unfold World.frozen?
  rw [h]
theorem held_below {P : Nat → Prop} {W W' : World} {xs : List Ex} {s : Value} (h : Held P W xs s) (hb : Below W.heap.size W W') : Held P W' xs s := by
  induction h with
  | nil A c => exact .nil A c
  | cons g o c xs ss hg hl hu hrow hsub ih =>
    refine .cons g o c xs ss hg hl (fun j hj => ?_) (fun i h => (hrow i h).below hb) ih
    have hlt : g < W.heap.size := World.block_lt_of_cell? W _ (hrow 0 (by omega) 0 (by omega))
    rw [frozen_blk (hb.block g hlt)]
    exact hu j hj
theorem held_mono {P Q : Nat → Prop} {W : World} {xs : List Ex} {s : Value} (h : Held P W xs s) (hPQ : ∀ g, g < W.heap.size → P g → Q g) : Held Q W xs s := by
  induction h with
  | nil A c => exact .nil A c
  | cons g o c xs ss hg hl hu hrow hsub ih =>
    by_cases h0 : 0 < xs.length
    · exact .cons g o c xs ss (hPQ g (World.block_lt_of_cell? W _ (hrow 0 h0 0 (by omega))) hg) hl hu hrow ih
    · obtain rfl : xs = [] := List.length_eq_zero_iff.mp (by omega)
      exact .nil _ _
theorem cell_frS {S : Nat → Prop} {W W' : World} (hf : Fr S W W') {g j : Nat} {v : Value} (hg : ¬ S g) (h : W.cell? ⟨g, j, none⟩ = some v) : W'.cell? ⟨g, j, none⟩ = some v := by
  have hlt := World.block_lt_of_cell? W _ h
  rw [← h]
  unfold World.cell?
  rw [hf.block g hlt hg]
theorem RowC.frS {S : Nat → Prop} {W W' : World} {g o : Nat} {x : Ex} {s : Value} (h : RowC W g o x s) (hf : Fr S W W') (hg : ¬ S g) : RowC W' g o x s := fun j hj => cell_frS hf hg (h j hj)
theorem held_frS {P S : Nat → Prop} {W W' : World} {xs : List Ex} {s : Value} (h : Held P W xs s) (hf : Fr S W W') (hS : ∀ g, P g → ¬ S g) : Held P W' xs s := by
  induction h with
  | nil A c => exact .nil A c
  | cons g o c xs ss hg hl hu hrow hsub ih =>
    refine .cons g o c xs ss hg hl (fun j hj => ?_) (fun i h => (hrow i h).frS hf (hS g hg)) ih
    have hlt : g < W.heap.size := World.block_lt_of_cell? W _ (hrow 0 (by omega) 0 (by omega))
    rw [frozen_blk (hf.block g hlt (hS g hg))]
    exact hu j hj
theorem cell_ne {W : World} {R g j : Nat} {cs : Array Value} {t : TypeId} {fr : Nat × Nat} {v : Value} (hR : W.heap[R]? = some (.cells cs t fr)) (hj : cs.size ≤ j) (h : W.cell? ⟨g, j, none⟩ = some v) : g ≠ R := by
  rintro rfl
  rw [blk_cell hR, Array.getElem?_eq_none hj] at h
  cases h
theorem fr_cell {R : Nat} {W W' : World} (hf : Fr (fun k => k = R) W W') {g j : Nat} {v : Value} (hg : g ≠ R) (h : W.cell? ⟨g, j, none⟩ = some v) : W'.cell? ⟨g, j, none⟩ = some v := by
  have hlt := World.block_lt_of_cell? W _ h
  rw [← h]
  unfold World.cell?
  rw [hf.block g hlt hg]
end Go.Proofs.Ytinflndbfdbnhaa.Exp

/- Expressions held in a block of a call's own. -/
set_option linter.unusedVariables false
set_option linter.unusedSimpArgs false
namespace Go.Proofs.Ytinflndbfdbnhaa.Exp
open Go.RowKit Go.Proofs.Ytinflndbfdbnhaa.Base Go.Proofs.Ytinflndbfdbnhaa.App Go.Proofs.Ytinflndbfdbnhaa.Byt

def rowsC (ps : List (Ex × Value)) : List Value := ps.flatMap fun p => exC p.1 p.2
theorem exC_len (x : Ex) (s : Value) : (exC x s).length = 10 := rfl
theorem rowsC_cons (p : Ex × Value) (ps : List (Ex × Value)) : rowsC (p :: ps) = exC p.1 p.2 ++ rowsC ps := by simp [rowsC]
theorem rowsC_snoc (ps : List (Ex × Value)) (p : Ex × Value) : rowsC (ps ++ [p]) = rowsC ps ++ exC p.1 p.2 := by simp [rowsC]
theorem rowsC_at : ∀ (ps : List (Ex × Value)) (i : Nat) (hi : i < ps.length) (j : Nat) (hj : j < 10), (rowsC ps)[i * 10 + j]? = some ((exC ps[i].1 ps[i].2)[j]'(by rw [exC_len]; exact hj))
  | p :: r, 0, hi, j, hj => by
    rw [rowsC_cons, Nat.zero_mul, Nat.zero_add, List.getElem?_append_left (by rw [exC_len]; exact hj), List.getElem?_eq_getElem]
    rfl
  | p :: r, i + 1, hi, j, hj => by
    have ih := rowsC_at r i (by simpa using hi) j hj
    rw [rowsC_cons, List.getElem?_append_right (by rw [exC_len]; omega), exC_len, show (i + 1) * 10 + j - 10 = i * 10 + j by omega, ih]
    rfl
theorem held_of_cells {P : Nat → Prop} {W : World} {g c : Nat} (hP : P g) (ps : List (Ex × Value)) (hu : ∀ j, W.frozen? ⟨g, j, none⟩ = false) (h : ∀ i (hi : i < ps.length), RowC W g (0 + i * 10) ps[i].1 ps[i].2) (hs : ∀ p ∈ ps, Held P W p.1.args p.2) : Held P W (ps.map (·.1)) (.slice (some ⟨g, 0, none⟩) ps.length c) := by
  have := Held.cons (P := P) (W := W) g 0 c (ps.map (·.1)) (ps.map (·.2)) hP (by simp) (fun j _ => hu _) (fun i hi => by
    have hi' : i < ps.length := by simpa using hi
    simpa using h i hi') (fun i hi => by
    have hi' : i < ps.length := by simpa using hi
    simpa using hs _ (List.getElem_mem hi'))
  simpa using this
theorem held_of_blk {P : Nat → Prop} {W : World} {g c : Nat} {T : TypeId} (hP : P g) (ps : List (Ex × Value)) (h : W.heap[g]? = some (.cells (rowsC ps).toArray T (0, 0))) (hs : ∀ p ∈ ps, Held P W p.1.args p.2) : Held P W (ps.map (·.1)) (.slice (some ⟨g, 0, none⟩) ps.length c) := by
  refine held_of_cells hP ps (fun j => blk_frozen h j) (fun i hi j hj => ?_) hs
  rw [blk_cell h, Nat.zero_add, List.getElem?_toArray, rowsC_at ps i hi j hj]
  rfl
theorem held_of_own {P : Nat → Prop} {W : World} {B : Nat} (hP : ∀ g, B ≤ g → P g) {A : Option Addr} {m c : Nat} (ps : List (Ex × Value)) (hm : m = ps.length) (h : W.ownsRow B 26 10 (.slice A m c) m (rowsC ps)) (hs : ∀ p ∈ ps, Held P W p.1.args p.2) : Held P W (ps.map (·.1)) (.slice A m c) := by
  subst hm
  have hc := fun g => h.cells (g := g)
  rcases h.2 with ⟨he, h00⟩ | ⟨g, cap, cur, he, hb, hh, _⟩
  · have : ps = [] := List.length_eq_zero_iff.mp h00
    subst this
    exact .nil _ _
  · injection he with h1 h2 h3
    subst h1
    refine held_of_cells (hP g hb) ps (fun j => blk_frozen hh j) (fun i hi j hj => ?_) hs
    have hg := hc g (by simp [Value.ownBlock])
    have := hg _ _ (rowsC_at ps i hi j hj)
    rw [addr_add, Nat.zero_add] at this
    rw [Nat.zero_add]
    exact this
theorem held_slice {P : Nat → Prop} {W : World} {xs : List Ex} {s : Value} (h : Held P W xs s) : ∃ A n c, s = .slice A n c := by
  cases h with
  | nil A c => exact ⟨_, _, _, rfl⟩
  | cons g o c xs ss hg hl hu hrow hsub => exact ⟨_, _, _, rfl⟩
theorem put10_blk {W : World} {b : Nat} {T : TypeId} {fr : Nat × Nat} {c0 c1 c2 c3 c4 c5 c6 c7 c8 c9 : Value} (h : W.heap[b]? = some (.cells #[c0, c1, c2, c3, c4, c5, c6, c7, c8, c9] T fr)) (v0 v1 v2 v3 v4 v5 v6 v7 v8 v9 : Value) : ((((((((((W.setCell ⟨b, 0, none⟩ v0).setCell ⟨b, 1, none⟩ v1).setCell ⟨b, 2, none⟩ v2).setCell ⟨b, 3, none⟩ v3).setCell ⟨b, 4, none⟩ v4).setCell ⟨b, 5, none⟩ v5).setCell ⟨b, 6, none⟩ v6).setCell ⟨b, 7, none⟩ v7).setCell ⟨b, 8, none⟩ v8).setCell ⟨b, 9, none⟩ v9).heap[b]? = some (.cells #[v0, v1, v2, v3, v4, v5, v6, v7, v8, v9] T fr) := by
  have := setCells_heap [v0, v1, v2, v3, v4, v5, v6, v7, v8, v9] 0 h
  have e : putCells #[c0, c1, c2, c3, c4, c5, c6, c7, c8, c9] 0 [v0, v1, v2, v3, v4, v5, v6, v7, v8, v9] = #[v0, v1, v2, v3, v4, v5, v6, v7, v8, v9] := by simp [putCells]
  rw [e] at this
  exact this
theorem put10_fr {W : World} {b : Nat} {S : Nat → Prop} (hb : S b) (v0 v1 v2 v3 v4 v5 v6 v7 v8 v9 : Value) : Fr S W ((((((((((W.setCell ⟨b, 0, none⟩ v0).setCell ⟨b, 1, none⟩ v1).setCell ⟨b, 2, none⟩ v2).setCell ⟨b, 3, none⟩ v3).setCell ⟨b, 4, none⟩ v4).setCell ⟨b, 5, none⟩ v5).setCell ⟨b, 6, none⟩ v6).setCell ⟨b, 7, none⟩ v7).setCell ⟨b, 8, none⟩ v8).setCell ⟨b, 9, none⟩ v9) :=
  Fr.setCell (p := ⟨b, 9, none⟩) (Fr.setCell (p := ⟨b, 8, none⟩) (Fr.setCell (p := ⟨b, 7, none⟩) (Fr.setCell (p := ⟨b, 6, none⟩) (Fr.setCell (p := ⟨b, 5, none⟩) (Fr.setCell (p := ⟨b, 4, none⟩) (Fr.setCell (p := ⟨b, 3, none⟩) (Fr.setCell (p := ⟨b, 2, none⟩) (Fr.setCell (p := ⟨b, 1, none⟩) (Fr.setCell (p := ⟨b, 0, none⟩) (Fr.refl S W) hb v0) hb v1) hb v2) hb v3) hb v4) hb v5) hb v6) hb v7) hb v8) hb v9
/-- What a new variable holds is no concern of those ahead. -/
theorem fr_new {R : Nat} {a b c : World} {S : Nat → Prop} (h : Fr (fun k => k = R) a b) (k : Fr S b c) (hs : ∀ k, S k → k = R ∨ a.heap.size ≤ k) : Fr (fun k => k = R) a c :=
  ⟨k.os.trans h.os, k.tape.trans h.tape, k.output.trans h.output, Nat.le_trans h.size k.size, fun i hi hu => (k.block i (Nat.lt_of_lt_of_le hi h.size) (fun h' => by rcases hs i h' with h | h; exact hu h; omega)).trans (h.block i hi hu)⟩
theorem ex_cells {W : World} {b : Nat} {x : Ex} {s : Value} {T : TypeId} {fr : Nat × Nat} (h : W.heap[b]? = some (.cells (exC x s).toArray T fr)) : W.cell? ⟨b, 0, none⟩ = some (.int .i64 x.kind) ∧ W.cell? ⟨b, 1, none⟩ = some (.int .i64 x.op) ∧ W.cell? ⟨b, 2, none⟩ = some (.int .i64 x.v.kind) ∧ W.cell? ⟨b, 3, none⟩ = some (.int .i64 x.v.int) ∧ W.cell? ⟨b, 4, none⟩ = some (.string ⟨x.v.text.toArray⟩) ∧ W.cell? ⟨b, 5, none⟩ = some (.string ⟨x.table.toArray⟩) ∧ W.cell? ⟨b, 6, none⟩ = some (.string ⟨x.name.toArray⟩) ∧ W.cell? ⟨b, 7, none⟩ = some (.int .i64 x.col) ∧ W.cell? ⟨b, 8, none⟩ = some (.int .i64 x.ty) ∧ W.cell? ⟨b, 9, none⟩ = some (s) :=
  ⟨(blk_cell h 0).trans rfl, (blk_cell h 1).trans rfl, (blk_cell h 2).trans rfl, (blk_cell h 3).trans rfl, (blk_cell h 4).trans rfl, (blk_cell h 5).trans rfl, (blk_cell h 6).trans rfl, (blk_cell h 7).trans rfl, (blk_cell h 8).trans rfl, (blk_cell h 9).trans rfl⟩
theorem asize (w : World) (o : Obj) : (w.alloc o).heap.size = w.heap.size + 1 := by simp
theorem nb1 (w : World) (a b : Obj) : ((w.alloc a).alloc b).heap[w.heap.size + 1]? = some b := by
  have := blk_new (w.alloc a) b
  rwa [asize] at this
theorem nb2 (w : World) (a b c : Obj) : (((w.alloc a).alloc b).alloc c).heap[w.heap.size + 1 + 1]? = some c := by
  have := nb1 (w.alloc a) b c
  rwa [asize] at this
theorem nb3 (w : World) (a b c d : Obj) : ((((w.alloc a).alloc b).alloc c).alloc d).heap[w.heap.size + 1 + 1 + 1]? = some d := by
  have := nb2 (w.alloc a) b c d
  rwa [asize] at this
end Go.Proofs.Ytinflndbfdbnhaa.Exp

/- '==' of structs as one Bool. Any program. -/
set_option linter.unusedVariables false
namespace Go.Proofs.Ytinflndbfdbnhaa.Eqs
open Go.RowKit
section
variable {P : Program} {d : Nat} {xs ys : Array Value} {f : Field} {fs : List Field} {a b : Value} {r s : Bool} {w : World}
/-- The last field. -/
theorem f_last (hn : (f.name == "_") = false) (ha : (part f.type xs f.offset).run P w = .ok a w) (hb : (part f.type ys f.offset).run P w = .ok b w) (he : (Op.equalIn d f.type a b).run P w = .ok r w) : (Op.eqFields d xs ys [f]).run P w = .ok r w := by
  have hn' : f.name ≠ "_" := by simpa using hn
  simp only [Op.eqFields, if_pos hn', Sem.run_bind, ha, hb, he, Result.andThen_ok]
  cases r <;> simp
theorem f_cons (hn : (f.name == "_") = false) (ha : (part f.type xs f.offset).run P w = .ok a w) (hb : (part f.type ys f.offset).run P w = .ok b w) (he : (Op.equalIn d f.type a b).run P w = .ok r w) (hr : (Op.eqFields d xs ys fs).run P w = .ok s w) : (Op.eqFields d xs ys (f :: fs)).run P w = .ok (r && s) w := by
  have hn' : f.name ≠ "_" := by simpa using hn
  rw [Op.eqFields]
  simp only [if_pos hn', Sem.run_bind, ha, hb, he, Result.andThen_ok]
  cases r
  · simp
  · simpa using hr
theorem s_of {t : TypeId} {fs : Array Field} (hu : P.underlying t = some (.struct fs)) (hp : P.stoodInHeld t = false) (h : (Op.eqFields d xs ys fs.toList).run P w = .ok r w) : (Op.equalIn (d + 1) t (.agg xs) (.agg ys)).run P w = .ok r w := by
  have hf : P.fieldsOf t = fs := by simp [Program.fieldsOf, hu]
  rw [run_equalIn_struct (P := P) w d t xs ys (by rw [hf]; exact hu) hp, hf]
  exact h
/-- The operations '==' and '!='. -/
theorem op_eql {t : TypeId} (h : ∀ d, (Op.equalIn (d + 2) t (.agg xs) (.agg ys)).run P w = .ok r w) : (binOp .eql t (.agg xs) (.agg ys)).run P w = .ok (.bool r) w := by
  simp only [binOp]
  simp [Op.equal, Op.maxDepth, h 9998]
theorem op_neq {t : TypeId} (h : ∀ d, (Op.equalIn (d + 2) t (.agg xs) (.agg ys)).run P w = .ok r w) : (binOp .neq t (.agg xs) (.agg ys)).run P w = .ok (.bool (!r)) w := by
  simp only [binOp]
  simp [Op.equal, Op.maxDepth, h 9998]
end
end Go.Proofs.Ytinflndbfdbnhaa.Eqs

/- expr.Same: two expressions are the same. -/
set_option linter.unusedVariables false
set_option linter.unusedSimpArgs false
namespace Go.Proofs.Ytinflndbfdbnhaa.Exp
open Go.RowKit Go.Proofs.Ytinflndbfdbnhaa.Base Go.Proofs.Ytinflndbfdbnhaa.App Go.Proofs.Ytinflndbfdbnhaa.Byt

mutual
/-- Are two expressions the same? -/
def sameE : Ex → Ex → Bool
  | .mk k o v t n _ _ a, .mk k' o' v' t' n' _ _ a' => k == k' && o == o' && (v.kind == v'.kind && (v.int == v'.int && v.text == v'.text)) && t == t' && n == n' && sameL a a'
def sameL : List Ex → List Ex → Bool
  | [], [] => true
  | x :: xs, y :: ys => sameE x y && sameL xs ys
  | [], _ :: _ => false
  | _ :: _, [] => false
end
mutual
/-- No expression within has too many operands. -/
def fewE : Ex → Prop
  | .mk _ _ _ _ _ _ _ a => a.length ≤ 1048576 ∧ fewL a
def fewL : List Ex → Prop
  | [] => True
  | x :: xs => fewE x ∧ fewL xs
end
theorem fewL_mem : ∀ {l : List Ex}, fewL l → ∀ x ∈ l, fewE x
  | [], _, x, hx => by cases hx
  | y :: r, h, x, hx => by
    rw [fewL] at h
    rcases List.mem_cons.mp hx with rfl | hx
    · exact h.1
    · exact fewL_mem h.2 x hx
theorem fewE_args {x : Ex} (h : fewE x) : x.args.length ≤ 1048576 ∧ fewL x.args := by
  cases x; rw [fewE] at h; exact h
theorem sameE_eq (x y : Ex) : sameE x y = (x.kind == y.kind && x.op == y.op && (x.v.kind == y.v.kind && (x.v.int == y.v.int && x.v.text == y.v.text)) && x.table == y.table && x.name == y.name && sameL x.args y.args) := by
  cases x; cases y; rw [sameE]; rfl
theorem sameL_len : ∀ {xs ys : List Ex}, xs.length ≠ ys.length → sameL xs ys = false
  | [], [], h => absurd rfl h
  | x :: xs, y :: ys, h => by rw [sameL, sameL_len (by simpa using h)]; simp
  | [], _ :: _, h => by rw [sameL]
  | _ :: _, [], h => by rw [sameL]
theorem sameL_all : ∀ {xs ys : List Ex}, xs.length = ys.length → (∀ i (h : i < xs.length) (h' : i < ys.length), sameE xs[i] ys[i] = true) → sameL xs ys = true
  | [], [], _, _ => by rw [sameL]
  | x :: xs, y :: ys, h, ha => by
    rw [sameL, show sameE x y = true from ha 0 (by simp) (by simp), sameL_all (by simpa using h) (fun i h1 h2 => ha (i + 1) (by simpa using h1) (by simpa using h2))]
    rfl
theorem sameL_not : ∀ {xs ys : List Ex} (i : Nat) (h : i < xs.length) (h' : i < ys.length), sameE xs[i] ys[i] = false → sameL xs ys = false
  | x :: xs, y :: ys, 0, h, h', hn => by rw [sameL, show sameE x y = false from hn]; rfl
  | x :: xs, y :: ys, i + 1, h, h', hn => by rw [sameL, sameL_not i (by simpa using h) (by simpa using h') (by simpa using hn)]; simp

theorem held_len {P : Nat → Prop} {W : World} {xs : List Ex} {s : Value} (h : Held P W xs s) : ∃ A c, s = .slice A xs.length c := by
  cases h with
  | nil A c => exact ⟨_, _, rfl⟩
  | cons g o c xs ss hg hl hu hrow hsub => exact ⟨_, _, rfl⟩
theorem held_at {P : Nat → Prop} {W : World} {xs : List Ex} {A : Option Addr} {n c : Nat} (h : Held P W xs (.slice A n c)) (i : Nat) (hi : i < xs.length) : ∃ g o A' n' c', A = some ⟨g, o, none⟩ ∧ RowC W g (o + i * 10) xs[i] (.slice A' n' c') ∧ Held P W xs[i].args (.slice A' n' c') := by
  cases h with
  | nil A c => exact absurd hi (by simp)
  | cons g o c xs ss hg hl hu hrow hsub =>
    have h1 := hrow i hi
    have h2 := hsub i hi
    obtain ⟨A', n', c', he⟩ := held_slice h2
    rw [he] at h1 h2
    exact ⟨g, o, A', n', c', rfl, h1, h2⟩
theorem held_frz {P : Nat → Prop} {W : World} {xs : List Ex} {g o n c : Nat} (h : Held P W xs (.slice (some ⟨g, o, none⟩) n c)) (i j : Nat) (hi : i < xs.length) (hj : j < 10) : W.frozen? ⟨g, o + i * 10 + j, none⟩ = false := by
  cases h with
  | nil A c => exact absurd hi (by simp)
  | cons g o c xs ss hg hl hu hrow hsub =>
    have := hu (i * 10 + j) (by omega)
    rwa [← Nat.add_assoc] at this
/-- What expr.Same answers. -/
def SameR (x y : Ex) (w : World) (e : Ending) (w' : World) : Prop := e = .returned (.bool (sameE x y)) ∧ Below w.heap.size w w'
def SameOK (x y : Ex) : Prop := ∀ (P Q : Nat → Prop) (sx sy : Value) (w : World), Held P w x.args sx → Held Q w y.args sy → Calls Try.prog 20 #[exV x sx, exV y sy] w (SameR x y w)

set_option maxRecDepth 100000 in
set_option maxHeartbeats 6400000 in
theorem equal_calls (P Q : Nat → Prop) (xs ys : List Ex) (sx sy : Value) (w : World) (hx : Held P w xs sx) (hy : Held Q w ys sy) (hn : xs.length ≤ 1048576)
    (hf : ∀ i (h : i < xs.length) (h' : i < ys.length), SameOK xs[i] ys[i]) :
    Calls Try.prog 51 #[sx, sy, .func (.func 20) #[] #[]] w fun e w' => e = .returned (.bool (sameL xs ys)) ∧ Below w.heap.size w w' := by
  have hcf : ∀ (args : Array Value) (w : World), (callFunc 20 args).run Try.prog w = .ok (.enter 20 args) w := isGo_of Try.func20 (by decide) rfl
  obtain ⟨A, ca, rfl⟩ := held_len hx
  obtain ⟨B, cb, rfl⟩ := held_len hy
  have HX := Asd.mk hx
  have HY := Asd.mk hy
  have HF := Asd.mk hf
  generalize hm : xs.length = m at hn ⊢
  generalize hm' : ys.length = m' 
  have HM := Asd.mk hm
  have HM' := Asd.mk hm'
  clear hx hy hf hm hm'
  go_enter Try.func51, Try.ntmps51
  by_cases hmm : m = m'
  · subst hmm
    go_wp2
    go_loopw [17] (fun i wr => ∃ (k : Nat), k ≤ m ∧ i = .int .i64 (k : Int) ∧ Asd (Below w.heap.size w wr) ∧ Asd (∀ j (h : j < xs.length) (h' : j < ys.length), j < k → sameE xs[j] ys[j] = true)) (fun i _ => m - (intOf i).toNat)
    case atStart => exact ⟨0, by omega, rfl, ⟨Below.refl _ _⟩, ⟨fun j _ _ h => absurd h (by omega)⟩⟩
    case round =>
      obtain ⟨k, hk, rfl, HB, HQ⟩ := hrel
      by_cases hlt : k < m
      · have hkx : k < xs.length := by rw [HM.out]; exact hlt
        have hky : k < ys.length := by rw [HM'.out]; exact hlt
        obtain ⟨g, o, A1, n1, c1, rfl, hr1, hh1⟩ := held_at (held_below HX.out HB.out) k hkx
        obtain ⟨h, q, A2, n2, c2, rfl, hr2, hh2⟩ := held_at (held_below HY.out HB.out) k hky
        have HFK := Asd.mk (HF.out k hkx hky)
        have HSK : Asd (sameE xs[k] ys[k] = true → ∀ j (h : j < xs.length) (h' : j < ys.length), j < k + 1 → sameE xs[j] ys[j] = true) := Asd.mk fun he j h h' hj => by
          rcases Nat.lt_succ_iff_lt_or_eq.mp hj with hj | rfl
          · exact HQ.out j h h' hj
          · exact he
        have HNK : Asd (sameE xs[k] ys[k] = false → sameL xs ys = false) := Asd.mk fun he => sameL_not k hkx hky he
        generalize xs[k] = x at HFK HSK HNK hr1 hh1
        generalize ys[k] = y at HFK HSK HNK hr2 hh2
        have HR2 := Asd.mk hr2
        have HH1 := Asd.mk hh1
        have HH2 := Asd.mk hh2
        have hgl := World.block_lt_of_cell? wr _ (hr1 0 (by omega))
        have hk0 : (0 : Int) ≤ (k : Int) := by omega
        have hk1 : k < m := hlt
        have x0 : wr.cell? ⟨g, o + k * 10, none⟩ = some (.int .i64 x.kind) := hr1 0 (by omega)
        have x1 : wr.cell? ⟨g, o + k * 10 + 1, none⟩ = some (.int .i64 x.op) := hr1 1 (by omega)
        have x2 : wr.cell? ⟨g, o + k * 10 + 2, none⟩ = some (.int .i64 x.v.kind) := hr1 2 (by omega)
        have x3 : wr.cell? ⟨g, o + k * 10 + 3, none⟩ = some (.int .i64 x.v.int) := hr1 3 (by omega)
        have x4 : wr.cell? ⟨g, o + k * 10 + 4, none⟩ = some (.string ⟨x.v.text.toArray⟩) := hr1 4 (by omega)
        have x5 : wr.cell? ⟨g, o + k * 10 + 5, none⟩ = some (.string ⟨x.table.toArray⟩) := hr1 5 (by omega)
        have x6 : wr.cell? ⟨g, o + k * 10 + 6, none⟩ = some (.string ⟨x.name.toArray⟩) := hr1 6 (by omega)
        have x7 : wr.cell? ⟨g, o + k * 10 + 7, none⟩ = some (.int .i64 x.col) := hr1 7 (by omega)
        have x8 : wr.cell? ⟨g, o + k * 10 + 8, none⟩ = some (.int .i64 x.ty) := hr1 8 (by omega)
        have x9 : wr.cell? ⟨g, o + k * 10 + 9, none⟩ = some (.slice A1 n1 c1) := hr1 9 (by omega)
        clear hr1 hr2 hh1 hh2 hkx hky
        have HA1 := Asd.mk (blk_new wr (.cells #[.int .i64 x.kind, .int .i64 x.op, .int .i64 x.v.kind, .int .i64 x.v.int, .string ⟨x.v.text.toArray⟩, .string ⟨x.table.toArray⟩, .string ⟨x.name.toArray⟩, .int .i64 x.col, .int .i64 x.ty, .slice A1 n1 c1] 26 (0, 0)))
        have HB1 : Asd (Below wr.heap.size wr _) := Asd.mk (below_alloc (Below.refl _ wr) (.cells #[.int .i64 x.kind, .int .i64 x.op, .int .i64 x.v.kind, .int .i64 x.v.int, .string ⟨x.v.text.toArray⟩, .string ⟨x.table.toArray⟩, .string ⟨x.name.toArray⟩, .int .i64 x.col, .int .i64 x.ty, .slice A1 n1 c1] 26 (0, 0)))
        go_upto_region 6 with fail
        generalize wr.alloc (.cells #[.int .i64 x.kind, .int .i64 x.op, .int .i64 x.v.kind, .int .i64 x.v.int, .string ⟨x.v.text.toArray⟩, .string ⟨x.table.toArray⟩, .string ⟨x.name.toArray⟩, .int .i64 x.col, .int .i64 x.ty, .slice A1 n1 c1] 26 (0, 0)) = w1 at HA1 HB1 ⊢
        have hr2 := HR2.out.below HB1.out
        clear x0 x1 x2 x3 x4 x5 x6 x7 x8 x9
        have HP1 : Asd (wr.heap.size < w1.heap.size) := Asd.mk (blk_lt HA1.out)
        have y0 : w1.cell? ⟨h, q + k * 10, none⟩ = some (.int .i64 y.kind) := hr2 0 (by omega)
        have y1 : w1.cell? ⟨h, q + k * 10 + 1, none⟩ = some (.int .i64 y.op) := hr2 1 (by omega)
        have y2 : w1.cell? ⟨h, q + k * 10 + 2, none⟩ = some (.int .i64 y.v.kind) := hr2 2 (by omega)
        have y3 : w1.cell? ⟨h, q + k * 10 + 3, none⟩ = some (.int .i64 y.v.int) := hr2 3 (by omega)
        have y4 : w1.cell? ⟨h, q + k * 10 + 4, none⟩ = some (.string ⟨y.v.text.toArray⟩) := hr2 4 (by omega)
        have y5 : w1.cell? ⟨h, q + k * 10 + 5, none⟩ = some (.string ⟨y.table.toArray⟩) := hr2 5 (by omega)
        have y6 : w1.cell? ⟨h, q + k * 10 + 6, none⟩ = some (.string ⟨y.name.toArray⟩) := hr2 6 (by omega)
        have y7 : w1.cell? ⟨h, q + k * 10 + 7, none⟩ = some (.int .i64 y.col) := hr2 7 (by omega)
        have y8 : w1.cell? ⟨h, q + k * 10 + 8, none⟩ = some (.int .i64 y.ty) := hr2 8 (by omega)
        have y9 : w1.cell? ⟨h, q + k * 10 + 9, none⟩ = some (.slice A2 n2 c2) := hr2 9 (by omega)
        clear hr2
        have HA2 := Asd.mk (blk_new w1 (.cells #[.int .i64 y.kind, .int .i64 y.op, .int .i64 y.v.kind, .int .i64 y.v.int, .string ⟨y.v.text.toArray⟩, .string ⟨y.table.toArray⟩, .string ⟨y.name.toArray⟩, .int .i64 y.col, .int .i64 y.ty, .slice A2 n2 c2] 26 (0, 0)))
        have HB2 : Asd (Below w1.heap.size w1 _) := Asd.mk (below_alloc (Below.refl _ w1) (.cells #[.int .i64 y.kind, .int .i64 y.op, .int .i64 y.v.kind, .int .i64 y.v.int, .string ⟨y.v.text.toArray⟩, .string ⟨y.table.toArray⟩, .string ⟨y.name.toArray⟩, .int .i64 y.col, .int .i64 y.ty, .slice A2 n2 c2] 26 (0, 0)))
        go_upto_region 7 with fail
        generalize w1.alloc (.cells #[.int .i64 y.kind, .int .i64 y.op, .int .i64 y.v.kind, .int .i64 y.v.int, .string ⟨y.v.text.toArray⟩, .string ⟨y.table.toArray⟩, .string ⟨y.name.toArray⟩, .int .i64 y.col, .int .i64 y.ty, .slice A2 n2 c2] 26 (0, 0)) = w2 at HA2 HB2 ⊢
        clear y0 y1 y2 y3 y4 y5 y6 y7 y8 y9
        have HB12 : Asd (Below wr.heap.size wr w2) := Asd.mk (HB1.out.trans (HB2.out.mono HB1.out.size))
        have HA12 := Asd.mk (blk_below HB2.out HA1.out)
        have u0 := (blk_cell HA12.out 0).trans rfl
        have u1 := (blk_cell HA12.out 1).trans rfl
        have u2 := (blk_cell HA12.out 2).trans rfl
        have u3 := (blk_cell HA12.out 3).trans rfl
        have u4 := (blk_cell HA12.out 4).trans rfl
        have u5 := (blk_cell HA12.out 5).trans rfl
        have u6 := (blk_cell HA12.out 6).trans rfl
        have u7 := (blk_cell HA12.out 7).trans rfl
        have u8 := (blk_cell HA12.out 8).trans rfl
        have u9 := (blk_cell HA12.out 9).trans rfl
        have v0 := (blk_cell HA2.out 0).trans rfl
        have v1 := (blk_cell HA2.out 1).trans rfl
        have v2 := (blk_cell HA2.out 2).trans rfl
        have v3 := (blk_cell HA2.out 3).trans rfl
        have v4 := (blk_cell HA2.out 4).trans rfl
        have v5 := (blk_cell HA2.out 5).trans rfl
        have v6 := (blk_cell HA2.out 6).trans rfl
        have v7 := (blk_cell HA2.out 7).trans rfl
        have v8 := (blk_cell HA2.out 8).trans rfl
        have v9 := (blk_cell HA2.out 9).trans rfl
        go_wp2_with fail
        refine (HFK.out P Q (.slice A1 n1 c1) (.slice A2 n2 c2) w2 (held_below HH1.out HB12.out) (held_below HH2.out HB12.out)).mono ?_
        rintro e w3 ⟨rfl, hb3⟩
        have HB3 : Asd (Below w.heap.size w w3) := Asd.mk (HB.out.trans ((HB12.out.trans (hb3.mono HB12.out.size)).mono HB.out.size))
        clear hb3 u0 v0 u1 v1 u2 v2 u3 v3 u4 v4 u5 v5 u6 v6 u7 v7 u8 v8 u9 v9
        cases hs : sameE x y with
        | true =>
          have HS := Asd.mk (HSK.out hs)
          clear hs
          go_wp2
          go_roundw
          case rel => exact ⟨k + 1, by omega, by go_num, HB3, HS⟩
          case measure => simp [intOf]; omega
        | false =>
          have HS := Asd.mk (HNK.out hs)
          clear hs
          go_wp2
          go_ret
          exact ⟨ret_eq (by rw [HS.out]; rfl), HB3.out⟩
      · have HS : Asd (sameL xs ys = true) := Asd.mk (sameL_all (HM.out.trans HM'.out.symm) fun i h h' => HQ.out i h h' (by have := HM.out; omega))
        have hge : ¬ (k : Int) < (m : Int) := by omega
        clear HQ
        go_wp2
        go_ret
        exact ⟨ret_eq (by rw [HS.out]; rfl), HB.out⟩
  · have HS : Asd (sameL xs ys = false) := Asd.mk (sameL_len (by rw [HM.out, HM'.out]; exact hmm))
    have hne : ((m : Int) != (m' : Int)) = true := by rw [bne_iff_ne]; omega
    clear hmm
    go_wp2
    go_ret
    exact ⟨ret_eq (by rw [HS.out]; rfl), Below.refl _ _⟩
theorem val_in (d : Nat) (w : World) (x0 y0 x1 y1 : Int) (x2 y2 : ByteArray) :
    (Op.equalIn (d + 2) 23 (.agg #[.int .i64 x0, .int .i64 x1, .string x2]) (.agg #[.int .i64 y0, .int .i64 y1, .string y2])).run Try.prog w = .ok (x0 == y0 && (x1 == y1 && (x2.toList == y2.toList))) w := by
  refine Eqs.s_of Try.underlying23 (by kernel_rfl) ?_
  refine Eqs.f_cons (by rfl) (by go_simp; rfl) (by go_simp; rfl) (by go_simp) ?_
  refine Eqs.f_cons (by rfl) (by go_simp; rfl) (by go_simp; rfl) (by go_simp) ?_
  exact Eqs.f_last (by rfl) (by go_simp; rfl) (by go_simp; rfl) (by go_simp)
theorem val_eql (w : World) (x0 y0 x1 y1 : Int) (x2 y2 : ByteArray) :
    (binOp .eql 23 (.agg #[.int .i64 x0, .int .i64 x1, .string x2]) (.agg #[.int .i64 y0, .int .i64 y1, .string y2])).run Try.prog w = .ok (.bool (x0 == y0 && (x1 == y1 && (x2.toList == y2.toList)))) w := Eqs.op_eql fun d => val_in d w x0 y0 x1 y1 x2 y2
theorem tl_eq (a b : List UInt8) : ((⟨a.toArray⟩ : ByteArray).toList == (⟨b.toArray⟩ : ByteArray).toList) = (a == b) := by rw [Lib.toList_data, Lib.toList_data]

set_option maxRecDepth 100000 in
set_option maxHeartbeats 6400000 in
theorem same_step (x y : Ex) (hx : fewE x) (hsub : ∀ i (h : i < x.args.length) (h' : i < y.args.length), SameOK x.args[i] y.args[i]) : SameOK x y := by
  intro P Q sx sy w hhx hhy
  obtain ⟨A1, n1, c1, rfl⟩ := held_slice hhx
  obtain ⟨A2, n2, c2, rfl⟩ := held_slice hhy
  have HS := Asd.mk (fun (W : World) (hb : Below w.heap.size w W) => equal_calls P Q x.args y.args (.slice A1 n1 c1) (.slice A2 n2 c2) W (held_below hhx hb) (held_below hhy hb) (fewE_args hx).1 hsub)
  have HE := Asd.mk (sameE_eq x y)
  have HB : Asd (Below w.heap.size w ((w.alloc (.cells #[.int .i64 x.kind, .int .i64 x.op, .int .i64 x.v.kind, .int .i64 x.v.int, .string ⟨x.v.text.toArray⟩, .string ⟨x.table.toArray⟩, .string ⟨x.name.toArray⟩, .int .i64 x.col, .int .i64 x.ty, .slice A1 n1 c1] 26 (0, 0))).alloc (.cells #[.int .i64 y.kind, .int .i64 y.op, .int .i64 y.v.kind, .int .i64 y.v.int, .string ⟨y.v.text.toArray⟩, .string ⟨y.table.toArray⟩, .string ⟨y.name.toArray⟩, .int .i64 y.col, .int .i64 y.ty, .slice A2 n2 c2] 26 (0, 0)))) := Asd.mk (below_alloc (below_alloc (Below.refl _ w) _) _)
  clear hhx hhy hx hsub
  unfold exV
  go_enter Try.func20, Try.ntmps20
  cases h1 : (x.kind == y.kind) with
  | false =>
    have HR : Asd (sameE x y = false) := Asd.mk (by rw [HE.out, h1]; simp)
    go_wp2
    go_ret
    exact ⟨ret_eq (by rw [HR.out]; rfl), HB.out⟩
  | true =>
    cases h2 : (x.op == y.op) with
    | false =>
      have HR : Asd (sameE x y = false) := Asd.mk (by rw [HE.out, h1, h2]; simp)
      go_wp2
      go_ret
      exact ⟨ret_eq (by rw [HR.out]; rfl), HB.out⟩
    | true =>
      cases h3 : (x.v.kind == y.v.kind && (x.v.int == y.v.int && x.v.text == y.v.text)) with
      | false =>
        have HR : Asd (sameE x y = false) := Asd.mk (by rw [HE.out, h1, h2, h3]; simp)
        have hve : ∀ W, (binOp .eql 23 (.agg #[.int .i64 x.v.kind, .int .i64 x.v.int, .string ⟨x.v.text.toArray⟩]) (.agg #[.int .i64 y.v.kind, .int .i64 y.v.int, .string ⟨y.v.text.toArray⟩])).run Try.prog W = .ok (.bool false) W := fun W => by rw [val_eql, tl_eq, h3]
        clear h3
        go_wp2
        go_ret
        exact ⟨ret_eq (by rw [HR.out]; rfl), HB.out⟩
      | true =>
        cases h4 : (x.table == y.table) with
        | false =>
          have HR : Asd (sameE x y = false) := Asd.mk (by rw [HE.out, h1, h2, h3, h4]; simp)
          have hve : ∀ W, (binOp .eql 23 (.agg #[.int .i64 x.v.kind, .int .i64 x.v.int, .string ⟨x.v.text.toArray⟩]) (.agg #[.int .i64 y.v.kind, .int .i64 y.v.int, .string ⟨y.v.text.toArray⟩])).run Try.prog W = .ok (.bool true) W := fun W => by rw [val_eql, tl_eq, h3]
          clear h3
          go_wp2
          go_ret
          exact ⟨ret_eq (by rw [HR.out]; rfl), HB.out⟩
        | true =>
          cases h5 : (x.name == y.name) with
          | false =>
            have HR : Asd (sameE x y = false) := Asd.mk (by rw [HE.out, h1, h2, h3, h4, h5]; simp)
            have hve : ∀ W, (binOp .eql 23 (.agg #[.int .i64 x.v.kind, .int .i64 x.v.int, .string ⟨x.v.text.toArray⟩]) (.agg #[.int .i64 y.v.kind, .int .i64 y.v.int, .string ⟨y.v.text.toArray⟩])).run Try.prog W = .ok (.bool true) W := fun W => by rw [val_eql, tl_eq, h3]
            clear h3
            go_wp2
            go_ret
            exact ⟨ret_eq (by rw [HR.out]; rfl), HB.out⟩
          | true =>
            have HR : Asd (sameE x y = sameL x.args y.args) := Asd.mk (by rw [HE.out, h1, h2, h3, h4, h5]; simp)
            have hve : ∀ W, (binOp .eql 23 (.agg #[.int .i64 x.v.kind, .int .i64 x.v.int, .string ⟨x.v.text.toArray⟩]) (.agg #[.int .i64 y.v.kind, .int .i64 y.v.int, .string ⟨y.v.text.toArray⟩])).run Try.prog W = .ok (.bool true) W := fun W => by rw [val_eql, tl_eq, h3]
            clear h3
            go_wp2_with fail
            refine (HS.out _ HB.out).mono ?_
            rintro e w2 ⟨rfl, hb2⟩
            have HB2 := Asd.mk (HB.out.trans (hb2.mono HB.out.size))
            clear hb2
            cases hl : sameL x.args y.args with
            | true =>
              have HR2 : Asd (sameE x y = true) := Asd.mk (HR.out.trans hl)
              clear hl
              go_wp2
              go_ret
              exact ⟨ret_eq (by rw [HR2.out]; rfl), HB2.out⟩
            | false =>
              have HR2 : Asd (sameE x y = false) := Asd.mk (HR.out.trans hl)
              clear hl
              go_wp2
              go_ret
              exact ⟨ret_eq (by rw [HR2.out]; rfl), HB2.out⟩
theorem args_lt (x : Ex) (i : Nat) (h : i < x.args.length) : SizeOf.sizeOf x.args[i] < SizeOf.sizeOf x := by
  cases x with
  | mk k o v t n c ty a =>
    have h1 := List.sizeOf_lt_of_mem (List.getElem_mem (l := a) h)
    have h2 : SizeOf.sizeOf a < SizeOf.sizeOf (Ex.mk k o v t n c ty a) := by simp; omega
    exact Nat.lt_trans h1 h2
theorem same_ok (x y : Ex) (hx : fewE x) : SameOK x y :=
  same_step x y hx fun i h h' => same_ok x.args[i] y.args[i] (fewL_mem (fewE_args hx).2 _ (List.getElem_mem h))
termination_by SizeOf.sizeOf x
decreasing_by exact args_lt x i h
/-- expr.Same. -/
theorem same_calls (P Q : Nat → Prop) (x y : Ex) (sx sy : Value) (w : World) (hx : fewE x) (hhx : Held P w x.args sx) (hhy : Held Q w y.args sy) :
    Calls Try.prog 20 #[exV x sx, exV y sy] w (SameR x y w) := same_ok x y hx P Q sx sy w hhx hhy

end Go.Proofs.Ytinflndbfdbnhaa.Exp

/- expr.operands; the lines of operators. -/
set_option linter.unusedVariables false
set_option linter.unusedSimpArgs false
namespace Go.Proofs.Ytinflndbfdbnhaa.Exp
open Go.RowKit Go.Proofs.Ytinflndbfdbnhaa.Base Go.Proofs.Ytinflndbfdbnhaa.App Go.Proofs.Ytinflndbfdbnhaa.Byt

set_option maxRecDepth 100000 in
set_option maxHeartbeats 1600000 in
theorem operands_calls (k : Nat) (w : World) : Calls Try.prog 105 #[.int .i64 (k : Nat)] w fun e w' => e = .returned (.int .i64 ((opn k : Nat) : Int)) ∧ w' = w := by
  by_cases h5 : k = 5
  · subst h5
    go_enter Try.func105, Try.ntmps105
    go_wp2
    go_ret
    exact ⟨rfl, rfl⟩
  · by_cases h6 : k = 6
    · subst h6
      clear h5
      go_enter Try.func105, Try.ntmps105
      go_wp2
      go_ret
      exact ⟨rfl, rfl⟩
    · have h5' : ¬ (k : Int) = 5 := by omega
      have h6' : ¬ (k : Int) = 6 := by omega
      have HO : Asd (opn k = 1) := Asd.mk (by unfold opn; rw [if_neg h5, if_neg h6])
      clear h5 h6
      go_enter Try.func105, Try.ntmps105
      go_wp2
      go_ret
      exact ⟨ret_eq (by rw [HO.out]; rfl), rfl⟩
/-- The line of a pair's operator. -/
def pairLn (o : Nat) : Int := [0, 0, 0, 1, 2, 4, 4, 4, 4, 4, 4, 6, 6, 7, 7, 7, 5].getD o 0
/-- What line answers. -/
def LineR (L : Int) (w : World) (e : Ending) (w' : World) : Prop := e = .returned (.int .i64 L) ∧ Below w.heap.size w w'
set_option maxRecDepth 100000 in
theorem line_index (o : Nat) (h : 3 ≤ o) (h' : o ≤ 16) (W : World) : (Instr.index 127 (.agg #[.int .i64 0, .int .i64 0, .int .i64 0, .int .i64 1, .int .i64 2, .int .i64 4, .int .i64 4, .int .i64 4, .int .i64 4, .int .i64 4, .int .i64 4, .int .i64 6, .int .i64 6, .int .i64 7, .int .i64 7, .int .i64 7, .int .i64 5]) (.int .i64 (o : Nat))).run Try.prog W = .ok (.int .i64 (pairLn o)) W := by
  have hc : o = 3 ∨ o = 4 ∨ o = 5 ∨ o = 6 ∨ o = 7 ∨ o = 8 ∨ o = 9 ∨ o = 10 ∨ o = 11 ∨ o = 12 ∨ o = 13 ∨ o = 14 ∨ o = 15 ∨ o = 16 := by omega
  clear h h'
  rcases hc with rfl | rfl | rfl | rfl | rfl | rfl | rfl | rfl | rfl | rfl | rfl | rfl | rfl | rfl
  all_goals
    first | rfl | (show _ = _; kernel_rfl)
end Go.Proofs.Ytinflndbfdbnhaa.Exp

/- What operators, functions and expressions are worth, as plain functions. -/
set_option linter.unusedVariables false
set_option linter.unusedSimpArgs false
namespace Go.Proofs.Ytinflndbfdbnhaa.Exp
open Go.RowKit Go.Proofs.Ytinflndbfdbnhaa.Base Go.Proofs.Ytinflndbfdbnhaa.App Go.Proofs.Ytinflndbfdbnhaa.Byt

def vNum (n : Int) : Vl := ⟨2, n, []⟩
def vTxt (s : List UInt8) : Vl := ⟨3, 0, s⟩
def vTru (b : Bool) : Vl := ⟨1, if b then 1 else 0, []⟩
def eqV (a b : Vl) : Bool := a.kind == b.kind && (a.int == b.int && a.text == b.text)
/-- A value, or an error's number. -/
abbrev Ev := Except Int Vl
def inI (n : Int) : Prop := -9223372036854775808 ≤ n ∧ n ≤ 9223372036854775807
instance (n : Int) : Decidable (inI n) := by unfold inI; exact inferInstance
/-- A value that is right. -/
inductive RV : Vl → Prop
  | null : RV vNull
  | bool (b : Bool) : RV (vTru b)
  | num (n : Int) (h : inI n) : RV (vNum n)
  | text (s : List UInt8) (h : s.length ≤ reachBytes) : RV (vTxt s)
  | blob (s : List UInt8) (h : s.length ≤ reachBytes) : RV ⟨4, 0, s⟩

def unP (op : Int) (v : Vl) : Ev :=
  if v.kind = 0 then .ok v
  else if op = 2 then (if v.kind = 1 then .ok (vTru (v.int == 0)) else .error 35)
  else if v.kind = 2 then (if v.int = -9223372036854775808 then .error 40 else .ok (vNum (-v.int)))
  else .error 35
def fitK (k : Int) (v : Vl) : Bool := v.kind == k || v.kind == 0
def logicP (or : Bool) (a b : Vl) : Vl :=
  if eqV a (vTru or) || eqV b (vTru or) then vTru or
  else if a.kind == 0 || b.kind == 0 then vNull
  else vTru (!or)
/-- Two values of one kind. -/
def cmpV (a b : Vl) : Int :=
  if a.kind = 1 ∨ a.kind = 2 then (if a.int < b.int then -1 else if b.int < a.int then 1 else 0)
  else if a.kind = 3 ∨ a.kind = 4 then Lib.compareBytes a.text b.text
  else 0
def holdP (op c : Int) : Bool :=
  if op = 5 then c == 0 else if op = 6 then c != 0 else if op = 7 then decide (c < 0) else if op = 8 then decide (c ≤ 0) else if op = 9 then decide (0 < c) else decide (0 ≤ c)
def numN (n : Int) : Except Int Int := if inI n then .ok n else .error 40
def sumN (op a b : Int) : Except Int Int :=
  if op = 11 then numN (a + b)
  else if op = 12 then numN (a - b)
  else if op = 13 then numN (a * b)
  else if b = 0 then .error 41
  else if op = 15 then .ok (a.tmod b)
  else numN (a.tdiv b)
def sumV (op a b : Int) : Ev := match sumN op a b with
  | .ok n => .ok (vNum n)
  | .error f => .error f
def binP (op : Int) (a b : Vl) : Ev :=
  if op ≤ 4 then (if fitK 1 a && fitK 1 b then .ok (logicP (op == 3) a b) else .error 35)
  else if op ≤ 10 then
    (if a.kind = 0 ∨ b.kind = 0 then .ok vNull
     else if a.kind = b.kind then .ok (vTru (holdP op (cmpV a b))) else .error 35)
  else if op = 16 then
    (if fitK 3 a && fitK 3 b then
      (if a.kind = 0 ∨ b.kind = 0 then .ok vNull
       else if a.text.length + b.text.length ≤ 2048 then .ok (vTxt (a.text ++ b.text)) else .error 8)
     else .error 35)
  else if fitK 2 a && fitK 2 b then (if a.kind = 0 ∨ b.kind = 0 then .ok vNull else sumV op a.int b.int)
  else .error 35
def mapP (from_ to_ : UInt8) (s : List UInt8) : List UInt8 := s.map fun c => if from_.toNat ≤ c.toNat ∧ c.toNat ≤ from_.toNat + 25 then c + (to_ - from_) else c
def cutP (s : List UInt8) (p n : Int) : List UInt8 :=
  if n ≤ 0 ∨ (s.length : Int) < p then []
  else if p < 1 then (if n ≤ 1 - p then [] else s.take (n - (1 - p)).toNat)
  else (s.drop (p - 1).toNat).take n.toNat
/-- Does a function take a value of a kind at a place? -/
def takesP (f : Int) (j : Nat) (k : Int) : Bool := k == 0 || k == (if f = 2 ∨ 0 < j then 2 else 3) || (f == 1 && k == 4)
def takesL (f : Int) : Nat → List Vl → Bool
  | _, [] => true
  | j, v :: r => takesP f j v.kind && takesL f (j + 1) r
def calledV (f : Int) (l : List Vl) : Ev :=
  match f, l with
  | 1, [v] => .ok (vNum v.text.length)
  | 2, [v] => if v.int = -9223372036854775808 then .error 40 else .ok (vNum (if v.int < 0 then -v.int else v.int))
  | 3, [v] => .ok (vTxt (mapP 97 65 v.text))
  | 4, [v] => .ok (vTxt (mapP 65 97 v.text))
  | 5, [a, b, c] => .ok (vTxt (cutP a.text b.int c.int))
  | _, _ => .error 5
def callV (f : Int) (l : List Vl) : Ev := if takesL f 0 l then (if l.any (fun v => v.kind == 0) then .ok vNull else calledV f l) else .error 35
def decP (k o : Int) (v : Vl) : Bool :=
  if k = 4 ∧ o = 4 then eqV v (vTru false) else if k = 4 ∧ o = 3 then eqV v (vTru true) else k == 5 && (o == 6 && v.kind != 0)
inductive EvL where
  | err (f : Int)
  | dec (v : Vl)
  | all (l : List Vl)
def EvL.cons (v : Vl) : EvL → EvL
  | .err f => .err f
  | .dec v => .dec v
  | .all l => .all (v :: l)
/-- What an expression is worth whose operands are. -/
def finP (k o : Int) (l : List Vl) : Ev :=
  match l with
  | [a] => if k = 3 then unP o a else if k = 7 then .ok (vTru ((a.kind == 0) == (o == 0))) else callV o [a]
  | [a, b] => if k = 4 then binP o a b else .ok b
  | l => callV o l
def resL (k o : Int) : EvL → Ev
  | .err f => .error f
  | .dec v => .ok v
  | .all l => finP k o l
/-- The line of an expression; 0: none. -/
def lnG (k o : Int) (n : Nat) : Int :=
  if (k = 1 ∨ k = 2) ∧ n = 0 then 9
  else if k = 5 ∧ 1 ≤ o ∧ o ≤ 6 ∧ n = opn o.toNat then 9
  else if k = 6 ∧ 1 ≤ o ∧ o ≤ 4 ∧ (n = 1 ∨ (n = 0 ∧ o = 1)) then 9
  else if k = 3 ∧ o = 2 ∧ n = 1 then 3
  else if k = 3 ∧ o = 1 ∧ n = 1 then 8
  else if k = 7 ∧ (o = 0 ∨ o = 1) ∧ n = 1 then 4
  else if k = 4 ∧ 3 ≤ o ∧ o ≤ 16 ∧ n = 2 then pairLn o.toNat
  else 0
def colV (row : List Vl) (c : Int) : Ev := if c < 0 then .error 2 else match row[c.toNat]? with
  | some v => .ok v
  | none => .error 2
/-- What is known of an expression. -/
def knownV (known : List (Ex × Vl)) (x : Ex) : Option Vl := (known.find? fun q => sameE q.1 x).map (·.2)
def emptyE (x : Ex) : Bool := lnG x.kind x.op x.args.length == 0 || (x.kind == 2 && x.table == [] && x.name == [])
/-- An expression that is not known, by its operands. -/
def oneE (row : List Vl) (x : Ex) (r : EvL) : Ev :=
  if emptyE x then .error 5
  else if x.kind = 1 then .ok x.v
  else if x.kind = 6 then .error 36
  else if x.kind = 2 then colV row x.col
  else resL x.kind x.op r
section
variable (row : List Vl) (known : List (Ex × Vl))
mutual
def evE : Ex → Ev
  | .mk k o v t n c ty a => match knownV known (.mk k o v t n c ty a) with
    | some u => .ok u
    | none => oneE row (.mk k o v t n c ty a) (evL k o true a)
def evL (k o : Int) (first : Bool) : List Ex → EvL
  | [] => .all []
  | x :: xs => match evE x with
    | .error f => .err f
    | .ok v => if first && decP k o v then .dec v else (evL k o false xs).cons v
end
theorem evE_eq (x : Ex) : evE row known x = match knownV known x with
    | some u => .ok u
    | none => oneE row x (evL row known x.kind x.op true x.args) := by
  cases x; rw [evE]; rfl
end
end Go.Proofs.Ytinflndbfdbnhaa.Exp

/- expr.line at any expression. -/
set_option linter.unusedVariables false
set_option linter.unusedSimpArgs false
namespace Go.Proofs.Ytinflndbfdbnhaa.Exp
open Go.RowKit Go.Proofs.Ytinflndbfdbnhaa.Base Go.Proofs.Ytinflndbfdbnhaa.App Go.Proofs.Ytinflndbfdbnhaa.Byt

set_option maxRecDepth 100000 in
set_option maxHeartbeats 12800000 in
theorem line_1_0 (a2 a3 a7 a8 : Int) (s4 s5 s6 : ByteArray) (A : Option Addr) (c : Nat) (w : World) (o : Int) :
    Calls Try.prog 52 #[.agg #[.int .i64 1, .int .i64 o, .int .i64 a2, .int .i64 a3, .string s4, .string s5, .string s6, .int .i64 a7, .int .i64 a8, .slice A 0 c]] w (LineR 9 w) := by
  go_enter Try.func52, Try.ntmps52
  go_wp2
  go_ret
  exact ⟨rfl, below_alloc (Below.refl _ w) _⟩
set_option maxRecDepth 100000 in
set_option maxHeartbeats 12800000 in
theorem line_1_n (a2 a3 a7 a8 : Int) (s4 s5 s6 : ByteArray) (A : Option Addr) (c : Nat) (w : World) (o : Int) (n : Nat) (h : ¬ (n : Int) = 0) :
    Calls Try.prog 52 #[.agg #[.int .i64 1, .int .i64 o, .int .i64 a2, .int .i64 a3, .string s4, .string s5, .string s6, .int .i64 a7, .int .i64 a8, .slice A n c]] w (LineR 0 w) := by
  go_enter Try.func52, Try.ntmps52
  go_wp2
  go_ret
  exact ⟨rfl, below_alloc (Below.refl _ w) _⟩
set_option maxRecDepth 100000 in
set_option maxHeartbeats 12800000 in
theorem line_2_0 (a2 a3 a7 a8 : Int) (s4 s5 s6 : ByteArray) (A : Option Addr) (c : Nat) (w : World) (o : Int) :
    Calls Try.prog 52 #[.agg #[.int .i64 2, .int .i64 o, .int .i64 a2, .int .i64 a3, .string s4, .string s5, .string s6, .int .i64 a7, .int .i64 a8, .slice A 0 c]] w (LineR 9 w) := by
  go_enter Try.func52, Try.ntmps52
  go_wp2
  go_ret
  exact ⟨rfl, below_alloc (Below.refl _ w) _⟩
set_option maxRecDepth 100000 in
set_option maxHeartbeats 12800000 in
theorem line_2_n (a2 a3 a7 a8 : Int) (s4 s5 s6 : ByteArray) (A : Option Addr) (c : Nat) (w : World) (o : Int) (n : Nat) (h : ¬ (n : Int) = 0) :
    Calls Try.prog 52 #[.agg #[.int .i64 2, .int .i64 o, .int .i64 a2, .int .i64 a3, .string s4, .string s5, .string s6, .int .i64 a7, .int .i64 a8, .slice A n c]] w (LineR 0 w) := by
  go_enter Try.func52, Try.ntmps52
  go_wp2
  go_ret
  exact ⟨rfl, below_alloc (Below.refl _ w) _⟩
set_option maxRecDepth 100000 in
set_option maxHeartbeats 12800000 in
theorem line_3_2_1 (a2 a3 a7 a8 : Int) (s4 s5 s6 : ByteArray) (A : Option Addr) (c : Nat) (w : World)  :
    Calls Try.prog 52 #[.agg #[.int .i64 3, .int .i64 2, .int .i64 a2, .int .i64 a3, .string s4, .string s5, .string s6, .int .i64 a7, .int .i64 a8, .slice A 1 c]] w (LineR 3 w) := by
  go_enter Try.func52, Try.ntmps52
  go_wp2
  go_ret
  exact ⟨rfl, below_alloc (Below.refl _ w) _⟩
set_option maxRecDepth 100000 in
set_option maxHeartbeats 12800000 in
theorem line_3_2_n (a2 a3 a7 a8 : Int) (s4 s5 s6 : ByteArray) (A : Option Addr) (c : Nat) (w : World) (n : Nat) (h : ¬ (n : Int) = 1) :
    Calls Try.prog 52 #[.agg #[.int .i64 3, .int .i64 2, .int .i64 a2, .int .i64 a3, .string s4, .string s5, .string s6, .int .i64 a7, .int .i64 a8, .slice A n c]] w (LineR 0 w) := by
  go_enter Try.func52, Try.ntmps52
  go_wp2
  go_ret
  exact ⟨rfl, below_alloc (Below.refl _ w) _⟩
set_option maxRecDepth 100000 in
set_option maxHeartbeats 12800000 in
theorem line_3_1_1 (a2 a3 a7 a8 : Int) (s4 s5 s6 : ByteArray) (A : Option Addr) (c : Nat) (w : World)  :
    Calls Try.prog 52 #[.agg #[.int .i64 3, .int .i64 1, .int .i64 a2, .int .i64 a3, .string s4, .string s5, .string s6, .int .i64 a7, .int .i64 a8, .slice A 1 c]] w (LineR 8 w) := by
  go_enter Try.func52, Try.ntmps52
  go_wp2
  go_ret
  exact ⟨rfl, below_alloc (Below.refl _ w) _⟩
set_option maxRecDepth 100000 in
set_option maxHeartbeats 12800000 in
theorem line_3_1_n (a2 a3 a7 a8 : Int) (s4 s5 s6 : ByteArray) (A : Option Addr) (c : Nat) (w : World) (n : Nat) (h : ¬ (n : Int) = 1) :
    Calls Try.prog 52 #[.agg #[.int .i64 3, .int .i64 1, .int .i64 a2, .int .i64 a3, .string s4, .string s5, .string s6, .int .i64 a7, .int .i64 a8, .slice A n c]] w (LineR 0 w) := by
  go_enter Try.func52, Try.ntmps52
  go_wp2
  go_ret
  exact ⟨rfl, below_alloc (Below.refl _ w) _⟩
set_option maxRecDepth 100000 in
set_option maxHeartbeats 12800000 in
theorem line_3_o (a2 a3 a7 a8 : Int) (s4 s5 s6 : ByteArray) (A : Option Addr) (c : Nat) (w : World) (o : Int) (n : Nat) (h : ¬ o = 1) (h' : ¬ o = 2) :
    Calls Try.prog 52 #[.agg #[.int .i64 3, .int .i64 o, .int .i64 a2, .int .i64 a3, .string s4, .string s5, .string s6, .int .i64 a7, .int .i64 a8, .slice A n c]] w (LineR 0 w) := by
  go_enter Try.func52, Try.ntmps52
  go_wp2
  go_ret
  exact ⟨rfl, below_alloc (Below.refl _ w) _⟩
set_option maxRecDepth 100000 in
set_option maxHeartbeats 12800000 in
theorem line_7_0_1 (a2 a3 a7 a8 : Int) (s4 s5 s6 : ByteArray) (A : Option Addr) (c : Nat) (w : World)  :
    Calls Try.prog 52 #[.agg #[.int .i64 7, .int .i64 0, .int .i64 a2, .int .i64 a3, .string s4, .string s5, .string s6, .int .i64 a7, .int .i64 a8, .slice A 1 c]] w (LineR 4 w) := by
  go_enter Try.func52, Try.ntmps52
  go_wp2
  go_ret
  exact ⟨rfl, below_alloc (Below.refl _ w) _⟩
set_option maxRecDepth 100000 in
set_option maxHeartbeats 12800000 in
theorem line_7_0_n (a2 a3 a7 a8 : Int) (s4 s5 s6 : ByteArray) (A : Option Addr) (c : Nat) (w : World) (n : Nat) (h : ¬ (n : Int) = 1) :
    Calls Try.prog 52 #[.agg #[.int .i64 7, .int .i64 0, .int .i64 a2, .int .i64 a3, .string s4, .string s5, .string s6, .int .i64 a7, .int .i64 a8, .slice A n c]] w (LineR 0 w) := by
  go_enter Try.func52, Try.ntmps52
  go_wp2
  go_ret
  exact ⟨rfl, below_alloc (Below.refl _ w) _⟩
set_option maxRecDepth 100000 in
set_option maxHeartbeats 12800000 in
theorem line_7_1_1 (a2 a3 a7 a8 : Int) (s4 s5 s6 : ByteArray) (A : Option Addr) (c : Nat) (w : World)  :
    Calls Try.prog 52 #[.agg #[.int .i64 7, .int .i64 1, .int .i64 a2, .int .i64 a3, .string s4, .string s5, .string s6, .int .i64 a7, .int .i64 a8, .slice A 1 c]] w (LineR 4 w) := by
  go_enter Try.func52, Try.ntmps52
  go_wp2
  go_ret
  exact ⟨rfl, below_alloc (Below.refl _ w) _⟩
set_option maxRecDepth 100000 in
set_option maxHeartbeats 12800000 in
theorem line_7_1_n (a2 a3 a7 a8 : Int) (s4 s5 s6 : ByteArray) (A : Option Addr) (c : Nat) (w : World) (n : Nat) (h : ¬ (n : Int) = 1) :
    Calls Try.prog 52 #[.agg #[.int .i64 7, .int .i64 1, .int .i64 a2, .int .i64 a3, .string s4, .string s5, .string s6, .int .i64 a7, .int .i64 a8, .slice A n c]] w (LineR 0 w) := by
  go_enter Try.func52, Try.ntmps52
  go_wp2
  go_ret
  exact ⟨rfl, below_alloc (Below.refl _ w) _⟩
set_option maxRecDepth 100000 in
set_option maxHeartbeats 12800000 in
theorem line_7_o (a2 a3 a7 a8 : Int) (s4 s5 s6 : ByteArray) (A : Option Addr) (c : Nat) (w : World) (o : Int) (n : Nat) (h : ¬ o = 0) (h' : ¬ o = 1) :
    Calls Try.prog 52 #[.agg #[.int .i64 7, .int .i64 o, .int .i64 a2, .int .i64 a3, .string s4, .string s5, .string s6, .int .i64 a7, .int .i64 a8, .slice A n c]] w (LineR 0 w) := by
  go_enter Try.func52, Try.ntmps52
  go_wp2
  go_ret
  exact ⟨rfl, below_alloc (Below.refl _ w) _⟩
set_option maxRecDepth 100000 in
set_option maxHeartbeats 12800000 in
theorem line_6_lo (a2 a3 a7 a8 : Int) (s4 s5 s6 : ByteArray) (A : Option Addr) (c : Nat) (w : World) (o : Int) (n : Nat) (h : ¬ 1 ≤ o) :
    Calls Try.prog 52 #[.agg #[.int .i64 6, .int .i64 o, .int .i64 a2, .int .i64 a3, .string s4, .string s5, .string s6, .int .i64 a7, .int .i64 a8, .slice A n c]] w (LineR 0 w) := by
  go_enter Try.func52, Try.ntmps52
  go_wp2
  go_ret
  exact ⟨rfl, below_alloc (Below.refl _ w) _⟩
set_option maxRecDepth 100000 in
set_option maxHeartbeats 12800000 in
theorem line_6_hi (a2 a3 a7 a8 : Int) (s4 s5 s6 : ByteArray) (A : Option Addr) (c : Nat) (w : World) (o : Int) (n : Nat) (h : ¬ o ≤ 4) :
    Calls Try.prog 52 #[.agg #[.int .i64 6, .int .i64 o, .int .i64 a2, .int .i64 a3, .string s4, .string s5, .string s6, .int .i64 a7, .int .i64 a8, .slice A n c]] w (LineR 0 w) := by
  have h1 : 1 ≤ o := by omega
  go_enter Try.func52, Try.ntmps52
  go_wp2
  go_ret
  exact ⟨rfl, below_alloc (Below.refl _ w) _⟩
set_option maxRecDepth 100000 in
set_option maxHeartbeats 12800000 in
theorem line_6_1 (a2 a3 a7 a8 : Int) (s4 s5 s6 : ByteArray) (A : Option Addr) (c : Nat) (w : World) (o : Int) (h : 1 ≤ o) (h' : o ≤ 4) :
    Calls Try.prog 52 #[.agg #[.int .i64 6, .int .i64 o, .int .i64 a2, .int .i64 a3, .string s4, .string s5, .string s6, .int .i64 a7, .int .i64 a8, .slice A 1 c]] w (LineR 9 w) := by
  go_enter Try.func52, Try.ntmps52
  go_wp2
  go_ret
  exact ⟨rfl, below_alloc (Below.refl _ w) _⟩
set_option maxRecDepth 100000 in
set_option maxHeartbeats 12800000 in
theorem line_6_1_0 (a2 a3 a7 a8 : Int) (s4 s5 s6 : ByteArray) (A : Option Addr) (c : Nat) (w : World)  :
    Calls Try.prog 52 #[.agg #[.int .i64 6, .int .i64 1, .int .i64 a2, .int .i64 a3, .string s4, .string s5, .string s6, .int .i64 a7, .int .i64 a8, .slice A 0 c]] w (LineR 9 w) := by
  go_enter Try.func52, Try.ntmps52
  go_wp2
  go_ret
  exact ⟨rfl, below_alloc (Below.refl _ w) _⟩
set_option maxRecDepth 100000 in
set_option maxHeartbeats 12800000 in
theorem line_6_0 (a2 a3 a7 a8 : Int) (s4 s5 s6 : ByteArray) (A : Option Addr) (c : Nat) (w : World) (o : Int) (h : 1 ≤ o) (h' : o ≤ 4) (h1 : ¬ o = 1) :
    Calls Try.prog 52 #[.agg #[.int .i64 6, .int .i64 o, .int .i64 a2, .int .i64 a3, .string s4, .string s5, .string s6, .int .i64 a7, .int .i64 a8, .slice A 0 c]] w (LineR 0 w) := by
  go_enter Try.func52, Try.ntmps52
  go_wp2
  go_ret
  exact ⟨rfl, below_alloc (Below.refl _ w) _⟩
set_option maxRecDepth 100000 in
set_option maxHeartbeats 12800000 in
theorem line_6_n (a2 a3 a7 a8 : Int) (s4 s5 s6 : ByteArray) (A : Option Addr) (c : Nat) (w : World) (o : Int) (n : Nat) (h : 1 ≤ o) (h' : o ≤ 4) (h1 : ¬ (n : Int) = 1) (h0 : ¬ (n : Int) = 0) :
    Calls Try.prog 52 #[.agg #[.int .i64 6, .int .i64 o, .int .i64 a2, .int .i64 a3, .string s4, .string s5, .string s6, .int .i64 a7, .int .i64 a8, .slice A n c]] w (LineR 0 w) := by
  go_enter Try.func52, Try.ntmps52
  go_wp2
  go_ret
  exact ⟨rfl, below_alloc (Below.refl _ w) _⟩
set_option maxRecDepth 100000 in
set_option maxHeartbeats 12800000 in
theorem line_5_lo (a2 a3 a7 a8 : Int) (s4 s5 s6 : ByteArray) (A : Option Addr) (c : Nat) (w : World) (o : Int) (n : Nat) (h : ¬ 1 ≤ o) :
    Calls Try.prog 52 #[.agg #[.int .i64 5, .int .i64 o, .int .i64 a2, .int .i64 a3, .string s4, .string s5, .string s6, .int .i64 a7, .int .i64 a8, .slice A n c]] w (LineR 0 w) := by
  go_enter Try.func52, Try.ntmps52
  go_wp2
  go_ret
  exact ⟨rfl, below_alloc (Below.refl _ w) _⟩
set_option maxRecDepth 100000 in
set_option maxHeartbeats 12800000 in
theorem line_5_hi (a2 a3 a7 a8 : Int) (s4 s5 s6 : ByteArray) (A : Option Addr) (c : Nat) (w : World) (o : Int) (n : Nat) (h : ¬ o ≤ 6) :
    Calls Try.prog 52 #[.agg #[.int .i64 5, .int .i64 o, .int .i64 a2, .int .i64 a3, .string s4, .string s5, .string s6, .int .i64 a7, .int .i64 a8, .slice A n c]] w (LineR 0 w) := by
  have h1 : 1 ≤ o := by omega
  go_enter Try.func52, Try.ntmps52
  go_wp2
  go_ret
  exact ⟨rfl, below_alloc (Below.refl _ w) _⟩
set_option maxRecDepth 100000 in
set_option maxHeartbeats 12800000 in
theorem line_5_yes (a2 a3 a7 a8 : Int) (s4 s5 s6 : ByteArray) (A : Option Addr) (c : Nat) (w : World) (k n : Nat) (h : 1 ≤ k) (h' : k ≤ 6) (hn : n = opn k) :
    Calls Try.prog 52 #[.agg #[.int .i64 5, .int .i64 (k : Nat), .int .i64 a2, .int .i64 a3, .string s4, .string s5, .string s6, .int .i64 a7, .int .i64 a8, .slice A n c]] w (LineR 9 w) := by
  have h1 : (1 : Int) ≤ (k : Int) := by omega
  have h2 : (k : Int) ≤ 6 := by omega
  have HO := Asd.mk (operands_calls k)
  clear h h'
  subst hn
  generalize opn k = m at *
  go_enter Try.func52, Try.ntmps52
  go_wp2_with fail
  refine (HO.out _).mono ?_
  rintro e w2 ⟨rfl, rfl⟩
  go_wp2
  go_ret
  exact ⟨rfl, below_alloc (Below.refl _ w) _⟩
set_option maxRecDepth 100000 in
set_option maxHeartbeats 12800000 in
theorem line_5_no (a2 a3 a7 a8 : Int) (s4 s5 s6 : ByteArray) (A : Option Addr) (c : Nat) (w : World) (k n : Nat) (h : 1 ≤ k) (h' : k ≤ 6) (hn : ¬ (n : Int) = (opn k : Int)) :
    Calls Try.prog 52 #[.agg #[.int .i64 5, .int .i64 (k : Nat), .int .i64 a2, .int .i64 a3, .string s4, .string s5, .string s6, .int .i64 a7, .int .i64 a8, .slice A n c]] w (LineR 0 w) := by
  have h1 : (1 : Int) ≤ (k : Int) := by omega
  have h2 : (k : Int) ≤ 6 := by omega
  have HO := Asd.mk (operands_calls k)
  clear h h'
  generalize opn k = m at *
  go_enter Try.func52, Try.ntmps52
  go_wp2_with fail
  refine (HO.out _).mono ?_
  rintro e w2 ⟨rfl, rfl⟩
  go_wp2
  go_ret
  exact ⟨rfl, below_alloc (Below.refl _ w) _⟩
set_option maxRecDepth 100000 in
set_option maxHeartbeats 12800000 in
theorem line_4_lo (a2 a3 a7 a8 : Int) (s4 s5 s6 : ByteArray) (A : Option Addr) (c : Nat) (w : World) (o : Int) (n : Nat) (h : ¬ 3 ≤ o) :
    Calls Try.prog 52 #[.agg #[.int .i64 4, .int .i64 o, .int .i64 a2, .int .i64 a3, .string s4, .string s5, .string s6, .int .i64 a7, .int .i64 a8, .slice A n c]] w (LineR 0 w) := by
  go_enter Try.func52, Try.ntmps52
  go_wp2
  go_ret
  exact ⟨rfl, below_alloc (Below.refl _ w) _⟩
set_option maxRecDepth 100000 in
set_option maxHeartbeats 12800000 in
theorem line_4_hi (a2 a3 a7 a8 : Int) (s4 s5 s6 : ByteArray) (A : Option Addr) (c : Nat) (w : World) (o : Int) (n : Nat) (h : ¬ o ≤ 16) :
    Calls Try.prog 52 #[.agg #[.int .i64 4, .int .i64 o, .int .i64 a2, .int .i64 a3, .string s4, .string s5, .string s6, .int .i64 a7, .int .i64 a8, .slice A n c]] w (LineR 0 w) := by
  have h1 : 3 ≤ o := by omega
  go_enter Try.func52, Try.ntmps52
  go_wp2
  go_ret
  exact ⟨rfl, below_alloc (Below.refl _ w) _⟩
set_option maxRecDepth 100000 in
set_option maxHeartbeats 12800000 in
theorem line_4_n (a2 a3 a7 a8 : Int) (s4 s5 s6 : ByteArray) (A : Option Addr) (c : Nat) (w : World) (o : Int) (n : Nat) (h : 3 ≤ o) (h' : o ≤ 16) (hn : ¬ (n : Int) = 2) :
    Calls Try.prog 52 #[.agg #[.int .i64 4, .int .i64 o, .int .i64 a2, .int .i64 a3, .string s4, .string s5, .string s6, .int .i64 a7, .int .i64 a8, .slice A n c]] w (LineR 0 w) := by
  go_enter Try.func52, Try.ntmps52
  go_wp2
  go_ret
  exact ⟨rfl, below_alloc (Below.refl _ w) _⟩
set_option maxRecDepth 100000 in
set_option maxHeartbeats 12800000 in
theorem line_4_2 (a2 a3 a7 a8 : Int) (s4 s5 s6 : ByteArray) (A : Option Addr) (c : Nat) (w : World) (k : Nat) (h : 3 ≤ k) (h' : k ≤ 16) :
    Calls Try.prog 52 #[.agg #[.int .i64 4, .int .i64 (k : Nat), .int .i64 a2, .int .i64 a3, .string s4, .string s5, .string s6, .int .i64 a7, .int .i64 a8, .slice A 2 c]] w (LineR (pairLn k) w) := by
  have hix := line_index k h h'
  have h1 : (3 : Int) ≤ (k : Int) := by omega
  have h2 : (k : Int) ≤ 16 := by omega
  clear h h'
  go_enter Try.func52, Try.ntmps52
  go_wp2
  go_ret
  exact ⟨rfl, below_alloc (Below.refl _ w) _⟩
set_option maxRecDepth 100000 in
set_option maxHeartbeats 12800000 in
theorem line_k (a2 a3 a7 a8 : Int) (s4 s5 s6 : ByteArray) (A : Option Addr) (c : Nat) (w : World) (k o : Int) (n : Nat) (h1 : ¬ k = 1) (h2 : ¬ k = 2) (h3 : ¬ k = 3) (h4 : ¬ k = 4) (h5 : ¬ k = 5) (h6 : ¬ k = 6) (h7 : ¬ k = 7) :
    Calls Try.prog 52 #[.agg #[.int .i64 k, .int .i64 o, .int .i64 a2, .int .i64 a3, .string s4, .string s5, .string s6, .int .i64 a7, .int .i64 a8, .slice A n c]] w (LineR 0 w) := by
  go_enter Try.func52, Try.ntmps52
  go_wp2
  go_ret
  exact ⟨rfl, below_alloc (Below.refl _ w) _⟩
theorem line_any (a2 a3 a7 a8 : Int) (s4 s5 s6 : ByteArray) (A : Option Addr) (c : Nat) (w : World) (k o : Int) (n : Nat) :
    Calls Try.prog 52 #[.agg #[.int .i64 k, .int .i64 o, .int .i64 a2, .int .i64 a3, .string s4, .string s5, .string s6, .int .i64 a7, .int .i64 a8, .slice A n c]] w (LineR (lnG k o n) w) := by
  have cast : ∀ m : Nat, ¬ n = m → ¬ (n : Int) = (m : Int) := fun m h h' => h (by omega)
  by_cases h1 : k = 1
  · subst h1
    by_cases hn : n = 0
    · subst hn; rw [show lnG 1 o 0 = 9 by simp [lnG]]; exact line_1_0 a2 a3 a7 a8 s4 s5 s6 A c w o
    · rw [show lnG 1 o n = 0 by simp [lnG, hn]]; exact line_1_n a2 a3 a7 a8 s4 s5 s6 A c w o n (cast 0 hn)
  by_cases h2 : k = 2
  · subst h2
    by_cases hn : n = 0
    · subst hn; rw [show lnG 2 o 0 = 9 by simp [lnG]]; exact line_2_0 a2 a3 a7 a8 s4 s5 s6 A c w o
    · rw [show lnG 2 o n = 0 by simp [lnG, hn]]; exact line_2_n a2 a3 a7 a8 s4 s5 s6 A c w o n (cast 0 hn)
  by_cases h3 : k = 3
  · subst h3
    by_cases o1 : o = 1
    · subst o1
      by_cases hn : n = 1
      · subst hn; rw [show lnG 3 1 1 = 8 by simp [lnG]]; exact line_3_1_1 a2 a3 a7 a8 s4 s5 s6 A c w
      · rw [show lnG 3 1 n = 0 by simp [lnG, hn]]; exact line_3_1_n a2 a3 a7 a8 s4 s5 s6 A c w n (cast 1 hn)
    by_cases o2 : o = 2
    · subst o2
      by_cases hn : n = 1
      · subst hn; rw [show lnG 3 2 1 = 3 by simp [lnG]]; exact line_3_2_1 a2 a3 a7 a8 s4 s5 s6 A c w
      · rw [show lnG 3 2 n = 0 by simp [lnG, hn]]; exact line_3_2_n a2 a3 a7 a8 s4 s5 s6 A c w n (cast 1 hn)
    rw [show lnG 3 o n = 0 by simp [lnG, o1, o2]]; exact line_3_o a2 a3 a7 a8 s4 s5 s6 A c w o n o1 o2
  by_cases h7 : k = 7
  · subst h7
    by_cases o0 : o = 0
    · subst o0
      by_cases hn : n = 1
      · subst hn; rw [show lnG 7 0 1 = 4 by simp [lnG]]; exact line_7_0_1 a2 a3 a7 a8 s4 s5 s6 A c w
      · rw [show lnG 7 0 n = 0 by simp [lnG, hn]]; exact line_7_0_n a2 a3 a7 a8 s4 s5 s6 A c w n (cast 1 hn)
    by_cases o1 : o = 1
    · subst o1
      by_cases hn : n = 1
      · subst hn; rw [show lnG 7 1 1 = 4 by simp [lnG]]; exact line_7_1_1 a2 a3 a7 a8 s4 s5 s6 A c w
      · rw [show lnG 7 1 n = 0 by simp [lnG, hn]]; exact line_7_1_n a2 a3 a7 a8 s4 s5 s6 A c w n (cast 1 hn)
    rw [show lnG 7 o n = 0 by simp [lnG, o0, o1]]; exact line_7_o a2 a3 a7 a8 s4 s5 s6 A c w o n o0 o1
  by_cases h6 : k = 6
  · subst h6
    by_cases ol : 1 ≤ o
    · by_cases oh : o ≤ 4
      · by_cases hn : n = 1
        · subst hn; rw [show lnG 6 o 1 = 9 by simp [lnG, ol, oh]]; exact line_6_1 a2 a3 a7 a8 s4 s5 s6 A c w o ol oh
        by_cases hn0 : n = 0
        · subst hn0
          by_cases o1 : o = 1
          · subst o1; rw [show lnG 6 1 0 = 9 by simp [lnG]]; exact line_6_1_0 a2 a3 a7 a8 s4 s5 s6 A c w
          · rw [show lnG 6 o 0 = 0 by simp [lnG, ol, oh, o1]]; exact line_6_0 a2 a3 a7 a8 s4 s5 s6 A c w o ol oh o1
        · rw [show lnG 6 o n = 0 by simp [lnG, ol, oh, hn, hn0]]; exact line_6_n a2 a3 a7 a8 s4 s5 s6 A c w o n ol oh (cast 1 hn) (cast 0 hn0)
      · rw [show lnG 6 o n = 0 by simp [lnG, oh]]; exact line_6_hi a2 a3 a7 a8 s4 s5 s6 A c w o n oh
    · rw [show lnG 6 o n = 0 by simp [lnG, ol]]; exact line_6_lo a2 a3 a7 a8 s4 s5 s6 A c w o n ol
  by_cases h5 : k = 5
  · subst h5
    by_cases ol : 1 ≤ o
    · by_cases oh : o ≤ 6
      · obtain ⟨p, rfl⟩ := Int.eq_ofNat_of_zero_le (show 0 ≤ o by omega)
        by_cases hn : n = opn p
        · rw [show lnG 5 (p : Int) n = 9 by simp [lnG, ol, oh, hn]]; exact line_5_yes a2 a3 a7 a8 s4 s5 s6 A c w p n (by omega) (by omega) hn
        · rw [show lnG 5 (p : Int) n = 0 by simp [lnG, ol, oh, hn]]; exact line_5_no a2 a3 a7 a8 s4 s5 s6 A c w p n (by omega) (by omega) (cast _ hn)
      · rw [show lnG 5 o n = 0 by simp [lnG, oh]]; exact line_5_hi a2 a3 a7 a8 s4 s5 s6 A c w o n oh
    · rw [show lnG 5 o n = 0 by simp [lnG, ol]]; exact line_5_lo a2 a3 a7 a8 s4 s5 s6 A c w o n ol
  by_cases h4 : k = 4
  · subst h4
    by_cases ol : 3 ≤ o
    · by_cases oh : o ≤ 16
      · obtain ⟨p, rfl⟩ := Int.eq_ofNat_of_zero_le (show 0 ≤ o by omega)
        by_cases hn : n = 2
        · subst hn; rw [show lnG 4 (p : Int) 2 = pairLn p by simp [lnG, ol, oh]]; exact line_4_2 a2 a3 a7 a8 s4 s5 s6 A c w p (by omega) (by omega)
        · rw [show lnG 4 (p : Int) n = 0 by simp [lnG, ol, oh, hn]]; exact line_4_n a2 a3 a7 a8 s4 s5 s6 A c w p n ol oh (cast 2 hn)
      · rw [show lnG 4 o n = 0 by simp [lnG, oh]]; exact line_4_hi a2 a3 a7 a8 s4 s5 s6 A c w o n oh
    · rw [show lnG 4 o n = 0 by simp [lnG, ol]]; exact line_4_lo a2 a3 a7 a8 s4 s5 s6 A c w o n ol
  rw [show lnG k o n = 0 by simp [lnG, h1, h2, h3, h4, h5, h6, h7]]
  exact line_k a2 a3 a7 a8 s4 s5 s6 A c w k o n h1 h2 h3 h4 h5 h6 h7
end Go.Proofs.Ytinflndbfdbnhaa.Exp

/- calc: its small functions. -/
set_option linter.unusedVariables false
set_option linter.unusedSimpArgs false
namespace Go.Proofs.Ytinflndbfdbnhaa.Exp
open Go.RowKit Go.Proofs.Ytinflndbfdbnhaa.Base Go.Proofs.Ytinflndbfdbnhaa.App Go.Proofs.Ytinflndbfdbnhaa.Byt

def vC (v : Vl) : Value := .agg #[.int .i64 v.kind, .int .i64 v.int, .string ⟨v.text.toArray⟩]
/-- A value's cells. -/
abbrev vK (v : Vl) : Obj := .cells #[.int .i64 v.kind, .int .i64 v.int, .string ⟨v.text.toArray⟩] 23 (0, 0)
/-- An error is thrown. -/
abbrev errP (n : Int) : Ending := .panicked [{ v := .iface 35 (.int .i64 n), recovered := false }]
/-- How a sum ends: a value, or an error that is thrown. -/
def EvR (r : Ev) (w : World) (e : Ending) (w' : World) : Prop := Below w.heap.size w w' ∧ match r with
  | .ok v => e = .returned (vC v)
  | .error n => e = errP n
/-- How what catches ends: a value and an error's number. -/
def Ev2 (r : Ev) (w : World) (e : Ending) (w' : World) : Prop := Below w.heap.size w w' ∧ e = match r with
  | .ok v => .returned (.tuple #[vC v, .int .i64 0])
  | .error n => .returned (.tuple #[vC vNull, .int .i64 n])

theorem check_ok (n : Int) (w : World) : Calls Try.prog 56 #[.bool true, .int .i64 n] w fun e w' => e = .returned (.tuple #[]) ∧ w' = w := by
  go_enter Try.func56, Try.ntmps56
  go_wp2
  first | refine bodyPost_ret (results_none rfl _ _ _) rfl ?_ | refine bodyPost_end (results_none rfl _ _ _) rfl ?_
  exact ⟨rfl, rfl⟩
theorem check_no (n : Int) (w : World) : Calls Try.prog 56 #[.bool false, .int .i64 n] w fun e w' => e = errP n ∧ w' = w := by
  go_enter Try.func56, Try.ntmps56
  go_wp2
  exact ⟨rfl, rfl, rfl⟩
/-- Ends a function whose one result is a value in a cell. -/
theorem val_ret {F : Func} {p : Tmp} {Q : Ending → World → Prop} {a : Act} {w : World} (hr : F.results = #[.cell p 23]) (g : Nat) (c0 c1 c2 : Value)
    (hp : a.tmps.getD p undef = .pointer (some ⟨g, 0, none⟩)) (hg : w.heap[g]? = some (.cells #[c0, c1, c2] 23 (0, 0))) (hd : a.defers = []) (h : Q (.returned (.agg #[c0, c1, c2])) w) : bodyPost Try.prog F Q .ret a w :=
  bodyPost_ret (results_cell_row hr _ _ g 23 #[c0, c1, c2] (0, 0) _ hp hg Try.underlying23 rfl (by kernel_rfl)) hd h
theorem load_val {w : World} {g : Nat} {c0 c1 c2 : Value} (hg : w.heap[g]? = some (.cells #[c0, c1, c2] 23 (0, 0))) : (loadVar 23 ⟨g, 0, none⟩).run Try.prog w = .ok (.agg #[c0, c1, c2]) w :=
  run_loadVar_row w g 23 23 #[c0, c1, c2] (0, 0) _ hg Try.underlying23 rfl (by kernel_rfl)
theorem results_val {fn : Func} {p u : Tmp} (h : fn.results = #[.cell p 23, .tmp u]) (tmps : Array Value) (w : World) (g : Nat) (c0 c1 c2 : Value)
    (hp : tmps.getD p undef = .pointer (some ⟨g, 0, none⟩)) (hg : w.heap[g]? = some (.cells #[c0, c1, c2] 23 (0, 0))) :
    (results fn tmps).run Try.prog w = .ok (.tuple #[.agg #[c0, c1, c2], tmps.getD u undef]) w := by
  rw [results_cell_tmp h, hp]
  simp [asAddr, load_val hg, Result.andThen]
/-- Ends a function that answers a value in a cell and a number in a slot. -/
theorem val_ret2 {F : Func} {p u : Tmp} {Q : Ending → World → Prop} {a : Act} {w : World} (hr : F.results = #[.cell p 23, .tmp u]) (g : Nat) (c0 c1 c2 : Value)
    (hp : a.tmps.getD p undef = .pointer (some ⟨g, 0, none⟩)) (hg : w.heap[g]? = some (.cells #[c0, c1, c2] 23 (0, 0))) (hd : a.defers = []) (h : Q (.returned (.tuple #[.agg #[c0, c1, c2], a.tmps.getD u undef])) w) : bodyPost Try.prog F Q .ret a w :=
  bodyPost_ret (results_val hr _ _ g c0 c1 c2 hp hg) hd h
set_option maxRecDepth 100000 in
theorem truth_calls (b : Bool) (w : World) : Calls Try.prog 57 #[.bool b] w fun e w' => e = .returned (vC (vTru b)) ∧ Below w.heap.size w w' := by
  cases b
  · go_enter Try.func57, Try.ntmps57
    go_wp2
    refine val_ret rfl w.heap.size _ _ _ rfl (blk_alloc (blk_new w _) _) rfl ?_
    exact ⟨rfl, below_alloc (below_alloc (Below.refl _ _) _) _⟩
  · go_enter Try.func57, Try.ntmps57
    go_wp2
    refine val_ret rfl w.heap.size _ _ _ rfl (blk_alloc (blk_new w _) _) rfl ?_
    exact ⟨rfl, below_alloc (below_alloc (Below.refl _ _) _) _⟩
set_option maxRecDepth 100000 in
theorem etruth_calls (b : Bool) (w : World) : Calls Try.prog 25 #[.bool b] w fun e w' => e = .returned (vC (vTru b)) ∧ Below w.heap.size w w' := by
  cases b
  · go_enter Try.func25, Try.ntmps25
    go_wp2
    refine val_ret rfl w.heap.size _ _ _ rfl (blk_alloc (blk_new w _) _) rfl ?_
    exact ⟨rfl, below_alloc (below_alloc (Below.refl _ _) _) _⟩
  · go_enter Try.func25, Try.ntmps25
    go_wp2
    refine val_ret rfl w.heap.size _ _ _ rfl (blk_alloc (blk_new w _) _) rfl ?_
    exact ⟨rfl, below_alloc (below_alloc (Below.refl _ _) _) _⟩
theorem number_calls (n : Int) (w : World) : Calls Try.prog 58 #[.int .i64 n] w fun e w' => e = .returned (vC (vNum n)) ∧ Below w.heap.size w w' := by
  go_enter Try.func58, Try.ntmps58
  go_wp2
  refine val_ret rfl w.heap.size _ _ _ rfl (blk_new w _) rfl ?_
  exact ⟨rfl, below_alloc (Below.refl _ _) _⟩
theorem text_calls (s : List UInt8) (w : World) : Calls Try.prog 64 #[.string ⟨s.toArray⟩] w fun e w' => e = .returned (vC (vTxt s)) ∧ Below w.heap.size w w' := by
  go_enter Try.func64, Try.ntmps64
  go_wp2
  refine val_ret rfl w.heap.size _ _ _ rfl (blk_new w _) rfl ?_
  exact ⟨rfl, below_alloc (Below.refl _ _) _⟩
end Go.Proofs.Ytinflndbfdbnhaa.Exp

/- calc.caught: what a sum answers, or what it throws. -/
set_option linter.unusedVariables false
set_option linter.unusedSimpArgs false
namespace Go.Proofs.Ytinflndbfdbnhaa.Exp
open Go.RowKit Go.Proofs.Ytinflndbfdbnhaa.Base Go.Proofs.Ytinflndbfdbnhaa.App Go.Proofs.Ytinflndbfdbnhaa.Byt

theorem as_errno (n : Int) (w : World) : (Instr.typeAssert (.iface 35 (.int .i64 n)) 20 35 true).run Try.prog w = .ok (.tuple #[.int .i64 n, .bool true]) w := by
  kernel_rfl
theorem put3_blk {W : World} {b : Nat} {T : TypeId} {fr : Nat × Nat} {c0 c1 c2 : Value} (h : W.heap[b]? = some (.cells #[c0, c1, c2] T fr)) (v0 v1 v2 : Value) : (((W.setCell ⟨b, 0, none⟩ v0).setCell ⟨b, 1, none⟩ v1).setCell ⟨b, 2, none⟩ v2).heap[b]? = some (.cells #[v0, v1, v2] T fr) := by
  have := setCells_heap [v0, v1, v2] 0 h
  have e : putCells #[c0, c1, c2] 0 [v0, v1, v2] = #[v0, v1, v2] := by simp [putCells]
  rw [e] at this
  exact this
theorem put3_fr {W : World} {b : Nat} {S : Nat → Prop} (hb : S b) (v0 v1 v2 : Value) : Fr S W (((W.setCell ⟨b, 0, none⟩ v0).setCell ⟨b, 1, none⟩ v1).setCell ⟨b, 2, none⟩ v2) :=
  Fr.setCell (p := ⟨b, 2, none⟩) (Fr.setCell (p := ⟨b, 1, none⟩) (Fr.setCell (p := ⟨b, 0, none⟩) (Fr.refl S W) hb v0) hb v1) hb v2
set_option maxRecDepth 100000 in
set_option maxHeartbeats 1600000 in
/-- The deferred closure of caught where a sum throws an error: it is caught. -/
theorem catch_errno (p q : Nat) (n : Int) (v0 v1 v2 u0 : Value) (w : World) (hp : w.heap[p]? = some (.cells #[v0, v1, v2] 23 (0, 0))) (hq : w.heap[q]? = some (.cells #[u0] 35 (0, 0))) (hpq : p ≠ q) :
    CallsD Try.prog 106 #[.pointer (some ⟨p, 0, none⟩), .pointer (some ⟨q, 0, none⟩)] (.panicking ({ v := .iface 35 (.int .i64 n), recovered := false } :: [])) w fun e u' w' =>
      e = .returned (.tuple #[]) ∧ u' = .panicking ({ v := .iface 35 (.int .i64 n), recovered := true } :: []) ∧ Fr (fun k => k = p ∨ k = q) w w' ∧ w'.heap[p]? = some (.cells #[.int .i64 0, .int .i64 0, .string ⟨#[]⟩] 23 (0, 0)) ∧ w'.heap[q]? = some (.cells #[.int .i64 n] 35 (0, 0)) := by
  have p0 := (blk_cell hp 0).trans rfl
  have p1 := (blk_cell hp 1).trans rfl
  have p2 := (blk_cell hp 2).trans rfl
  have z0 := blk_frozen hp 0
  have z1 := blk_frozen hp 1
  have z2 := blk_frozen hp 2
  have q0 := (blk_cell hq 0).trans rfl
  have f0 := blk_frozen hq 0
  have HP := Asd.mk hp
  have HQ := Asd.mk hq
  clear hp hq
  refine callsD_of_wpS Try.func106 rfl fun c₀ cs hu => ?_
  apply wpS_seq
  apply wpS_region
  simp [wpOpsS, go_sem, recoverD, hu, Try.ntmps106, Exit.thenS]
  refine wpS_of_wp ?_
  simp only [Array.replicate_succ, Array.replicate_zero, List.push_toArray, List.append_toArray, List.nil_append, List.cons_append, List.setIfInBounds_toArray, List.set_cons_zero, List.set_cons_succ]
  have hta := as_errno n
  go_wp2
  have k1 := put3_blk HP.out (.int .i64 0) (.int .i64 0) (.string ⟨#[]⟩)
  have k2 := blk_far k1 (p := ⟨q, 0, none⟩) hpq (.int .i64 n)
  have hpf := put3_fr (W := w) (b := p) (S := fun k => k = p) rfl (.int .i64 0) (.int .i64 0) (.string ⟨#[]⟩)
  have j1 := blk_set (blk_fr HQ.out hpf (by show ¬ q = p; exact Ne.symm hpq)) 0 (.int .i64 n)
  have hfr : Fr (fun k => k = p ∨ k = q) w _ := Fr.setCell (S := fun k => k = p ∨ k = q) (hpf.mono (fun k hk _ => .inl hk)) (p := ⟨q, 0, none⟩) (.inr rfl) (.int .i64 n)
  simp only [bodyPostS]
  exact ⟨trivial, _, rfl, _, results_none rfl _ _ _, rfl, rfl, hfr, k2, by simpa using j1⟩
set_option maxRecDepth 100000 in
set_option maxHeartbeats 1600000 in
/-- The deferred closure of caught where the sum returns: nothing. -/
theorem catch_nothing (p q : Nat) (w : World) :
    CallsD Try.prog 106 #[.pointer (some ⟨p, 0, none⟩), .pointer (some ⟨q, 0, none⟩)] .returning w fun e u' w' => e = .returned (.tuple #[]) ∧ u' = .returning ∧ w' = w := by
  refine callsD_of_wpS Try.func106 rfl fun c₀ cs hu => ?_
  apply wpS_seq
  apply wpS_region
  simp [wpOpsS, go_sem, recoverD, hu, Try.ntmps106, Exit.thenS]
  refine wpS_of_wp ?_
  simp only [Array.replicate_succ, Array.replicate_zero, List.push_toArray, List.append_toArray, List.nil_append, List.cons_append, List.setIfInBounds_toArray, List.set_cons_zero, List.set_cons_succ]
  go_wp2
  simp only [bodyPostS]
  refine ⟨trivial, .returning, ?_, _, results_none rfl _ _ _, rfl, rfl, trivial⟩
  cases c₀
  simp_all

set_option maxRecDepth 100000 in
set_option maxHeartbeats 6400000 in
theorem caught_calls (F : FuncId) (cap : Array Value) (r : Ev) (w : World) (hgo : IsGo F) (h : ∀ W, Below w.heap.size w W → Calls Try.prog F cap W (EvR r W)) :
    Calls Try.prog 54 #[.func (.func F) #[] cap] w (Ev2 r w) := by
  have hmf := mk_func
  have hcf := hgo
  have HC := Asd.mk h
  have HB : Asd (Below w.heap.size w ((w.alloc (.cells #[.int .i64 0, .int .i64 0, .string ⟨#[]⟩] 23 (0, 0))).alloc (.cells #[.int .i64 0] 35 (0, 0)))) := Asd.mk (below_alloc (below_alloc (Below.refl _ _) _) _)
  have HP : Asd (((w.alloc (.cells #[.int .i64 0, .int .i64 0, .string ⟨#[]⟩] 23 (0, 0))).alloc (.cells #[.int .i64 0] 35 (0, 0))).heap[w.heap.size]? = some (.cells #[.int .i64 0, .int .i64 0, .string ⟨#[]⟩] 23 (0, 0))) := Asd.mk (blk_alloc (blk_new w _) _)
  have HQ : Asd (((w.alloc (.cells #[.int .i64 0, .int .i64 0, .string ⟨#[]⟩] 23 (0, 0))).alloc (.cells #[.int .i64 0] 35 (0, 0))).heap[w.heap.size + 1]? = some (.cells #[.int .i64 0] 35 (0, 0))) := Asd.mk (nb1 w _ _)
  have HSZ : Asd (((w.alloc (.cells #[.int .i64 0, .int .i64 0, .string ⟨#[]⟩] 23 (0, 0))).alloc (.cells #[.int .i64 0] 35 (0, 0))).heap.size = w.heap.size + 1 + 1) := Asd.mk (by simp)
  clear h hgo
  unfold IsGo at hcf
  go_enter_defers Try.func54, Try.ntmps54
  go_wp2_with fail
  generalize ((w.alloc (.cells #[.int .i64 0, .int .i64 0, .string ⟨#[]⟩] 23 (0, 0))).alloc (.cells #[.int .i64 0] 35 (0, 0))) = w0 at HB HP HQ HSZ ⊢
  refine (HC.out _ HB.out).mono ?_
  rintro e w2 ⟨hb2, hm⟩
  have HP2 := Asd.mk (blk_below hb2 HP.out)
  have HQ2 := Asd.mk (blk_below hb2 HQ.out)
  have HB2 : Asd (Below w.heap.size w w2) := Asd.mk (HB.out.trans (hb2.mono HB.out.size))
  clear hb2 HC
  cases r with
  | error n =>
    simp only at hm
    obtain rfl := hm
    go_wp2_with fail
    refine leaves_cons (f := 106) (args := #[.pointer (some ⟨w.heap.size, 0, none⟩), .pointer (some ⟨w.heap.size + 1, 0, none⟩)]) (by simp) (by simp [go_sem]) ?_
    refine (catch_errno w.heap.size (w.heap.size + 1) n _ _ _ _ w2 HP2.out HQ2.out (by omega)).mono ?_
    rintro e u' w3 ⟨rfl, rfl, hfr, hp, hq⟩
    have p0 := (blk_cell hp 0).trans rfl
    have p1 := (blk_cell hp 1).trans rfl
    have p2 := (blk_cell hp 2).trans rfl
    have q0 := (blk_cell hq 0).trans rfl
    have hlow : ∀ k, k < w.heap.size → ¬ (k = w.heap.size ∨ k = w.heap.size + 1) := fun k hk => by omega
    have HB3 : Below w.heap.size w w3 := HB2.out.trans ⟨hfr.os, hfr.tape, hfr.output, hfr.size, fun k hk => hfr.block k (by have := HB2.out.size; omega) (hlow k hk)⟩
    simp [Leaves, settle, results, Try.results54, go_sem, p0, p1, p2, q0]
    exact ⟨HB3, rfl⟩
  | ok v =>
    simp only at hm
    obtain rfl := hm
    unfold vC
    have p0 := (blk_cell HP2.out 0).trans rfl
    have p1 := (blk_cell HP2.out 1).trans rfl
    have p2 := (blk_cell HP2.out 2).trans rfl
    have z0 := blk_frozen HP2.out 0
    have z1 := blk_frozen HP2.out 1
    have z2 := blk_frozen HP2.out 2
    have q0 := (blk_cell HQ2.out 0).trans rfl
    have f0 := blk_frozen HQ2.out 0
    have HPF := Asd.mk (put3_fr (W := w2) (b := w.heap.size) (S := fun k => k = w.heap.size) rfl (.int .i64 v.kind) (.int .i64 v.int) (.string ⟨v.text.toArray⟩))
    have HX5 := Asd.mk (put3_blk HP2.out (.int .i64 v.kind) (.int .i64 v.int) (.string ⟨v.text.toArray⟩))
    have HQ5 := Asd.mk (blk_fr HQ2.out HPF.out (by show ¬ w.heap.size + 1 = w.heap.size; omega))
    go_wp2_with fail
    have hX := blk_far HX5.out (p := ⟨w.heap.size + 1, 0, none⟩) (by show w.heap.size ≠ w.heap.size + 1; omega) (.int .i64 0)
    have hQ := blk_set HQ5.out 0 (.int .i64 0)
    have hF : Fr (fun k => k = w.heap.size ∨ k = w.heap.size + 1) w2 _ := Fr.setCell (S := fun k => k = w.heap.size ∨ k = w.heap.size + 1) (HPF.out.mono (fun k hk _ => .inl hk)) (p := ⟨w.heap.size + 1, 0, none⟩) (.inr rfl) (.int .i64 0)
    have hlow : ∀ k, k < w.heap.size → ¬ (k = w.heap.size ∨ k = w.heap.size + 1) := fun k hk => by omega
    have HB7 : Below w.heap.size w _ := HB2.out.trans ⟨hF.os, hF.tape, hF.output, hF.size, fun k hk => hF.block k (by have := HB2.out.size; omega) (hlow k hk)⟩
    generalize ((((w2.setCell ⟨w.heap.size, 0, none⟩ (.int .i64 v.kind)).setCell ⟨w.heap.size, 1, none⟩ (.int .i64 v.int)).setCell ⟨w.heap.size, 2, none⟩ (.string ⟨v.text.toArray⟩)).setCell ⟨w.heap.size + 1, 0, none⟩ (.int .i64 0)) = w7 at hX hQ hF HB7 ⊢
    clear p0 p1 p2 z0 z1 z2 q0 f0
    refine leaves_cons (f := 106) (args := #[.pointer (some ⟨w.heap.size, 0, none⟩), .pointer (some ⟨w.heap.size + 1, 0, none⟩)]) (by simp) (by simp [go_sem]) ?_
    refine (catch_nothing w.heap.size (w.heap.size + 1) w7).mono ?_
    rintro e u' w8 ⟨rfl, rfl, rfl⟩
    have p0 := (blk_cell hX 0).trans rfl
    have p1 := (blk_cell hX 1).trans rfl
    have p2 := (blk_cell hX 2).trans rfl
    have q0 := (blk_cell hQ 0).trans rfl
    simp [Leaves, settle, results, Try.results54, go_sem, p0, p1, p2, q0]
    exact ⟨HB7, rfl⟩
end Go.Proofs.Ytinflndbfdbnhaa.Exp

/- calc.Unary. -/
set_option linter.unusedVariables false
set_option linter.unusedSimpArgs false
namespace Go.Proofs.Ytinflndbfdbnhaa.Exp
open Go.RowKit Go.Proofs.Ytinflndbfdbnhaa.Base Go.Proofs.Ytinflndbfdbnhaa.App Go.Proofs.Ytinflndbfdbnhaa.Byt

theorem below_put3 {a W : World} (h : Below a.heap.size a W) {b : Nat} (hb : a.heap.size ≤ b) (v0 v1 v2 : Value) : Below a.heap.size a (((W.setCell ⟨b, 0, none⟩ v0).setCell ⟨b, 1, none⟩ v1).setCell ⟨b, 2, none⟩ v2) :=
  below_set (below_set (below_set h (p := ⟨b, 0, none⟩) hb v0) (p := ⟨b, 1, none⟩) hb v1) (p := ⟨b, 2, none⟩) hb v2
/-- The cells of a value's block. -/
theorem val_cells {W : World} {g : Nat} {v : Vl} (h : W.heap[g]? = some (vK v)) : W.cell? ⟨g, 0, none⟩ = some (.int .i64 v.kind) ∧ W.cell? ⟨g, 1, none⟩ = some (.int .i64 v.int) ∧ W.cell? ⟨g, 2, none⟩ = some (.string ⟨v.text.toArray⟩) := ⟨(blk_cell h 0).trans rfl, (blk_cell h 1).trans rfl, (blk_cell h 2).trans rfl⟩
abbrev zeroV : Obj := .cells #[.int .i64 0, .int .i64 0, .string ⟨#[]⟩] 23 (0, 0)
theorem zero_cells {W : World} {g : Nat} (h : W.heap[g]? = some zeroV) : (W.cell? ⟨g, 0, none⟩ = some (.int .i64 0) ∧ W.cell? ⟨g, 1, none⟩ = some (.int .i64 0) ∧ W.cell? ⟨g, 2, none⟩ = some (.string ⟨#[]⟩)) ∧ W.frozen? ⟨g, 0, none⟩ = false ∧ W.frozen? ⟨g, 1, none⟩ = false ∧ W.frozen? ⟨g, 2, none⟩ = false :=
  ⟨⟨(blk_cell h 0).trans rfl, (blk_cell h 1).trans rfl, (blk_cell h 2).trans rfl⟩, blk_frozen h 0, blk_frozen h 1, blk_frozen h 2⟩
set_option maxRecDepth 100000 in
set_option maxHeartbeats 6400000 in
theorem un_null1 (po pv : Nat) (w : World) (ho : w.heap[po]? = some (.cells #[.int .i64 1] 3 (0, 0))) (hv : w.heap[pv]? = some (vK vNull)) :
    Calls Try.prog 55 #[.pointer (some ⟨po, 0, none⟩), .pointer (some ⟨pv, 0, none⟩)] w (EvR (.ok vNull) w) := by
  have HO := Asd.mk (fun W (h : Below w.heap.size w W) => blk_below h ho)
  have HV := Asd.mk (fun W (h : Below w.heap.size w W) => blk_below h hv)
  have HX := Asd.mk (blk_new w zeroV)
  have HB : Asd (Below w.heap.size w (w.alloc zeroV)) := Asd.mk (below_alloc (Below.refl _ _) _)
  clear ho hv
  go_enter Try.func55, Try.ntmps55
  go_upto_region 1 with fail
  generalize w.alloc _ = w1 at HX HB ⊢
  have o0 := (blk_cell (HO.out _ HB.out) 0).trans rfl
  obtain ⟨v0, v1, v2⟩ := val_cells (HV.out _ HB.out)
  obtain ⟨⟨x0, x1, x2⟩, y0, y1, y2⟩ := zero_cells HX.out
  simp only [vNull, vTru, vNum, vTxt, Bool.false_eq_true, if_true, if_false] at v0 v1 v2
  go_wp2_with fail
  refine (check_ok 5 _).mono ?_
  rintro e w' ⟨rfl, rfl⟩
  go_wp2
  refine val_ret rfl w.heap.size _ _ _ rfl (put3_blk HX.out _ _ _) rfl ?_
  exact ⟨below_put3 HB.out (Nat.le_refl _) _ _ _, rfl⟩
set_option maxRecDepth 100000 in
set_option maxHeartbeats 6400000 in
theorem un_null2 (po pv : Nat) (w : World) (ho : w.heap[po]? = some (.cells #[.int .i64 2] 3 (0, 0))) (hv : w.heap[pv]? = some (vK vNull)) :
    Calls Try.prog 55 #[.pointer (some ⟨po, 0, none⟩), .pointer (some ⟨pv, 0, none⟩)] w (EvR (.ok vNull) w) := by
  have HO := Asd.mk (fun W (h : Below w.heap.size w W) => blk_below h ho)
  have HV := Asd.mk (fun W (h : Below w.heap.size w W) => blk_below h hv)
  have HX := Asd.mk (blk_new w zeroV)
  have HB : Asd (Below w.heap.size w (w.alloc zeroV)) := Asd.mk (below_alloc (Below.refl _ _) _)
  clear ho hv
  go_enter Try.func55, Try.ntmps55
  go_upto_region 1 with fail
  generalize w.alloc _ = w1 at HX HB ⊢
  have o0 := (blk_cell (HO.out _ HB.out) 0).trans rfl
  obtain ⟨v0, v1, v2⟩ := val_cells (HV.out _ HB.out)
  obtain ⟨⟨x0, x1, x2⟩, y0, y1, y2⟩ := zero_cells HX.out
  simp only [vNull, vTru, vNum, vTxt, Bool.false_eq_true, if_true, if_false] at v0 v1 v2
  go_wp2_with fail
  refine (check_ok 5 _).mono ?_
  rintro e w' ⟨rfl, rfl⟩
  go_wp2
  refine val_ret rfl w.heap.size _ _ _ rfl (put3_blk HX.out _ _ _) rfl ?_
  exact ⟨below_put3 HB.out (Nat.le_refl _) _ _ _, rfl⟩
set_option maxRecDepth 100000 in
set_option maxHeartbeats 6400000 in
theorem un_not_false (po pv : Nat) (w : World) (ho : w.heap[po]? = some (.cells #[.int .i64 2] 3 (0, 0))) (hv : w.heap[pv]? = some (vK (vTru false))) :
    Calls Try.prog 55 #[.pointer (some ⟨po, 0, none⟩), .pointer (some ⟨pv, 0, none⟩)] w (EvR (.ok (vTru true)) w) := by
  have HO := Asd.mk (fun W (h : Below w.heap.size w W) => blk_below h ho)
  have HV := Asd.mk (fun W (h : Below w.heap.size w W) => blk_below h hv)
  have HX := Asd.mk (blk_new w zeroV)
  have HB : Asd (Below w.heap.size w (w.alloc zeroV)) := Asd.mk (below_alloc (Below.refl _ _) _)
  clear ho hv
  go_enter Try.func55, Try.ntmps55
  go_upto_region 1 with fail
  generalize w.alloc _ = w1 at HX HB ⊢
  have o0 := (blk_cell (HO.out _ HB.out) 0).trans rfl
  obtain ⟨v0, v1, v2⟩ := val_cells (HV.out _ HB.out)
  obtain ⟨⟨x0, x1, x2⟩, y0, y1, y2⟩ := zero_cells HX.out
  simp only [vNull, vTru, vNum, vTxt, Bool.false_eq_true, if_true, if_false] at v0 v1 v2
  go_wp2_with fail
  refine (check_ok 5 _).mono ?_
  rintro e w' ⟨rfl, rfl⟩
  go_wp2_with fail
  refine (check_ok 35 _).mono ?_
  rintro e w' ⟨rfl, rfl⟩
  go_wp2_with fail
  refine (truth_calls true _).mono ?_
  rintro e w2 ⟨rfl, hb2⟩
  have HX2 := Asd.mk (blk_below hb2 HX.out)
  have HB2 : Asd (Below w.heap.size w w2) := Asd.mk (HB.out.trans (hb2.mono HB.out.size))
  clear x0 x1 x2 y0 y1 y2 v0 v1 v2 o0 hb2
  obtain ⟨⟨x0, x1, x2⟩, y0, y1, y2⟩ := zero_cells HX2.out
  unfold vC
  go_wp2
  refine val_ret rfl w.heap.size _ _ _ rfl (put3_blk HX2.out _ _ _) rfl ?_
  exact ⟨below_put3 HB2.out (Nat.le_refl _) _ _ _, rfl⟩
set_option maxRecDepth 100000 in
set_option maxHeartbeats 6400000 in
theorem un_not_true (po pv : Nat) (w : World) (ho : w.heap[po]? = some (.cells #[.int .i64 2] 3 (0, 0))) (hv : w.heap[pv]? = some (vK (vTru true))) :
    Calls Try.prog 55 #[.pointer (some ⟨po, 0, none⟩), .pointer (some ⟨pv, 0, none⟩)] w (EvR (.ok (vTru false)) w) := by
  have HO := Asd.mk (fun W (h : Below w.heap.size w W) => blk_below h ho)
  have HV := Asd.mk (fun W (h : Below w.heap.size w W) => blk_below h hv)
  have HX := Asd.mk (blk_new w zeroV)
  have HB : Asd (Below w.heap.size w (w.alloc zeroV)) := Asd.mk (below_alloc (Below.refl _ _) _)
  clear ho hv
  go_enter Try.func55, Try.ntmps55
  go_upto_region 1 with fail
  generalize w.alloc _ = w1 at HX HB ⊢
  have o0 := (blk_cell (HO.out _ HB.out) 0).trans rfl
  obtain ⟨v0, v1, v2⟩ := val_cells (HV.out _ HB.out)
  obtain ⟨⟨x0, x1, x2⟩, y0, y1, y2⟩ := zero_cells HX.out
  simp only [vNull, vTru, vNum, vTxt, Bool.false_eq_true, if_true, if_false] at v0 v1 v2
  go_wp2_with fail
  refine (check_ok 5 _).mono ?_
  rintro e w' ⟨rfl, rfl⟩
  go_wp2_with fail
  refine (check_ok 35 _).mono ?_
  rintro e w' ⟨rfl, rfl⟩
  go_wp2_with fail
  refine (truth_calls false _).mono ?_
  rintro e w2 ⟨rfl, hb2⟩
  have HX2 := Asd.mk (blk_below hb2 HX.out)
  have HB2 : Asd (Below w.heap.size w w2) := Asd.mk (HB.out.trans (hb2.mono HB.out.size))
  clear x0 x1 x2 y0 y1 y2 v0 v1 v2 o0 hb2
  obtain ⟨⟨x0, x1, x2⟩, y0, y1, y2⟩ := zero_cells HX2.out
  unfold vC
  go_wp2
  refine val_ret rfl w.heap.size _ _ _ rfl (put3_blk HX2.out _ _ _) rfl ?_
  exact ⟨below_put3 HB2.out (Nat.le_refl _) _ _ _, rfl⟩
set_option maxRecDepth 100000 in
set_option maxHeartbeats 6400000 in
theorem un_not_num (n : Int) (po pv : Nat) (w : World) (ho : w.heap[po]? = some (.cells #[.int .i64 2] 3 (0, 0))) (hv : w.heap[pv]? = some (vK (vNum n))) :
    Calls Try.prog 55 #[.pointer (some ⟨po, 0, none⟩), .pointer (some ⟨pv, 0, none⟩)] w (EvR (.error 35) w) := by
  have HO := Asd.mk (fun W (h : Below w.heap.size w W) => blk_below h ho)
  have HV := Asd.mk (fun W (h : Below w.heap.size w W) => blk_below h hv)
  have HX := Asd.mk (blk_new w zeroV)
  have HB : Asd (Below w.heap.size w (w.alloc zeroV)) := Asd.mk (below_alloc (Below.refl _ _) _)
  clear ho hv
  go_enter Try.func55, Try.ntmps55
  go_upto_region 1 with fail
  generalize w.alloc _ = w1 at HX HB ⊢
  have o0 := (blk_cell (HO.out _ HB.out) 0).trans rfl
  obtain ⟨v0, v1, v2⟩ := val_cells (HV.out _ HB.out)
  obtain ⟨⟨x0, x1, x2⟩, y0, y1, y2⟩ := zero_cells HX.out
  simp only [vNull, vTru, vNum, vTxt, Bool.false_eq_true, if_true, if_false] at v0 v1 v2
  go_wp2_with fail
  refine (check_ok 5 _).mono ?_
  rintro e w' ⟨rfl, rfl⟩
  go_wp2_with fail
  refine (check_no 35 _).mono ?_
  rintro e w' ⟨rfl, rfl⟩
  go_wp2
  exact ⟨rfl, HB.out, rfl⟩
set_option maxRecDepth 100000 in
set_option maxHeartbeats 6400000 in
theorem un_not_text (s : List UInt8) (po pv : Nat) (w : World) (ho : w.heap[po]? = some (.cells #[.int .i64 2] 3 (0, 0))) (hv : w.heap[pv]? = some (vK (vTxt s))) :
    Calls Try.prog 55 #[.pointer (some ⟨po, 0, none⟩), .pointer (some ⟨pv, 0, none⟩)] w (EvR (.error 35) w) := by
  have HO := Asd.mk (fun W (h : Below w.heap.size w W) => blk_below h ho)
  have HV := Asd.mk (fun W (h : Below w.heap.size w W) => blk_below h hv)
  have HX := Asd.mk (blk_new w zeroV)
  have HB : Asd (Below w.heap.size w (w.alloc zeroV)) := Asd.mk (below_alloc (Below.refl _ _) _)
  clear ho hv
  go_enter Try.func55, Try.ntmps55
  go_upto_region 1 with fail
  generalize w.alloc _ = w1 at HX HB ⊢
  have o0 := (blk_cell (HO.out _ HB.out) 0).trans rfl
  obtain ⟨v0, v1, v2⟩ := val_cells (HV.out _ HB.out)
  obtain ⟨⟨x0, x1, x2⟩, y0, y1, y2⟩ := zero_cells HX.out
  simp only [vNull, vTru, vNum, vTxt, Bool.false_eq_true, if_true, if_false] at v0 v1 v2
  go_wp2_with fail
  refine (check_ok 5 _).mono ?_
  rintro e w' ⟨rfl, rfl⟩
  go_wp2_with fail
  refine (check_no 35 _).mono ?_
  rintro e w' ⟨rfl, rfl⟩
  go_wp2
  exact ⟨rfl, HB.out, rfl⟩
set_option maxRecDepth 100000 in
set_option maxHeartbeats 6400000 in
theorem un_not_blob (s : List UInt8) (po pv : Nat) (w : World) (ho : w.heap[po]? = some (.cells #[.int .i64 2] 3 (0, 0))) (hv : w.heap[pv]? = some (vK ⟨4, 0, s⟩)) :
    Calls Try.prog 55 #[.pointer (some ⟨po, 0, none⟩), .pointer (some ⟨pv, 0, none⟩)] w (EvR (.error 35) w) := by
  have HO := Asd.mk (fun W (h : Below w.heap.size w W) => blk_below h ho)
  have HV := Asd.mk (fun W (h : Below w.heap.size w W) => blk_below h hv)
  have HX := Asd.mk (blk_new w zeroV)
  have HB : Asd (Below w.heap.size w (w.alloc zeroV)) := Asd.mk (below_alloc (Below.refl _ _) _)
  clear ho hv
  go_enter Try.func55, Try.ntmps55
  go_upto_region 1 with fail
  generalize w.alloc _ = w1 at HX HB ⊢
  have o0 := (blk_cell (HO.out _ HB.out) 0).trans rfl
  obtain ⟨v0, v1, v2⟩ := val_cells (HV.out _ HB.out)
  obtain ⟨⟨x0, x1, x2⟩, y0, y1, y2⟩ := zero_cells HX.out
  simp only [vNull, vTru, vNum, vTxt, Bool.false_eq_true, if_true, if_false] at v0 v1 v2
  go_wp2_with fail
  refine (check_ok 5 _).mono ?_
  rintro e w' ⟨rfl, rfl⟩
  go_wp2_with fail
  refine (check_no 35 _).mono ?_
  rintro e w' ⟨rfl, rfl⟩
  go_wp2
  exact ⟨rfl, HB.out, rfl⟩
set_option maxRecDepth 100000 in
set_option maxHeartbeats 6400000 in
theorem un_neg_false (po pv : Nat) (w : World) (ho : w.heap[po]? = some (.cells #[.int .i64 1] 3 (0, 0))) (hv : w.heap[pv]? = some (vK (vTru false))) :
    Calls Try.prog 55 #[.pointer (some ⟨po, 0, none⟩), .pointer (some ⟨pv, 0, none⟩)] w (EvR (.error 35) w) := by
  have HO := Asd.mk (fun W (h : Below w.heap.size w W) => blk_below h ho)
  have HV := Asd.mk (fun W (h : Below w.heap.size w W) => blk_below h hv)
  have HX := Asd.mk (blk_new w zeroV)
  have HB : Asd (Below w.heap.size w (w.alloc zeroV)) := Asd.mk (below_alloc (Below.refl _ _) _)
  clear ho hv
  go_enter Try.func55, Try.ntmps55
  go_upto_region 1 with fail
  generalize w.alloc _ = w1 at HX HB ⊢
  have o0 := (blk_cell (HO.out _ HB.out) 0).trans rfl
  obtain ⟨v0, v1, v2⟩ := val_cells (HV.out _ HB.out)
  obtain ⟨⟨x0, x1, x2⟩, y0, y1, y2⟩ := zero_cells HX.out
  simp only [vNull, vTru, vNum, vTxt, Bool.false_eq_true, if_true, if_false] at v0 v1 v2
  go_wp2_with fail
  refine (check_ok 5 _).mono ?_
  rintro e w' ⟨rfl, rfl⟩
  go_wp2_with fail
  refine (check_no 35 _).mono ?_
  rintro e w' ⟨rfl, rfl⟩
  go_wp2
  exact ⟨rfl, HB.out, rfl⟩
set_option maxRecDepth 100000 in
set_option maxHeartbeats 6400000 in
theorem un_neg_true (po pv : Nat) (w : World) (ho : w.heap[po]? = some (.cells #[.int .i64 1] 3 (0, 0))) (hv : w.heap[pv]? = some (vK (vTru true))) :
    Calls Try.prog 55 #[.pointer (some ⟨po, 0, none⟩), .pointer (some ⟨pv, 0, none⟩)] w (EvR (.error 35) w) := by
  have HO := Asd.mk (fun W (h : Below w.heap.size w W) => blk_below h ho)
  have HV := Asd.mk (fun W (h : Below w.heap.size w W) => blk_below h hv)
  have HX := Asd.mk (blk_new w zeroV)
  have HB : Asd (Below w.heap.size w (w.alloc zeroV)) := Asd.mk (below_alloc (Below.refl _ _) _)
  clear ho hv
  go_enter Try.func55, Try.ntmps55
  go_upto_region 1 with fail
  generalize w.alloc _ = w1 at HX HB ⊢
  have o0 := (blk_cell (HO.out _ HB.out) 0).trans rfl
  obtain ⟨v0, v1, v2⟩ := val_cells (HV.out _ HB.out)
  obtain ⟨⟨x0, x1, x2⟩, y0, y1, y2⟩ := zero_cells HX.out
  simp only [vNull, vTru, vNum, vTxt, Bool.false_eq_true, if_true, if_false] at v0 v1 v2
  go_wp2_with fail
  refine (check_ok 5 _).mono ?_
  rintro e w' ⟨rfl, rfl⟩
  go_wp2_with fail
  refine (check_no 35 _).mono ?_
  rintro e w' ⟨rfl, rfl⟩
  go_wp2
  exact ⟨rfl, HB.out, rfl⟩
set_option maxRecDepth 100000 in
set_option maxHeartbeats 6400000 in
theorem un_neg_text (s : List UInt8) (po pv : Nat) (w : World) (ho : w.heap[po]? = some (.cells #[.int .i64 1] 3 (0, 0))) (hv : w.heap[pv]? = some (vK (vTxt s))) :
    Calls Try.prog 55 #[.pointer (some ⟨po, 0, none⟩), .pointer (some ⟨pv, 0, none⟩)] w (EvR (.error 35) w) := by
  have HO := Asd.mk (fun W (h : Below w.heap.size w W) => blk_below h ho)
  have HV := Asd.mk (fun W (h : Below w.heap.size w W) => blk_below h hv)
  have HX := Asd.mk (blk_new w zeroV)
  have HB : Asd (Below w.heap.size w (w.alloc zeroV)) := Asd.mk (below_alloc (Below.refl _ _) _)
  clear ho hv
  go_enter Try.func55, Try.ntmps55
  go_upto_region 1 with fail
  generalize w.alloc _ = w1 at HX HB ⊢
  have o0 := (blk_cell (HO.out _ HB.out) 0).trans rfl
  obtain ⟨v0, v1, v2⟩ := val_cells (HV.out _ HB.out)
  obtain ⟨⟨x0, x1, x2⟩, y0, y1, y2⟩ := zero_cells HX.out
  simp only [vNull, vTru, vNum, vTxt, Bool.false_eq_true, if_true, if_false] at v0 v1 v2
  go_wp2_with fail
  refine (check_ok 5 _).mono ?_
  rintro e w' ⟨rfl, rfl⟩
  go_wp2_with fail
  refine (check_no 35 _).mono ?_
  rintro e w' ⟨rfl, rfl⟩
  go_wp2
  exact ⟨rfl, HB.out, rfl⟩
set_option maxRecDepth 100000 in
set_option maxHeartbeats 6400000 in
theorem un_neg_blob (s : List UInt8) (po pv : Nat) (w : World) (ho : w.heap[po]? = some (.cells #[.int .i64 1] 3 (0, 0))) (hv : w.heap[pv]? = some (vK ⟨4, 0, s⟩)) :
    Calls Try.prog 55 #[.pointer (some ⟨po, 0, none⟩), .pointer (some ⟨pv, 0, none⟩)] w (EvR (.error 35) w) := by
  have HO := Asd.mk (fun W (h : Below w.heap.size w W) => blk_below h ho)
  have HV := Asd.mk (fun W (h : Below w.heap.size w W) => blk_below h hv)
  have HX := Asd.mk (blk_new w zeroV)
  have HB : Asd (Below w.heap.size w (w.alloc zeroV)) := Asd.mk (below_alloc (Below.refl _ _) _)
  clear ho hv
  go_enter Try.func55, Try.ntmps55
  go_upto_region 1 with fail
  generalize w.alloc _ = w1 at HX HB ⊢
  have o0 := (blk_cell (HO.out _ HB.out) 0).trans rfl
  obtain ⟨v0, v1, v2⟩ := val_cells (HV.out _ HB.out)
  obtain ⟨⟨x0, x1, x2⟩, y0, y1, y2⟩ := zero_cells HX.out
  simp only [vNull, vTru, vNum, vTxt, Bool.false_eq_true, if_true, if_false] at v0 v1 v2
  go_wp2_with fail
  refine (check_ok 5 _).mono ?_
  rintro e w' ⟨rfl, rfl⟩
  go_wp2_with fail
  refine (check_no 35 _).mono ?_
  rintro e w' ⟨rfl, rfl⟩
  go_wp2
  exact ⟨rfl, HB.out, rfl⟩
set_option maxRecDepth 100000 in
set_option maxHeartbeats 6400000 in
theorem un_neg_least (po pv : Nat) (w : World) (ho : w.heap[po]? = some (.cells #[.int .i64 1] 3 (0, 0))) (hv : w.heap[pv]? = some (vK (vNum (-9223372036854775808)))) :
    Calls Try.prog 55 #[.pointer (some ⟨po, 0, none⟩), .pointer (some ⟨pv, 0, none⟩)] w (EvR (.error 40) w) := by
  have HO := Asd.mk (fun W (h : Below w.heap.size w W) => blk_below h ho)
  have HV := Asd.mk (fun W (h : Below w.heap.size w W) => blk_below h hv)
  have HX := Asd.mk (blk_new w zeroV)
  have HB : Asd (Below w.heap.size w (w.alloc zeroV)) := Asd.mk (below_alloc (Below.refl _ _) _)
  clear ho hv
  go_enter Try.func55, Try.ntmps55
  go_upto_region 1 with fail
  generalize w.alloc _ = w1 at HX HB ⊢
  have o0 := (blk_cell (HO.out _ HB.out) 0).trans rfl
  obtain ⟨v0, v1, v2⟩ := val_cells (HV.out _ HB.out)
  obtain ⟨⟨x0, x1, x2⟩, y0, y1, y2⟩ := zero_cells HX.out
  simp only [vNull, vTru, vNum, vTxt, Bool.false_eq_true, if_true, if_false] at v0 v1 v2
  go_wp2_with fail
  refine (check_ok 5 _).mono ?_
  rintro e w' ⟨rfl, rfl⟩
  go_wp2_with fail
  refine (check_ok 35 _).mono ?_
  rintro e w' ⟨rfl, rfl⟩
  go_wp2_with fail
  refine (check_no 40 _).mono ?_
  rintro e w' ⟨rfl, rfl⟩
  go_wp2
  exact ⟨rfl, HB.out, rfl⟩
set_option maxRecDepth 100000 in
set_option maxHeartbeats 6400000 in
theorem un_neg_num (n : Int) (h : -9223372036854775808 < n) (h' : n ≤ 9223372036854775807) (po pv : Nat) (w : World) (ho : w.heap[po]? = some (.cells #[.int .i64 1] 3 (0, 0))) (hv : w.heap[pv]? = some (vK (vNum n))) :
    Calls Try.prog 55 #[.pointer (some ⟨po, 0, none⟩), .pointer (some ⟨pv, 0, none⟩)] w (EvR (.ok (vNum (-n))) w) := by
  have HO := Asd.mk (fun W (h : Below w.heap.size w W) => blk_below h ho)
  have HV := Asd.mk (fun W (h : Below w.heap.size w W) => blk_below h hv)
  have HX := Asd.mk (blk_new w zeroV)
  have HB : Asd (Below w.heap.size w (w.alloc zeroV)) := Asd.mk (below_alloc (Below.refl _ _) _)
  clear ho hv
  have hne : (n != (-9223372036854775808 : Int)) = true := by rw [bne_iff_ne]; omega
  go_enter Try.func55, Try.ntmps55
  go_upto_region 1 with fail
  generalize w.alloc _ = w1 at HX HB ⊢
  have o0 := (blk_cell (HO.out _ HB.out) 0).trans rfl
  obtain ⟨v0, v1, v2⟩ := val_cells (HV.out _ HB.out)
  obtain ⟨⟨x0, x1, x2⟩, y0, y1, y2⟩ := zero_cells HX.out
  simp only [vNull, vTru, vNum, vTxt, Bool.false_eq_true, if_true, if_false] at v0 v1 v2
  go_wp2_with fail
  refine (check_ok 5 _).mono ?_
  rintro e w' ⟨rfl, rfl⟩
  go_wp2_with fail
  refine (check_ok 35 _).mono ?_
  rintro e w' ⟨rfl, rfl⟩
  go_wp2_with fail
  refine (check_ok 40 _).mono ?_
  rintro e w' ⟨rfl, rfl⟩
  go_wp2_with fail
  refine (number_calls (-n) _).mono ?_
  rintro e w2 ⟨rfl, hb2⟩
  have HX2 := Asd.mk (blk_below hb2 HX.out)
  have HB2 : Asd (Below w.heap.size w w2) := Asd.mk (HB.out.trans (hb2.mono HB.out.size))
  clear x0 x1 x2 y0 y1 y2 v0 v1 v2 o0 hb2
  obtain ⟨⟨x0, x1, x2⟩, y0, y1, y2⟩ := zero_cells HX2.out
  unfold vC
  go_wp2
  refine val_ret rfl w.heap.size _ _ _ rfl (put3_blk HX2.out _ _ _) rfl ?_
  exact ⟨below_put3 HB2.out (Nat.le_refl _) _ _ _, rfl⟩
/-- calc.Unary's sum. -/
theorem un_calls (op : Int) (hop : op = 1 ∨ op = 2) (v : Vl) (hr : RV v) (po pv : Nat) (w : World) (ho : w.heap[po]? = some (.cells #[.int .i64 op] 3 (0, 0))) (hv : w.heap[pv]? = some (vK v)) :
    Calls Try.prog 55 #[.pointer (some ⟨po, 0, none⟩), .pointer (some ⟨pv, 0, none⟩)] w (EvR (unP op v) w) := by
  rcases hop with rfl | rfl
  · cases hr with
    | null => exact un_null1 po pv w ho hv
    | bool b => cases b; exact un_neg_false po pv w ho hv; exact un_neg_true po pv w ho hv
    | num n hn =>
      by_cases h : n = -9223372036854775808
      · subst h; exact un_neg_least po pv w ho hv
      · rw [show unP 1 (vNum n) = .ok (vNum (-n)) by simp [unP, vNum, h]]
        exact un_neg_num n (by have := hn.1; omega) hn.2 po pv w ho hv
    | text s hs => exact un_neg_text s po pv w ho hv
    | blob s hs => exact un_neg_blob s po pv w ho hv
  · cases hr with
    | null => exact un_null2 po pv w ho hv
    | bool b => cases b; exact un_not_false po pv w ho hv; exact un_not_true po pv w ho hv
    | num n hn => exact un_not_num n po pv w ho hv
    | text s hs => exact un_not_text s po pv w ho hv
    | blob s hs => exact un_not_blob s po pv w ho hv
set_option maxRecDepth 100000 in
set_option maxHeartbeats 6400000 in
theorem unary_calls (op : Int) (hop : op = 1 ∨ op = 2) (v : Vl) (hr : RV v) (w : World) : Calls Try.prog 23 #[.int .i64 op, vC v] w (Ev2 (unP op v) w) := by
  have hmf := mk_func
  have HC := Asd.mk (un_calls op hop v hr)
  clear hop hr
  generalize unP op v = r at HC ⊢
  unfold vC
  have HO := Asd.mk (blk_alloc (blk_alloc (blk_new w (.cells #[.int .i64 op] 3 (0, 0))) (vK v)) zeroV)
  have HV := Asd.mk (blk_alloc (nb1 w (.cells #[.int .i64 op] 3 (0, 0)) (vK v)) zeroV)
  have HX := Asd.mk (nb2 w (.cells #[.int .i64 op] 3 (0, 0)) (vK v) zeroV)
  have HB : Asd (Below w.heap.size w (((w.alloc (.cells #[.int .i64 op] 3 (0, 0))).alloc (vK v)).alloc zeroV)) := Asd.mk (below_alloc (below_alloc (below_alloc (Below.refl _ _) _) _) _)
  go_enter Try.func23, Try.ntmps23
  go_upto_region 1 with fail
  generalize (((w.alloc (.cells #[.int .i64 op] 3 (0, 0))).alloc (vK v)).alloc zeroV) = w1 at HO HV HX HB ⊢
  go_wp2_with fail
  refine (caught_calls 55 _ r _ (isGo_of Try.func55 (by decide) rfl) fun W hW => HC.out _ _ W (blk_below hW HO.out) (blk_below hW HV.out)).mono ?_
  rintro e w2 ⟨hb2, rfl⟩
  have HX2 := Asd.mk (blk_below hb2 HX.out)
  have HB2 : Asd (Below w.heap.size w w2) := Asd.mk (HB.out.trans (hb2.mono HB.out.size))
  clear hb2
  obtain ⟨⟨x0, x1, x2⟩, y0, y1, y2⟩ := zero_cells HX2.out
  cases r with
  | ok u =>
    unfold vC
    go_wp2
    refine val_ret2 rfl (w.heap.size + 1 + 1) _ _ _ rfl (put3_blk HX2.out _ _ _) rfl ?_
    exact ⟨below_put3 HB2.out (by omega) _ _ _, rfl⟩
  | error n =>
    unfold vC
    simp only [vNull]
    go_wp2
    refine val_ret2 rfl (w.heap.size + 1 + 1) _ _ _ rfl (put3_blk HX2.out _ _ _) rfl ?_
    exact ⟨below_put3 HB2.out (by omega) _ _ _, rfl⟩
end Go.Proofs.Ytinflndbfdbnhaa.Exp

/- quarryref02: Truth, Number, text, Unary. -/
set_option linter.unusedVariables false
set_option linter.unusedSimpArgs false
namespace Go.Proofs.Ytinflndbfdbnhaa.Exp
open Go.RowKit Go.Proofs.Ytinflndbfdbnhaa.Base Go.Proofs.Ytinflndbfdbnhaa.App Go.Proofs.Ytinflndbfdbnhaa.Byt

set_option maxRecDepth 100000 in
set_option maxHeartbeats 3200000 in
theorem rtruth_true (w : World) : Calls Try.prog 31 #[.bool true] w fun e w' => e = .returned (vC (vTru true)) ∧ Below w.heap.size w w' := by
  have HZ := Asd.mk (blk_new w zeroV)
  have HB : Asd (Below w.heap.size w (w.alloc zeroV)) := Asd.mk (below_alloc (Below.refl _ _) _)
  go_enter Try.func31, Try.ntmps31
  go_upto_region 1 with fail
  generalize w.alloc _ = w1 at HZ HB ⊢
  obtain ⟨⟨x0, x1, x2⟩, y0, y1, y2⟩ := zero_cells HZ.out
  go_wp2
  refine val_ret rfl w.heap.size _ _ _ rfl (put3_blk HZ.out _ _ _) rfl ?_
  exact ⟨rfl, below_put3 HB.out (Nat.le_refl _) _ _ _⟩
set_option maxRecDepth 100000 in
set_option maxHeartbeats 3200000 in
theorem rtruth_false (w : World) : Calls Try.prog 31 #[.bool false] w fun e w' => e = .returned (vC (vTru false)) ∧ Below w.heap.size w w' := by
  have HZ := Asd.mk (blk_new w zeroV)
  have HB : Asd (Below w.heap.size w (w.alloc zeroV)) := Asd.mk (below_alloc (Below.refl _ _) _)
  go_enter Try.func31, Try.ntmps31
  go_upto_region 1 with fail
  generalize w.alloc _ = w1 at HZ HB ⊢
  obtain ⟨⟨x0, x1, x2⟩, y0, y1, y2⟩ := zero_cells HZ.out
  go_wp2
  refine val_ret rfl w.heap.size _ _ _ rfl (put3_blk HZ.out _ _ _) rfl ?_
  exact ⟨rfl, below_put3 HB.out (Nat.le_refl _) _ _ _⟩
theorem rtruth_calls (b : Bool) (w : World) : Calls Try.prog 31 #[.bool b] w fun e w' => e = .returned (vC (vTru b)) ∧ Below w.heap.size w w' := by
  cases b
  · exact rtruth_false w
  · exact rtruth_true w
set_option maxRecDepth 100000 in
set_option maxHeartbeats 3200000 in
theorem rnum_calls (n : Int) (w : World) : Calls Try.prog 72 #[.int .i64 n] w fun e w' => e = .returned (vC (vNum n)) ∧ Below w.heap.size w w' := by
  have HZ := Asd.mk (blk_new w zeroV)
  have HB : Asd (Below w.heap.size w (w.alloc zeroV)) := Asd.mk (below_alloc (Below.refl _ _) _)
  go_enter Try.func72, Try.ntmps72
  go_upto_region 1 with fail
  generalize w.alloc _ = w1 at HZ HB ⊢
  obtain ⟨⟨x0, x1, x2⟩, y0, y1, y2⟩ := zero_cells HZ.out
  go_wp2
  refine val_ret rfl w.heap.size _ _ _ rfl (put3_blk HZ.out _ _ _) rfl ?_
  exact ⟨rfl, below_put3 HB.out (Nat.le_refl _) _ _ _⟩
set_option maxRecDepth 100000 in
set_option maxHeartbeats 3200000 in
theorem rtext_calls (s : List UInt8) (w : World) : Calls Try.prog 77 #[.string ⟨s.toArray⟩] w fun e w' => e = .returned (vC (vTxt s)) ∧ Below w.heap.size w w' := by
  have HZ := Asd.mk (blk_new w zeroV)
  have HB : Asd (Below w.heap.size w (w.alloc zeroV)) := Asd.mk (below_alloc (Below.refl _ _) _)
  go_enter Try.func77, Try.ntmps77
  go_upto_region 1 with fail
  generalize w.alloc _ = w1 at HZ HB ⊢
  obtain ⟨⟨x0, x1, x2⟩, y0, y1, y2⟩ := zero_cells HZ.out
  go_wp2
  refine val_ret rfl w.heap.size _ _ _ rfl (put3_blk HZ.out _ _ _) rfl ?_
  exact ⟨rfl, below_put3 HB.out (Nat.le_refl _) _ _ _⟩
end Go.Proofs.Ytinflndbfdbnhaa.Exp

/- What an expression is worth is a right value. -/
set_option linter.unusedVariables false
set_option linter.unusedSimpArgs false
namespace Go.Proofs.Ytinflndbfdbnhaa.Exp
open Go.RowKit Go.Proofs.Ytinflndbfdbnhaa.Base

theorem rv_kind {v : Vl} (h : RV v) : 0 ≤ v.kind ∧ v.kind ≤ 4 := by
  cases h with
  | null => exact ⟨by decide, by decide⟩
  | bool b => exact ⟨by show (0 : Int) ≤ 1; decide, by show (1 : Int) ≤ 4; decide⟩
  | num n h => exact ⟨by show (0 : Int) ≤ 2; decide, by show (2 : Int) ≤ 4; decide⟩
  | text s h => exact ⟨by show (0 : Int) ≤ 3; decide, by show (3 : Int) ≤ 4; decide⟩
  | blob s h => exact ⟨by show (0 : Int) ≤ 4; decide, by show (4 : Int) ≤ 4; decide⟩
theorem rv_text {v : Vl} (h : RV v) : v.text.length ≤ reachBytes := by
  cases h with
  | null => exact Nat.zero_le _
  | bool b => exact Nat.zero_le _
  | num n h => exact Nat.zero_le _
  | text s h => exact h
  | blob s h => exact h
theorem rv_num {v : Vl} (h : RV v) : inI v.int := by
  cases h with
  | null => exact (show inI 0 by decide)
  | bool b => cases b; exact (show inI 0 by decide); exact (show inI 1 by decide)
  | num n h => exact h
  | text s h => exact (show inI 0 by decide)
  | blob s h => exact (show inI 0 by decide)
theorem rv_one (b : Bool) : RV (vTru b) := .bool b
/-- A result is right. -/
def RvE (r : Ev) : Prop := ∀ v, r = .ok v → RV v
theorem rve_err (n : Int) : RvE (.error n) := fun v h => by cases h
theorem rve_ok {v : Vl} (h : RV v) : RvE (.ok v) := fun u e => by injection e with e; subst e; exact h
theorem unP_rv (op : Int) {v : Vl} (h : RV v) : RvE (unP op v) := by
  unfold unP
  split
  · exact rve_ok h
  · split
    · split
      · exact rve_ok (rv_one _)
      · exact rve_err _
    · split
      · split
        · exact rve_err _
        · rename_i hne
          have := rv_num h
          exact rve_ok (.num _ ⟨by have := this.2; omega, by have := this.1; omega⟩)
      · exact rve_err _
theorem numN_in {n m : Int} (h : numN n = .ok m) : inI m := by
  unfold numN at h
  split at h
  · injection h with h; subst h; assumption
  · cases h
theorem sumN_in {op a b m : Int} (ha : inI a) (h : sumN op a b = .ok m) : inI m := by
  unfold sumN at h
  split at h
  · exact numN_in h
  · split at h
    · exact numN_in h
    · split at h
      · exact numN_in h
      · split at h
        · cases h
        · split at h
          · injection h with h
            subst h
            have h1 : (a.tmod b).natAbs ≤ a.natAbs := by rw [Int.natAbs_tmod]; exact Nat.mod_le _ _
            obtain ⟨h2, h3⟩ := ha
            by_cases h0 : 0 ≤ a
            · have := Int.tmod_nonneg b h0
              exact ⟨by omega, by omega⟩
            · have : a.tmod b = -((-a).tmod b) := by rw [Int.neg_tmod]; omega
              have h4 := Int.tmod_nonneg b (show 0 ≤ -a by omega)
              exact ⟨by omega, by omega⟩
          · exact numN_in h
theorem logicP_rv (or : Bool) (a b : Vl) : RV (logicP or a b) := by
  unfold logicP
  split
  · exact rv_one _
  · split
    · exact .null
    · exact rv_one _
theorem binP_rv (op : Int) {a b : Vl} (ha : RV a) (hb : RV b) : RvE (binP op a b) := by
  unfold binP
  split
  · split
    · exact rve_ok (logicP_rv _ _ _)
    · exact rve_err _
  · split
    · split
      · exact rve_ok .null
      · split
        · exact rve_ok (rv_one _)
        · exact rve_err _
    · split
      · split
        · split
          · exact rve_ok .null
          · split
            · rename_i hle
              refine rve_ok (.text _ ?_)
              rw [List.length_append]
              have : reachBytes = 140737488351232 := rfl
              omega
            · exact rve_err _
        · exact rve_err _
      · split
        · split
          · exact rve_ok .null
          · unfold sumV
            split
            · rename_i n hn
              exact rve_ok (.num _ (sumN_in (rv_num ha) hn))
            · exact rve_err _
        · exact rve_err _
theorem cutP_len (s : List UInt8) (p n : Int) : (cutP s p n).length ≤ s.length := by
  unfold cutP
  split
  · simp
  · split
    · split
      · simp
      · rw [List.length_take]; omega
    · rw [List.length_take, List.length_drop]; omega
theorem calledV_rv (f : Int) {l : List Vl} (h : ∀ v ∈ l, RV v) : RvE (calledV f l) := by
  unfold calledV
  split
  · rename_i v
    have hv := rv_text (h v (by simp))
    have : reachBytes = 140737488351232 := rfl
    exact rve_ok (.num _ ⟨by omega, by omega⟩)
  · rename_i v
    have hv := rv_num (h v (by simp))
    split
    · exact rve_err _
    · refine rve_ok (.num _ ?_)
      obtain ⟨h1, h2⟩ := hv
      split
      · exact ⟨by omega, by omega⟩
      · exact ⟨by omega, by omega⟩
  · rename_i v
    exact rve_ok (.text _ (by unfold mapP; rw [List.length_map]; exact rv_text (h v (by simp))))
  · rename_i v
    exact rve_ok (.text _ (by unfold mapP; rw [List.length_map]; exact rv_text (h v (by simp))))
  · rename_i a b c
    exact rve_ok (.text _ (Nat.le_trans (cutP_len _ _ _) (rv_text (h a (by simp)))))
  · exact rve_err _
theorem callV_rv (f : Int) {l : List Vl} (h : ∀ v ∈ l, RV v) : RvE (callV f l) := by
  unfold callV
  split
  · split
    · exact rve_ok .null
    · exact calledV_rv f h
  · exact rve_err _
theorem finP_rv (k o : Int) {l : List Vl} (h : ∀ v ∈ l, RV v) : RvE (finP k o l) := by
  unfold finP
  split
  · split
    · exact unP_rv _ (h _ (by simp))
    · split
      · exact rve_ok (rv_one _)
      · exact callV_rv _ h
  · split
    · exact binP_rv _ (h _ (by simp)) (h _ (by simp))
    · exact rve_ok (h _ (by simp))
  · exact callV_rv _ h
mutual
/-- All values within are right. -/
def rvX : Ex → Prop
  | .mk _ _ v _ _ _ _ a => RV v ∧ rvXL a
def rvXL : List Ex → Prop
  | [] => True
  | x :: xs => rvX x ∧ rvXL xs
end
theorem rvX_v {x : Ex} (h : rvX x) : RV x.v := by cases x; rw [rvX] at h; exact h.1
theorem rvX_args {x : Ex} (h : rvX x) : rvXL x.args := by cases x; rw [rvX] at h; exact h.2
theorem rvXL_mem : ∀ {l : List Ex}, rvXL l → ∀ x ∈ l, rvX x
  | [], _, x, hx => by cases hx
  | y :: r, h, x, hx => by
    rw [rvXL] at h
    rcases List.mem_cons.mp hx with rfl | hx
    · exact h.1
    · exact rvXL_mem h.2 x hx
/-- The values of operands are right. -/
def RvL : EvL → Prop
  | .err _ => True
  | .dec v => RV v
  | .all l => ∀ v ∈ l, RV v
theorem known_mem {known : List (Ex × Vl)} {x : Ex} {u : Vl} (h : knownV known x = some u) : ∃ q ∈ known, q.2 = u := by
  unfold knownV at h
  rw [Option.map_eq_some_iff] at h
  obtain ⟨q, h1, h2⟩ := h
  exact ⟨q, List.mem_of_find?_eq_some h1, h2⟩
theorem oneE_rv {row : List Vl} (hrow : ∀ v ∈ row, RV v) {x : Ex} (hx : RV x.v) {r : EvL} (hr : RvL r) : RvE (oneE row x r) := by
  unfold oneE
  split
  · exact rve_err _
  · split
    · exact rve_ok hx
    · split
      · exact rve_err _
      · split
        · unfold colV
          split
          · exact rve_err _
          · split
            · rename_i v hv
              exact rve_ok (hrow _ (List.mem_of_getElem? hv))
            · exact rve_err _
        · unfold resL
          cases r with
          | err f => exact rve_err _
          | dec v => exact rve_ok hr
          | all l => exact finP_rv _ _ hr
mutual
theorem evE_rv {row : List Vl} {known : List (Ex × Vl)} (hrow : ∀ v ∈ row, RV v) (hkn : ∀ q ∈ known, RV q.2) : ∀ x : Ex, rvX x → RvE (evE row known x)
  | .mk k o v t n c ty a, h => by
    rw [rvX] at h
    rw [evE]
    split
    · rename_i u hu
      obtain ⟨q, hq, rfl⟩ := known_mem hu
      exact rve_ok (hkn q hq)
    · exact oneE_rv hrow (x := .mk k o v t n c ty a) h.1 (evL_rv hrow hkn a h.2 k o true)
theorem evL_rv {row : List Vl} {known : List (Ex × Vl)} (hrow : ∀ v ∈ row, RV v) (hkn : ∀ q ∈ known, RV q.2) : ∀ l : List Ex, rvXL l → ∀ (k o : Int) (f : Bool), RvL (evL row known k o f l)
  | [], _, k, o, f => by rw [evL]; intro v hv; cases hv
  | x :: xs, h, k, o, f => by
    rw [rvXL] at h
    have h1 := evE_rv hrow hkn x h.1
    have h2 := evL_rv hrow hkn xs h.2 k o false
    rw [evL]
    cases hx : evE row known x with
    | error n => exact trivial
    | ok v =>
      have hv := h1 v hx
      simp only
      split
      · exact hv
      · cases hl : evL row known k o false xs with
        | err f => exact trivial
        | dec u => rw [hl] at h2; exact h2
        | all l =>
          rw [hl] at h2
          intro u hu
          rcases List.mem_cons.mp hu with rfl | hu
          · exact hv
          · exact h2 u hu
end
/-- An error has a number. -/
def NzE (r : Ev) : Prop := ∀ n, r = .error n → ¬ n = 0
theorem nze_err {n : Int} (h : ¬ n = 0) : NzE (.error n) := fun m e => by injection e with e; subst e; exact h
theorem nze_ok (v : Vl) : NzE (.ok v) := fun m e => by cases e
theorem unP_nz (op : Int) (v : Vl) : NzE (unP op v) := by
  unfold unP
  repeat' split
  all_goals first | exact nze_ok _ | exact nze_err (by decide)
theorem sumV_nz (op a b : Int) : NzE (sumV op a b) := by
  unfold sumV sumN numN
  repeat' split
  all_goals first | exact nze_ok _ | (rename_i h; repeat' split at h) 
  all_goals first | (cases h; done) | (injection h with h; subst h; exact nze_err (by decide))
theorem binP_nz (op : Int) (a b : Vl) : NzE (binP op a b) := by
  unfold binP
  repeat' split
  all_goals first | exact nze_ok _ | exact nze_err (by decide) | exact sumV_nz _ _ _
theorem callV_nz (f : Int) (l : List Vl) : NzE (callV f l) := by
  unfold callV calledV
  repeat' split
  all_goals first | exact nze_ok _ | exact nze_err (by decide)
theorem finP_nz (k o : Int) (l : List Vl) : NzE (finP k o l) := by
  unfold finP
  repeat' split
  all_goals first | exact nze_ok _ | exact unP_nz _ _ | exact binP_nz _ _ _ | exact callV_nz _ _
def NzL : EvL → Prop
  | .err n => ¬ n = 0
  | _ => True
theorem oneE_nz {row : List Vl} {x : Ex} {r : EvL} (h : NzL r) : NzE (oneE row x r) := by
  unfold oneE colV
  repeat' split
  all_goals first | exact nze_ok _ | exact nze_err (by decide) | skip
  unfold resL
  cases r with
  | err n => exact nze_err h
  | dec v => exact nze_ok _
  | all l => exact finP_nz _ _ _
mutual
theorem evE_nz (row : List Vl) (known : List (Ex × Vl)) : ∀ x : Ex, NzE (evE row known x)
  | .mk k o v t n c ty a => by
    rw [evE]
    split
    · exact nze_ok _
    · exact oneE_nz (evL_nz row known a k o true)
theorem evL_nz (row : List Vl) (known : List (Ex × Vl)) : ∀ (l : List Ex) (k o : Int) (f : Bool), NzL (evL row known k o f l)
  | [], k, o, f => by rw [evL]; trivial
  | x :: xs, k, o, f => by
    have h1 := evE_nz row known x
    have h2 := evL_nz row known xs k o false
    rw [evL]
    cases hx : evE row known x with
    | error n => exact h1 n hx
    | ok v =>
      simp only
      split
      · trivial
      · cases hl : evL row known k o false xs with
        | err f => rw [hl] at h2; exact h2
        | dec u => trivial
        | all l => trivial
end
end Go.Proofs.Ytinflndbfdbnhaa.Exp

/- quarryref02.Unary. -/
set_option linter.unusedVariables false
set_option linter.unusedSimpArgs false
namespace Go.Proofs.Ytinflndbfdbnhaa.Exp
open Go.RowKit Go.Proofs.Ytinflndbfdbnhaa.Base Go.Proofs.Ytinflndbfdbnhaa.App Go.Proofs.Ytinflndbfdbnhaa.Byt

set_option maxRecDepth 100000 in
set_option maxHeartbeats 3200000 in
theorem ru1_null (w : World) : Calls Try.prog 29 #[.int .i64 1, .agg #[.int .i64 0, .int .i64 0, .string ⟨#[]⟩]] w (Ev2 (.ok vNull) w) := by
  have HX := Asd.mk (blk_alloc (blk_new w (.cells #[.int .i64 0, .int .i64 0, .string ⟨#[]⟩] 23 (0, 0))) zeroV)
  have HZ : Asd (((w.alloc (.cells #[.int .i64 0, .int .i64 0, .string ⟨#[]⟩] 23 (0, 0))).alloc zeroV).heap[w.heap.size + 1]? = some zeroV) := Asd.mk (by
    have h := blk_new (w.alloc (.cells #[.int .i64 0, .int .i64 0, .string ⟨#[]⟩] 23 (0, 0))) zeroV
    rw [show (w.alloc (.cells #[.int .i64 0, .int .i64 0, .string ⟨#[]⟩] 23 (0, 0))).heap.size = w.heap.size + 1 by simp] at h
    exact h)
  have HB : Asd (Below w.heap.size w ((w.alloc (.cells #[.int .i64 0, .int .i64 0, .string ⟨#[]⟩] 23 (0, 0))).alloc zeroV)) := Asd.mk (below_alloc (below_alloc (Below.refl _ _) _) _)
  go_enter Try.func29, Try.ntmps29
  go_upto_region 1 with fail
  generalize (w.alloc (.cells #[.int .i64 0, .int .i64 0, .string ⟨#[]⟩] 23 (0, 0))).alloc zeroV = w1 at HX HZ HB ⊢
  have e0 := (blk_cell HX.out 0).trans rfl
  have e1 := (blk_cell HX.out 1).trans rfl
  have e2 := (blk_cell HX.out 2).trans rfl
  obtain ⟨⟨x0, x1, x2⟩, y0, y1, y2⟩ := zero_cells HZ.out
  go_wp2
  refine val_ret2 rfl (w.heap.size + 1) _ _ _ rfl (put3_blk HZ.out _ _ _) rfl ?_
  exact ⟨below_put3 HB.out (by omega) _ _ _, rfl⟩
set_option maxRecDepth 100000 in
set_option maxHeartbeats 3200000 in
theorem ru1_bool (n : Int) (w : World) : Calls Try.prog 29 #[.int .i64 1, .agg #[.int .i64 1, .int .i64 n, .string ⟨#[]⟩]] w (Ev2 (.error 35) w) := by
  have HX := Asd.mk (blk_alloc (blk_new w (.cells #[.int .i64 1, .int .i64 n, .string ⟨#[]⟩] 23 (0, 0))) zeroV)
  have HZ : Asd (((w.alloc (.cells #[.int .i64 1, .int .i64 n, .string ⟨#[]⟩] 23 (0, 0))).alloc zeroV).heap[w.heap.size + 1]? = some zeroV) := Asd.mk (by
    have h := blk_new (w.alloc (.cells #[.int .i64 1, .int .i64 n, .string ⟨#[]⟩] 23 (0, 0))) zeroV
    rw [show (w.alloc (.cells #[.int .i64 1, .int .i64 n, .string ⟨#[]⟩] 23 (0, 0))).heap.size = w.heap.size + 1 by simp] at h
    exact h)
  have HB : Asd (Below w.heap.size w ((w.alloc (.cells #[.int .i64 1, .int .i64 n, .string ⟨#[]⟩] 23 (0, 0))).alloc zeroV)) := Asd.mk (below_alloc (below_alloc (Below.refl _ _) _) _)
  go_enter Try.func29, Try.ntmps29
  go_upto_region 1 with fail
  generalize (w.alloc (.cells #[.int .i64 1, .int .i64 n, .string ⟨#[]⟩] 23 (0, 0))).alloc zeroV = w1 at HX HZ HB ⊢
  have e0 := (blk_cell HX.out 0).trans rfl
  have e1 := (blk_cell HX.out 1).trans rfl
  have e2 := (blk_cell HX.out 2).trans rfl
  obtain ⟨⟨x0, x1, x2⟩, y0, y1, y2⟩ := zero_cells HZ.out
  go_wp2
  refine val_ret2 rfl (w.heap.size + 1) _ _ _ rfl (put3_blk HZ.out _ _ _) rfl ?_
  exact ⟨below_put3 HB.out (by omega) _ _ _, rfl⟩
set_option maxRecDepth 100000 in
set_option maxHeartbeats 3200000 in
theorem ru1_text (s : List UInt8) (w : World) : Calls Try.prog 29 #[.int .i64 1, .agg #[.int .i64 3, .int .i64 0, .string ⟨s.toArray⟩]] w (Ev2 (.error 35) w) := by
  have HX := Asd.mk (blk_alloc (blk_new w (.cells #[.int .i64 3, .int .i64 0, .string ⟨s.toArray⟩] 23 (0, 0))) zeroV)
  have HZ : Asd (((w.alloc (.cells #[.int .i64 3, .int .i64 0, .string ⟨s.toArray⟩] 23 (0, 0))).alloc zeroV).heap[w.heap.size + 1]? = some zeroV) := Asd.mk (by
    have h := blk_new (w.alloc (.cells #[.int .i64 3, .int .i64 0, .string ⟨s.toArray⟩] 23 (0, 0))) zeroV
    rw [show (w.alloc (.cells #[.int .i64 3, .int .i64 0, .string ⟨s.toArray⟩] 23 (0, 0))).heap.size = w.heap.size + 1 by simp] at h
    exact h)
  have HB : Asd (Below w.heap.size w ((w.alloc (.cells #[.int .i64 3, .int .i64 0, .string ⟨s.toArray⟩] 23 (0, 0))).alloc zeroV)) := Asd.mk (below_alloc (below_alloc (Below.refl _ _) _) _)
  go_enter Try.func29, Try.ntmps29
  go_upto_region 1 with fail
  generalize (w.alloc (.cells #[.int .i64 3, .int .i64 0, .string ⟨s.toArray⟩] 23 (0, 0))).alloc zeroV = w1 at HX HZ HB ⊢
  have e0 := (blk_cell HX.out 0).trans rfl
  have e1 := (blk_cell HX.out 1).trans rfl
  have e2 := (blk_cell HX.out 2).trans rfl
  obtain ⟨⟨x0, x1, x2⟩, y0, y1, y2⟩ := zero_cells HZ.out
  go_wp2
  refine val_ret2 rfl (w.heap.size + 1) _ _ _ rfl (put3_blk HZ.out _ _ _) rfl ?_
  exact ⟨below_put3 HB.out (by omega) _ _ _, rfl⟩
set_option maxRecDepth 100000 in
set_option maxHeartbeats 3200000 in
theorem ru1_blob (s : List UInt8) (w : World) : Calls Try.prog 29 #[.int .i64 1, .agg #[.int .i64 4, .int .i64 0, .string ⟨s.toArray⟩]] w (Ev2 (.error 35) w) := by
  have HX := Asd.mk (blk_alloc (blk_new w (.cells #[.int .i64 4, .int .i64 0, .string ⟨s.toArray⟩] 23 (0, 0))) zeroV)
  have HZ : Asd (((w.alloc (.cells #[.int .i64 4, .int .i64 0, .string ⟨s.toArray⟩] 23 (0, 0))).alloc zeroV).heap[w.heap.size + 1]? = some zeroV) := Asd.mk (by
    have h := blk_new (w.alloc (.cells #[.int .i64 4, .int .i64 0, .string ⟨s.toArray⟩] 23 (0, 0))) zeroV
    rw [show (w.alloc (.cells #[.int .i64 4, .int .i64 0, .string ⟨s.toArray⟩] 23 (0, 0))).heap.size = w.heap.size + 1 by simp] at h
    exact h)
  have HB : Asd (Below w.heap.size w ((w.alloc (.cells #[.int .i64 4, .int .i64 0, .string ⟨s.toArray⟩] 23 (0, 0))).alloc zeroV)) := Asd.mk (below_alloc (below_alloc (Below.refl _ _) _) _)
  go_enter Try.func29, Try.ntmps29
  go_upto_region 1 with fail
  generalize (w.alloc (.cells #[.int .i64 4, .int .i64 0, .string ⟨s.toArray⟩] 23 (0, 0))).alloc zeroV = w1 at HX HZ HB ⊢
  have e0 := (blk_cell HX.out 0).trans rfl
  have e1 := (blk_cell HX.out 1).trans rfl
  have e2 := (blk_cell HX.out 2).trans rfl
  obtain ⟨⟨x0, x1, x2⟩, y0, y1, y2⟩ := zero_cells HZ.out
  go_wp2
  refine val_ret2 rfl (w.heap.size + 1) _ _ _ rfl (put3_blk HZ.out _ _ _) rfl ?_
  exact ⟨below_put3 HB.out (by omega) _ _ _, rfl⟩
set_option maxRecDepth 100000 in
set_option maxHeartbeats 3200000 in
theorem ru2_null (w : World) : Calls Try.prog 29 #[.int .i64 2, .agg #[.int .i64 0, .int .i64 0, .string ⟨#[]⟩]] w (Ev2 (.ok vNull) w) := by
  have HX := Asd.mk (blk_alloc (blk_new w (.cells #[.int .i64 0, .int .i64 0, .string ⟨#[]⟩] 23 (0, 0))) zeroV)
  have HZ : Asd (((w.alloc (.cells #[.int .i64 0, .int .i64 0, .string ⟨#[]⟩] 23 (0, 0))).alloc zeroV).heap[w.heap.size + 1]? = some zeroV) := Asd.mk (by
    have h := blk_new (w.alloc (.cells #[.int .i64 0, .int .i64 0, .string ⟨#[]⟩] 23 (0, 0))) zeroV
    rw [show (w.alloc (.cells #[.int .i64 0, .int .i64 0, .string ⟨#[]⟩] 23 (0, 0))).heap.size = w.heap.size + 1 by simp] at h
    exact h)
  have HB : Asd (Below w.heap.size w ((w.alloc (.cells #[.int .i64 0, .int .i64 0, .string ⟨#[]⟩] 23 (0, 0))).alloc zeroV)) := Asd.mk (below_alloc (below_alloc (Below.refl _ _) _) _)
  go_enter Try.func29, Try.ntmps29
  go_upto_region 1 with fail
  generalize (w.alloc (.cells #[.int .i64 0, .int .i64 0, .string ⟨#[]⟩] 23 (0, 0))).alloc zeroV = w1 at HX HZ HB ⊢
  have e0 := (blk_cell HX.out 0).trans rfl
  have e1 := (blk_cell HX.out 1).trans rfl
  have e2 := (blk_cell HX.out 2).trans rfl
  obtain ⟨⟨x0, x1, x2⟩, y0, y1, y2⟩ := zero_cells HZ.out
  go_wp2
  refine val_ret2 rfl (w.heap.size + 1) _ _ _ rfl (put3_blk HZ.out _ _ _) rfl ?_
  exact ⟨below_put3 HB.out (by omega) _ _ _, rfl⟩
set_option maxRecDepth 100000 in
set_option maxHeartbeats 3200000 in
theorem ru2_num (n : Int) (w : World) : Calls Try.prog 29 #[.int .i64 2, .agg #[.int .i64 2, .int .i64 n, .string ⟨#[]⟩]] w (Ev2 (.error 35) w) := by
  have HX := Asd.mk (blk_alloc (blk_new w (.cells #[.int .i64 2, .int .i64 n, .string ⟨#[]⟩] 23 (0, 0))) zeroV)
  have HZ : Asd (((w.alloc (.cells #[.int .i64 2, .int .i64 n, .string ⟨#[]⟩] 23 (0, 0))).alloc zeroV).heap[w.heap.size + 1]? = some zeroV) := Asd.mk (by
    have h := blk_new (w.alloc (.cells #[.int .i64 2, .int .i64 n, .string ⟨#[]⟩] 23 (0, 0))) zeroV
    rw [show (w.alloc (.cells #[.int .i64 2, .int .i64 n, .string ⟨#[]⟩] 23 (0, 0))).heap.size = w.heap.size + 1 by simp] at h
    exact h)
  have HB : Asd (Below w.heap.size w ((w.alloc (.cells #[.int .i64 2, .int .i64 n, .string ⟨#[]⟩] 23 (0, 0))).alloc zeroV)) := Asd.mk (below_alloc (below_alloc (Below.refl _ _) _) _)
  go_enter Try.func29, Try.ntmps29
  go_upto_region 1 with fail
  generalize (w.alloc (.cells #[.int .i64 2, .int .i64 n, .string ⟨#[]⟩] 23 (0, 0))).alloc zeroV = w1 at HX HZ HB ⊢
  have e0 := (blk_cell HX.out 0).trans rfl
  have e1 := (blk_cell HX.out 1).trans rfl
  have e2 := (blk_cell HX.out 2).trans rfl
  obtain ⟨⟨x0, x1, x2⟩, y0, y1, y2⟩ := zero_cells HZ.out
  go_wp2
  refine val_ret2 rfl (w.heap.size + 1) _ _ _ rfl (put3_blk HZ.out _ _ _) rfl ?_
  exact ⟨below_put3 HB.out (by omega) _ _ _, rfl⟩
set_option maxRecDepth 100000 in
set_option maxHeartbeats 3200000 in
theorem ru2_text (s : List UInt8) (w : World) : Calls Try.prog 29 #[.int .i64 2, .agg #[.int .i64 3, .int .i64 0, .string ⟨s.toArray⟩]] w (Ev2 (.error 35) w) := by
  have HX := Asd.mk (blk_alloc (blk_new w (.cells #[.int .i64 3, .int .i64 0, .string ⟨s.toArray⟩] 23 (0, 0))) zeroV)
  have HZ : Asd (((w.alloc (.cells #[.int .i64 3, .int .i64 0, .string ⟨s.toArray⟩] 23 (0, 0))).alloc zeroV).heap[w.heap.size + 1]? = some zeroV) := Asd.mk (by
    have h := blk_new (w.alloc (.cells #[.int .i64 3, .int .i64 0, .string ⟨s.toArray⟩] 23 (0, 0))) zeroV
    rw [show (w.alloc (.cells #[.int .i64 3, .int .i64 0, .string ⟨s.toArray⟩] 23 (0, 0))).heap.size = w.heap.size + 1 by simp] at h
    exact h)
  have HB : Asd (Below w.heap.size w ((w.alloc (.cells #[.int .i64 3, .int .i64 0, .string ⟨s.toArray⟩] 23 (0, 0))).alloc zeroV)) := Asd.mk (below_alloc (below_alloc (Below.refl _ _) _) _)
  go_enter Try.func29, Try.ntmps29
  go_upto_region 1 with fail
  generalize (w.alloc (.cells #[.int .i64 3, .int .i64 0, .string ⟨s.toArray⟩] 23 (0, 0))).alloc zeroV = w1 at HX HZ HB ⊢
  have e0 := (blk_cell HX.out 0).trans rfl
  have e1 := (blk_cell HX.out 1).trans rfl
  have e2 := (blk_cell HX.out 2).trans rfl
  obtain ⟨⟨x0, x1, x2⟩, y0, y1, y2⟩ := zero_cells HZ.out
  go_wp2
  refine val_ret2 rfl (w.heap.size + 1) _ _ _ rfl (put3_blk HZ.out _ _ _) rfl ?_
  exact ⟨below_put3 HB.out (by omega) _ _ _, rfl⟩
set_option maxRecDepth 100000 in
set_option maxHeartbeats 3200000 in
theorem ru2_blob (s : List UInt8) (w : World) : Calls Try.prog 29 #[.int .i64 2, .agg #[.int .i64 4, .int .i64 0, .string ⟨s.toArray⟩]] w (Ev2 (.error 35) w) := by
  have HX := Asd.mk (blk_alloc (blk_new w (.cells #[.int .i64 4, .int .i64 0, .string ⟨s.toArray⟩] 23 (0, 0))) zeroV)
  have HZ : Asd (((w.alloc (.cells #[.int .i64 4, .int .i64 0, .string ⟨s.toArray⟩] 23 (0, 0))).alloc zeroV).heap[w.heap.size + 1]? = some zeroV) := Asd.mk (by
    have h := blk_new (w.alloc (.cells #[.int .i64 4, .int .i64 0, .string ⟨s.toArray⟩] 23 (0, 0))) zeroV
    rw [show (w.alloc (.cells #[.int .i64 4, .int .i64 0, .string ⟨s.toArray⟩] 23 (0, 0))).heap.size = w.heap.size + 1 by simp] at h
    exact h)
  have HB : Asd (Below w.heap.size w ((w.alloc (.cells #[.int .i64 4, .int .i64 0, .string ⟨s.toArray⟩] 23 (0, 0))).alloc zeroV)) := Asd.mk (below_alloc (below_alloc (Below.refl _ _) _) _)
  go_enter Try.func29, Try.ntmps29
  go_upto_region 1 with fail
  generalize (w.alloc (.cells #[.int .i64 4, .int .i64 0, .string ⟨s.toArray⟩] 23 (0, 0))).alloc zeroV = w1 at HX HZ HB ⊢
  have e0 := (blk_cell HX.out 0).trans rfl
  have e1 := (blk_cell HX.out 1).trans rfl
  have e2 := (blk_cell HX.out 2).trans rfl
  obtain ⟨⟨x0, x1, x2⟩, y0, y1, y2⟩ := zero_cells HZ.out
  go_wp2
  refine val_ret2 rfl (w.heap.size + 1) _ _ _ rfl (put3_blk HZ.out _ _ _) rfl ?_
  exact ⟨below_put3 HB.out (by omega) _ _ _, rfl⟩
set_option maxRecDepth 100000 in
set_option maxHeartbeats 3200000 in
theorem ru2_t (w : World) : Calls Try.prog 29 #[.int .i64 2, .agg #[.int .i64 1, .int .i64 1, .string ⟨#[]⟩]] w (Ev2 (.ok (vTru false)) w) := by
  have HX := Asd.mk (blk_alloc (blk_new w (.cells #[.int .i64 1, .int .i64 1, .string ⟨#[]⟩] 23 (0, 0))) zeroV)
  have HZ : Asd (((w.alloc (.cells #[.int .i64 1, .int .i64 1, .string ⟨#[]⟩] 23 (0, 0))).alloc zeroV).heap[w.heap.size + 1]? = some zeroV) := Asd.mk (by
    have h := blk_new (w.alloc (.cells #[.int .i64 1, .int .i64 1, .string ⟨#[]⟩] 23 (0, 0))) zeroV
    rw [show (w.alloc (.cells #[.int .i64 1, .int .i64 1, .string ⟨#[]⟩] 23 (0, 0))).heap.size = w.heap.size + 1 by simp] at h
    exact h)
  have HB : Asd (Below w.heap.size w ((w.alloc (.cells #[.int .i64 1, .int .i64 1, .string ⟨#[]⟩] 23 (0, 0))).alloc zeroV)) := Asd.mk (below_alloc (below_alloc (Below.refl _ _) _) _)
  go_enter Try.func29, Try.ntmps29
  go_upto_region 1 with fail
  generalize (w.alloc (.cells #[.int .i64 1, .int .i64 1, .string ⟨#[]⟩] 23 (0, 0))).alloc zeroV = w1 at HX HZ HB ⊢
  have e0 := (blk_cell HX.out 0).trans rfl
  have e1 := (blk_cell HX.out 1).trans rfl
  have e2 := (blk_cell HX.out 2).trans rfl
  obtain ⟨⟨x0, x1, x2⟩, y0, y1, y2⟩ := zero_cells HZ.out
  go_wp2_with fail
  refine (rtruth_calls false _).mono ?_
  rintro e w2 ⟨rfl, hb2⟩
  have HB2 := Asd.mk (below_step HB.out hb2)
  have HZ2 := Asd.mk (blk_below hb2 HZ.out)
  clear e0 e1 e2 x0 x1 x2 y0 y1 y2 hb2
  obtain ⟨⟨x0, x1, x2⟩, y0, y1, y2⟩ := zero_cells HZ2.out
  unfold vC
  go_wp2
  refine val_ret2 rfl (w.heap.size + 1) _ _ _ rfl (put3_blk HZ2.out _ _ _) rfl ?_
  exact ⟨below_put3 HB2.out (by omega) _ _ _, rfl⟩
set_option maxRecDepth 100000 in
set_option maxHeartbeats 3200000 in
theorem ru2_f (w : World) : Calls Try.prog 29 #[.int .i64 2, .agg #[.int .i64 1, .int .i64 0, .string ⟨#[]⟩]] w (Ev2 (.ok (vTru true)) w) := by
  have HX := Asd.mk (blk_alloc (blk_new w (.cells #[.int .i64 1, .int .i64 0, .string ⟨#[]⟩] 23 (0, 0))) zeroV)
  have HZ : Asd (((w.alloc (.cells #[.int .i64 1, .int .i64 0, .string ⟨#[]⟩] 23 (0, 0))).alloc zeroV).heap[w.heap.size + 1]? = some zeroV) := Asd.mk (by
    have h := blk_new (w.alloc (.cells #[.int .i64 1, .int .i64 0, .string ⟨#[]⟩] 23 (0, 0))) zeroV
    rw [show (w.alloc (.cells #[.int .i64 1, .int .i64 0, .string ⟨#[]⟩] 23 (0, 0))).heap.size = w.heap.size + 1 by simp] at h
    exact h)
  have HB : Asd (Below w.heap.size w ((w.alloc (.cells #[.int .i64 1, .int .i64 0, .string ⟨#[]⟩] 23 (0, 0))).alloc zeroV)) := Asd.mk (below_alloc (below_alloc (Below.refl _ _) _) _)
  go_enter Try.func29, Try.ntmps29
  go_upto_region 1 with fail
  generalize (w.alloc (.cells #[.int .i64 1, .int .i64 0, .string ⟨#[]⟩] 23 (0, 0))).alloc zeroV = w1 at HX HZ HB ⊢
  have e0 := (blk_cell HX.out 0).trans rfl
  have e1 := (blk_cell HX.out 1).trans rfl
  have e2 := (blk_cell HX.out 2).trans rfl
  obtain ⟨⟨x0, x1, x2⟩, y0, y1, y2⟩ := zero_cells HZ.out
  go_wp2_with fail
  refine (rtruth_calls true _).mono ?_
  rintro e w2 ⟨rfl, hb2⟩
  have HB2 := Asd.mk (below_step HB.out hb2)
  have HZ2 := Asd.mk (blk_below hb2 HZ.out)
  clear e0 e1 e2 x0 x1 x2 y0 y1 y2 hb2
  obtain ⟨⟨x0, x1, x2⟩, y0, y1, y2⟩ := zero_cells HZ2.out
  unfold vC
  go_wp2
  refine val_ret2 rfl (w.heap.size + 1) _ _ _ rfl (put3_blk HZ2.out _ _ _) rfl ?_
  exact ⟨below_put3 HB2.out (by omega) _ _ _, rfl⟩
set_option maxRecDepth 100000 in
set_option maxHeartbeats 3200000 in
theorem ru1_least (w : World) : Calls Try.prog 29 #[.int .i64 1, .agg #[.int .i64 2, .int .i64 (-9223372036854775808), .string ⟨#[]⟩]] w (Ev2 (.error 40) w) := by
  have HX := Asd.mk (blk_alloc (blk_new w (.cells #[.int .i64 2, .int .i64 (-9223372036854775808), .string ⟨#[]⟩] 23 (0, 0))) zeroV)
  have HZ : Asd (((w.alloc (.cells #[.int .i64 2, .int .i64 (-9223372036854775808), .string ⟨#[]⟩] 23 (0, 0))).alloc zeroV).heap[w.heap.size + 1]? = some zeroV) := Asd.mk (by
    have h := blk_new (w.alloc (.cells #[.int .i64 2, .int .i64 (-9223372036854775808), .string ⟨#[]⟩] 23 (0, 0))) zeroV
    rw [show (w.alloc (.cells #[.int .i64 2, .int .i64 (-9223372036854775808), .string ⟨#[]⟩] 23 (0, 0))).heap.size = w.heap.size + 1 by simp] at h
    exact h)
  have HB : Asd (Below w.heap.size w ((w.alloc (.cells #[.int .i64 2, .int .i64 (-9223372036854775808), .string ⟨#[]⟩] 23 (0, 0))).alloc zeroV)) := Asd.mk (below_alloc (below_alloc (Below.refl _ _) _) _)
  go_enter Try.func29, Try.ntmps29
  go_upto_region 1 with fail
  generalize (w.alloc (.cells #[.int .i64 2, .int .i64 (-9223372036854775808), .string ⟨#[]⟩] 23 (0, 0))).alloc zeroV = w1 at HX HZ HB ⊢
  have e0 := (blk_cell HX.out 0).trans rfl
  have e1 := (blk_cell HX.out 1).trans rfl
  have e2 := (blk_cell HX.out 2).trans rfl
  obtain ⟨⟨x0, x1, x2⟩, y0, y1, y2⟩ := zero_cells HZ.out
  go_wp2
  refine val_ret2 rfl (w.heap.size + 1) _ _ _ rfl (put3_blk HZ.out _ _ _) rfl ?_
  exact ⟨below_put3 HB.out (by omega) _ _ _, rfl⟩
set_option maxRecDepth 100000 in
set_option maxHeartbeats 3200000 in
theorem ru1_num (n : Int) (h : ¬ n = -9223372036854775808) (hi : inI n) (w : World) : Calls Try.prog 29 #[.int .i64 1, .agg #[.int .i64 2, .int .i64 n, .string ⟨#[]⟩]] w (Ev2 (.ok (vNum (-n))) w) := by
  have hw : IntKind.i64.wrap (-n) = -n := by unfold inI at hi; rw [IntKind.wrap_i64]; omega
  have hb : (n == -9223372036854775808) = false := by simp [h]
  clear hi
  have HX := Asd.mk (blk_alloc (blk_new w (.cells #[.int .i64 2, .int .i64 n, .string ⟨#[]⟩] 23 (0, 0))) zeroV)
  have HZ : Asd (((w.alloc (.cells #[.int .i64 2, .int .i64 n, .string ⟨#[]⟩] 23 (0, 0))).alloc zeroV).heap[w.heap.size + 1]? = some zeroV) := Asd.mk (by
    have h := blk_new (w.alloc (.cells #[.int .i64 2, .int .i64 n, .string ⟨#[]⟩] 23 (0, 0))) zeroV
    rw [show (w.alloc (.cells #[.int .i64 2, .int .i64 n, .string ⟨#[]⟩] 23 (0, 0))).heap.size = w.heap.size + 1 by simp] at h
    exact h)
  have HB : Asd (Below w.heap.size w ((w.alloc (.cells #[.int .i64 2, .int .i64 n, .string ⟨#[]⟩] 23 (0, 0))).alloc zeroV)) := Asd.mk (below_alloc (below_alloc (Below.refl _ _) _) _)
  go_enter Try.func29, Try.ntmps29
  go_upto_region 1 with fail
  generalize (w.alloc (.cells #[.int .i64 2, .int .i64 n, .string ⟨#[]⟩] 23 (0, 0))).alloc zeroV = w1 at HX HZ HB ⊢
  have e0 := (blk_cell HX.out 0).trans rfl
  have e1 := (blk_cell HX.out 1).trans rfl
  have e2 := (blk_cell HX.out 2).trans rfl
  obtain ⟨⟨x0, x1, x2⟩, y0, y1, y2⟩ := zero_cells HZ.out
  go_wp2_with fail
  refine (rnum_calls (-n) _).mono ?_
  rintro e w2 ⟨rfl, hb2⟩
  have HB2 := Asd.mk (below_step HB.out hb2)
  have HZ2 := Asd.mk (blk_below hb2 HZ.out)
  clear e0 e1 e2 x0 x1 x2 y0 y1 y2 hb2
  obtain ⟨⟨x0, x1, x2⟩, y0, y1, y2⟩ := zero_cells HZ2.out
  unfold vC
  go_wp2
  refine val_ret2 rfl (w.heap.size + 1) _ _ _ rfl (put3_blk HZ2.out _ _ _) rfl ?_
  exact ⟨below_put3 HB2.out (by omega) _ _ _, rfl⟩
theorem runary_calls (op : Int) (ho : op = 1 ∨ op = 2) {v : Vl} (hv : RV v) (w : World) : Calls Try.prog 29 #[.int .i64 op, vC v] w (Ev2 (unP op v) w) := by
  rcases ho with rfl | rfl
  · cases hv with
    | null => exact ru1_null w
    | bool b => exact ru1_bool _ w
    | num n h =>
      by_cases hl : n = -9223372036854775808
      · subst hl; exact ru1_least w
      · have e : unP 1 (vNum n) = .ok (vNum (-n)) := by simp [unP, vNum, hl]
        rw [e]
        exact ru1_num n hl h w
    | text s h => exact ru1_text s w
    | blob s h => exact ru1_blob s w
  · cases hv with
    | null => exact ru2_null w
    | bool b => cases b
                · exact ru2_f w
                · exact ru2_t w
    | num n h => exact ru2_num n w
    | text s h => exact ru2_text s w
    | blob s h => exact ru2_blob s w
end Go.Proofs.Ytinflndbfdbnhaa.Exp

/- calc: wants, compared, True, logic. -/
set_option linter.unusedVariables false
set_option linter.unusedSimpArgs false
namespace Go.Proofs.Ytinflndbfdbnhaa.Exp
open Go.RowKit Go.Proofs.Ytinflndbfdbnhaa.Base Go.Proofs.Ytinflndbfdbnhaa.App Go.Proofs.Ytinflndbfdbnhaa.Byt

theorem wants_bool (op : Int) (h : op ≤ 4) (w : World) : Calls Try.prog 60 #[.int .i64 op] w fun e w' => e = .returned (.int .i64 1) ∧ w' = w := by
  go_enter Try.func60, Try.ntmps60
  go_wp2
  go_ret
  exact ⟨rfl, rfl⟩
theorem wants_any (op : Int) (h4 : ¬ op ≤ 4) (h : op ≤ 10) (w : World) : Calls Try.prog 60 #[.int .i64 op] w fun e w' => e = .returned (.int .i64 0) ∧ w' = w := by
  go_enter Try.func60, Try.ntmps60
  go_wp2
  go_ret
  exact ⟨rfl, rfl⟩
theorem wants_text (w : World) : Calls Try.prog 60 #[.int .i64 16] w fun e w' => e = .returned (.int .i64 3) ∧ w' = w := by
  go_enter Try.func60, Try.ntmps60
  go_wp2
  go_ret
  exact ⟨rfl, rfl⟩
theorem wants_int (op : Int) (h4 : ¬ op ≤ 4) (h : ¬ op ≤ 10) (h6 : ¬ op = 16) (w : World) : Calls Try.prog 60 #[.int .i64 op] w fun e w' => e = .returned (.int .i64 2) ∧ w' = w := by
  go_enter Try.func60, Try.ntmps60
  go_wp2
  go_ret
  exact ⟨rfl, rfl⟩
set_option maxRecDepth 100000 in
theorem compared_calls (op c : Int) (h : 5 ≤ op) (h' : op ≤ 10) (w : World) : Calls Try.prog 62 #[.int .i64 op, .int .i64 c] w fun e w' => e = .returned (.bool (holdP op c)) ∧ w' = w := by
  have hc : op = 5 ∨ op = 6 ∨ op = 7 ∨ op = 8 ∨ op = 9 ∨ op = 10 := by omega
  clear h h'
  rcases hc with rfl | rfl | rfl | rfl | rfl | rfl
  all_goals
    go_enter Try.func62, Try.ntmps62
    go_wp2
    go_ret
    exact ⟨ret_eq (by simp [holdP]), rfl⟩
theorem vC_eql (a b : Vl) (W : World) : (binOp .eql 23 (vC a) (vC b)).run Try.prog W = .ok (.bool (eqV a b)) W := by unfold vC; rw [val_eql, tl_eq]; rfl
set_option maxRecDepth 100000 in
set_option maxHeartbeats 1600000 in
theorem true_n (n : Int) (b : Bool) (w : World) (hve : ∀ W, (binOp .eql 23 (.agg #[.int .i64 1, .int .i64 n, .string ⟨#[]⟩]) (.agg #[.int .i64 1, .int .i64 1, .string ⟨#[]⟩])).run Try.prog W = .ok (.bool b) W) :
    Calls Try.prog 107 #[.agg #[.int .i64 1, .int .i64 n, .string ⟨#[]⟩]] w fun e w' => e = .returned (.bool b) ∧ Below w.heap.size w w' := by
  have HX := Asd.mk (blk_new w (vK ⟨1, n, []⟩))
  have HB : Asd (Below w.heap.size w (w.alloc (vK ⟨1, n, []⟩))) := Asd.mk (below_alloc (Below.refl _ _) _)
  go_enter Try.func107, Try.ntmps107
  go_upto_region 1 with fail
  generalize w.alloc _ = w1 at HX HB ⊢
  have HS : Asd (∀ w', Below w1.heap.size w1 w' → w'.cell? ⟨w.heap.size, 0, none⟩ = some (.int .i64 1) ∧ w'.cell? ⟨w.heap.size, 1, none⟩ = some (.int .i64 n) ∧ w'.cell? ⟨w.heap.size, 2, none⟩ = some (.string ⟨#[]⟩) ∧ Below w1.heap.size w1 w') := Asd.mk fun w' hb => ⟨(val_cells (blk_below hb HX.out)).1, (val_cells (blk_below hb HX.out)).2.1, (val_cells (blk_below hb HX.out)).2.2, hb⟩
  go_region_held3 (fun w' => w'.cell? ⟨w.heap.size, 0, none⟩ = some (.int .i64 1) ∧ w'.cell? ⟨w.heap.size, 1, none⟩ = some (.int .i64 n) ∧ w'.cell? ⟨w.heap.size, 2, none⟩ = some (.string ⟨#[]⟩) ∧ Below w1.heap.size w1 w')
    (first
      | exact HS.out _ (Below.refl _ _)
      | exact HS.out _ (Below.refl _ _).drew
      | exact HS.out _ HB2.out
      | (go_split_ands; exact HS.out _ (by assumption))
      | fail)
    (first
      | (go_at_call_of 57 (Value.bool true)
         refine (truth_calls true _).mono ?_
         rintro e w2 ⟨rfl, hb2⟩
         have HB2 : Asd (Below w1.heap.size w1 w2) := Asd.mk ((Below.refl w1.heap.size w1).drew.trans hb2)
         unfold vC vTru
         simp only [if_true])
      | fail)
  go_wp2
  go_ret
  exact ⟨rfl, HB.out.trans (HB2.out.mono HB.out.size)⟩
theorem true_calls (b : Bool) (w : World) : Calls Try.prog 107 #[vC (vTru b)] w fun e w' => e = .returned (.bool b) ∧ Below w.heap.size w w' :=
  true_n (if b then 1 else 0) b w fun W => by
    have := vC_eql (vTru b) (vTru true) W
    rw [show eqV (vTru b) (vTru true) = b by cases b <;> rfl] at this
    exact this
/-- The blocks of logic's operands. -/
structure LogW (W : World) (B : Nat) (a b s : Vl) : Prop where
  a : W.heap[B]? = some (vK a)
  b : W.heap[B + 1]? = some (vK b)
  s : W.heap[B + 1 + 1]? = some (vK s)
  r : W.heap[B + 1 + 1 + 1]? = some zeroV
theorem logw_new (w : World) (a b s : Vl) : LogW ((((w.alloc (vK a)).alloc (vK b)).alloc (vK s)).alloc zeroV) w.heap.size a b s :=
  ⟨blk_alloc (blk_alloc (blk_alloc (blk_new w _) _) _) _, blk_alloc (blk_alloc (nb1 w _ _) _) _, blk_alloc (nb2 w _ _ _) _, nb3 w _ _ _ _⟩
set_option maxRecDepth 100000 in
set_option maxHeartbeats 1600000 in
theorem logic_a (a b s : Vl) (w : World) (h1 : eqV a s = true) :
    Calls Try.prog 61 #[vC a, vC b, vC s] w fun e w' => e = .returned (vC s) ∧ Below w.heap.size w w' := by
  have HL := Asd.mk (logw_new w a b s)
  have HB : Asd (Below w.heap.size w ((((w.alloc (vK a)).alloc (vK b)).alloc (vK s)).alloc zeroV)) := Asd.mk (below_alloc (below_alloc (below_alloc (below_alloc (Below.refl _ _) _) _) _) _)
  have hv1 : ∀ W, (binOp .eql 23 (vC a) (vC s)).run Try.prog W = .ok (.bool true) W := fun W => by rw [vC_eql, h1]
  clear h1
  unfold vC at *
  go_enter Try.func61, Try.ntmps61
  go_upto_region 1 with fail
  generalize (((w.alloc (vK a)).alloc (vK b)).alloc (vK s)).alloc zeroV = w1 at HL HB ⊢
  obtain ⟨a0, a1, a2⟩ := val_cells HL.out.a
  obtain ⟨b0, b1, b2⟩ := val_cells HL.out.b
  obtain ⟨s0, s1, s2⟩ := val_cells HL.out.s
  obtain ⟨⟨x0, x1, x2⟩, y0, y1, y2⟩ := zero_cells HL.out.r
  go_wp2
  refine val_ret rfl (w.heap.size + 1 + 1 + 1) _ _ _ rfl (put3_blk HL.out.r _ _ _) rfl ?_
  exact ⟨rfl, below_put3 HB.out (by omega) _ _ _⟩
set_option maxRecDepth 100000 in
set_option maxHeartbeats 1600000 in
theorem logic_b (a b s : Vl) (w : World) (h1 : eqV a s = false) (h2 : eqV b s = true) :
    Calls Try.prog 61 #[vC a, vC b, vC s] w fun e w' => e = .returned (vC s) ∧ Below w.heap.size w w' := by
  have HL := Asd.mk (logw_new w a b s)
  have HB : Asd (Below w.heap.size w ((((w.alloc (vK a)).alloc (vK b)).alloc (vK s)).alloc zeroV)) := Asd.mk (below_alloc (below_alloc (below_alloc (below_alloc (Below.refl _ _) _) _) _) _)
  have hv1 : ∀ W, (binOp .eql 23 (vC a) (vC s)).run Try.prog W = .ok (.bool false) W := fun W => by rw [vC_eql, h1]
  have hv2 : ∀ W, (binOp .eql 23 (vC b) (vC s)).run Try.prog W = .ok (.bool true) W := fun W => by rw [vC_eql, h2]
  clear h2
  clear h1
  unfold vC at *
  go_enter Try.func61, Try.ntmps61
  go_upto_region 1 with fail
  generalize (((w.alloc (vK a)).alloc (vK b)).alloc (vK s)).alloc zeroV = w1 at HL HB ⊢
  obtain ⟨a0, a1, a2⟩ := val_cells HL.out.a
  obtain ⟨b0, b1, b2⟩ := val_cells HL.out.b
  obtain ⟨s0, s1, s2⟩ := val_cells HL.out.s
  obtain ⟨⟨x0, x1, x2⟩, y0, y1, y2⟩ := zero_cells HL.out.r
  go_wp2
  refine val_ret rfl (w.heap.size + 1 + 1 + 1) _ _ _ rfl (put3_blk HL.out.r _ _ _) rfl ?_
  exact ⟨rfl, below_put3 HB.out (by omega) _ _ _⟩
set_option maxRecDepth 100000 in
set_option maxHeartbeats 1600000 in
theorem logic_an (i : Int) (t : List UInt8) (b s : Vl) (w : World) (h1 : eqV ⟨0, i, t⟩ s = false) (h2 : eqV b s = false) :
    Calls Try.prog 61 #[vC ⟨0, i, t⟩, vC b, vC s] w fun e w' => e = .returned (vC vNull) ∧ Below w.heap.size w w' := by
  have HL := Asd.mk (logw_new w ⟨0, i, t⟩ b s)
  have HB : Asd (Below w.heap.size w ((((w.alloc (vK ⟨0, i, t⟩)).alloc (vK b)).alloc (vK s)).alloc zeroV)) := Asd.mk (below_alloc (below_alloc (below_alloc (below_alloc (Below.refl _ _) _) _) _) _)
  have hv1 : ∀ W, (binOp .eql 23 (vC ⟨0, i, t⟩) (vC s)).run Try.prog W = .ok (.bool false) W := fun W => by rw [vC_eql, h1]
  have hv2 : ∀ W, (binOp .eql 23 (vC b) (vC s)).run Try.prog W = .ok (.bool false) W := fun W => by rw [vC_eql, h2]
  clear h2
  clear h1
  unfold vC at *
  go_enter Try.func61, Try.ntmps61
  go_upto_region 1 with fail
  generalize (((w.alloc (vK ⟨0, i, t⟩)).alloc (vK b)).alloc (vK s)).alloc zeroV = w1 at HL HB ⊢
  obtain ⟨a0, a1, a2⟩ := val_cells HL.out.a
  obtain ⟨b0, b1, b2⟩ := val_cells HL.out.b
  obtain ⟨s0, s1, s2⟩ := val_cells HL.out.s
  obtain ⟨⟨x0, x1, x2⟩, y0, y1, y2⟩ := zero_cells HL.out.r
  go_wp2
  refine val_ret rfl (w.heap.size + 1 + 1 + 1) _ _ _ rfl (put3_blk HL.out.r _ _ _) rfl ?_
  exact ⟨rfl, below_put3 HB.out (by omega) _ _ _⟩
set_option maxRecDepth 100000 in
set_option maxHeartbeats 1600000 in
theorem logic_bn (a : Vl) (i : Int) (t : List UInt8) (s : Vl) (w : World) (h1 : eqV a s = false) (h2 : eqV ⟨0, i, t⟩ s = false) (h : ¬ a.kind = 0) :
    Calls Try.prog 61 #[vC a, vC ⟨0, i, t⟩, vC s] w fun e w' => e = .returned (vC vNull) ∧ Below w.heap.size w w' := by
  have HL := Asd.mk (logw_new w a ⟨0, i, t⟩ s)
  have HB : Asd (Below w.heap.size w ((((w.alloc (vK a)).alloc (vK ⟨0, i, t⟩)).alloc (vK s)).alloc zeroV)) := Asd.mk (below_alloc (below_alloc (below_alloc (below_alloc (Below.refl _ _) _) _) _) _)
  have hv1 : ∀ W, (binOp .eql 23 (vC a) (vC s)).run Try.prog W = .ok (.bool false) W := fun W => by rw [vC_eql, h1]
  have hv2 : ∀ W, (binOp .eql 23 (vC ⟨0, i, t⟩) (vC s)).run Try.prog W = .ok (.bool false) W := fun W => by rw [vC_eql, h2]
  clear h2
  clear h1
  unfold vC at *
  go_enter Try.func61, Try.ntmps61
  go_upto_region 1 with fail
  generalize (((w.alloc (vK a)).alloc (vK ⟨0, i, t⟩)).alloc (vK s)).alloc zeroV = w1 at HL HB ⊢
  obtain ⟨a0, a1, a2⟩ := val_cells HL.out.a
  obtain ⟨b0, b1, b2⟩ := val_cells HL.out.b
  obtain ⟨s0, s1, s2⟩ := val_cells HL.out.s
  obtain ⟨⟨x0, x1, x2⟩, y0, y1, y2⟩ := zero_cells HL.out.r
  go_wp2
  refine val_ret rfl (w.heap.size + 1 + 1 + 1) _ _ _ rfl (put3_blk HL.out.r _ _ _) rfl ?_
  exact ⟨rfl, below_put3 HB.out (by omega) _ _ _⟩
set_option maxRecDepth 100000 in
set_option maxHeartbeats 1600000 in
theorem logic_no (a b : Vl) (or : Bool) (w : World) (h1 : eqV a (vTru or) = false) (h2 : eqV b (vTru or) = false) (h : ¬ a.kind = 0) (h' : ¬ b.kind = 0) :
    Calls Try.prog 61 #[vC a, vC b, vC (vTru or)] w fun e w' => e = .returned (vC (vTru (!or))) ∧ Below w.heap.size w w' := by
  have HT := Asd.mk (true_calls or)
  have HN := Asd.mk (truth_calls (!or))
  generalize hs : vTru or = s at *
  clear hs
  have HL := Asd.mk (logw_new w a b s)
  have HB : Asd (Below w.heap.size w ((((w.alloc (vK a)).alloc (vK b)).alloc (vK s)).alloc zeroV)) := Asd.mk (below_alloc (below_alloc (below_alloc (below_alloc (Below.refl _ _) _) _) _) _)
  have hv1 : ∀ W, (binOp .eql 23 (vC a) (vC s)).run Try.prog W = .ok (.bool false) W := fun W => by rw [vC_eql, h1]
  have hv2 : ∀ W, (binOp .eql 23 (vC b) (vC s)).run Try.prog W = .ok (.bool false) W := fun W => by rw [vC_eql, h2]
  have hk : (a.kind == 0) = false := by simpa using h
  have hk' : (b.kind == 0) = false := by simpa using h'
  clear h1 h2 h h'
  unfold vC at *
  go_enter Try.func61, Try.ntmps61
  go_upto_region 1 with fail
  generalize (((w.alloc (vK a)).alloc (vK b)).alloc (vK s)).alloc zeroV = w1 at HL HB ⊢
  obtain ⟨a0, a1, a2⟩ := val_cells HL.out.a
  obtain ⟨b0, b1, b2⟩ := val_cells HL.out.b
  obtain ⟨s0, s1, s2⟩ := val_cells HL.out.s
  go_wp2_with fail
  refine (HT.out _).mono ?_
  rintro e w2 ⟨rfl, hb2⟩
  have HB2 : Asd (Below w.heap.size w w2) := Asd.mk (HB.out.trans (hb2.mono HB.out.size))
  have HR2 := Asd.mk (blk_below hb2 HL.out.r)
  clear a0 a1 a2 b0 b1 b2 s0 s1 s2 hb2
  go_wp2_with fail
  refine (HN.out _).mono ?_
  rintro e w3 ⟨rfl, hb3⟩
  have HB3 : Asd (Below w.heap.size w w3) := Asd.mk (HB2.out.trans (hb3.mono HB2.out.size))
  have HR3 := Asd.mk (blk_below hb3 HR2.out)
  obtain ⟨⟨x0, x1, x2⟩, y0, y1, y2⟩ := zero_cells HR3.out
  clear hb3
  go_wp2
  refine val_ret rfl (w.heap.size + 1 + 1 + 1) _ _ _ rfl (put3_blk HR3.out _ _ _) rfl ?_
  exact ⟨rfl, below_put3 HB3.out (by omega) _ _ _⟩
theorem logic_calls (or : Bool) (a b : Vl) (w : World) : Calls Try.prog 61 #[vC a, vC b, vC (vTru or)] w fun e w' => e = .returned (vC (logicP or a b)) ∧ Below w.heap.size w w' := by
  unfold logicP
  cases h1 : eqV a (vTru or) with
  | true => exact logic_a a b (vTru or) w h1
  | false => cases h2 : eqV b (vTru or) with
    | true => exact logic_b a b (vTru or) w h1 h2
    | false =>
      by_cases h : a.kind = 0
      · obtain ⟨k, i, t⟩ := a; obtain rfl : k = 0 := h; exact logic_an i t b (vTru or) w h1 h2
      · rw [show (a.kind == 0) = false by simpa using h]
        by_cases h' : b.kind = 0
        · obtain ⟨k, i, t⟩ := b; obtain rfl : k = 0 := h'; exact logic_bn a i t (vTru or) w h1 h2 h
        · rw [show (b.kind == 0) = false by simpa using h']; exact logic_no a b or w h1 h2 h h'
end Go.Proofs.Ytinflndbfdbnhaa.Exp

/- quarryref02: goes, holds. -/
set_option linter.unusedVariables false
set_option linter.unusedSimpArgs false
namespace Go.Proofs.Ytinflndbfdbnhaa.Exp
open Go.RowKit Go.Proofs.Ytinflndbfdbnhaa.Base Go.Proofs.Ytinflndbfdbnhaa.App Go.Proofs.Ytinflndbfdbnhaa.Byt

/-- Does a value of a kind go into an operator? -/
def goesP (op k : Int) : Bool := k == 0 || (5 ≤ op ∧ op ≤ 10) || (if op = 3 ∨ op = 4 then k == 1 else if op = 16 then k == 3 else k == 2)
set_option maxRecDepth 100000 in
set_option maxHeartbeats 6400000 in
theorem rgoes_calls (op k : Int) (h : 3 ≤ op) (h' : op ≤ 16) (w : World) : Calls Try.prog 73 #[.int .i64 op, .int .i64 k] w fun e w' => e = .returned (.bool (goesP op k)) ∧ w' = w := by
  have hc : op = 3 ∨ op = 4 ∨ op = 5 ∨ op = 6 ∨ op = 7 ∨ op = 8 ∨ op = 9 ∨ op = 10 ∨ op = 11 ∨ op = 12 ∨ op = 13 ∨ op = 14 ∨ op = 15 ∨ op = 16 := by omega
  clear h h'
  by_cases hk : k = 0
  · subst hk
    rw [show goesP op 0 = true by simp [goesP]]
    clear hc
    go_enter Try.func73, Try.ntmps73
    go_wp2
    go_ret
    exact ⟨rfl, rfl⟩
  · have hk0 : (k == 0) = false := by simp [hk]
    rcases hc with rfl | rfl | rfl | rfl | rfl | rfl | rfl | rfl | rfl | rfl | rfl | rfl | rfl | rfl
    all_goals
      go_enter Try.func73, Try.ntmps73
      go_wp2
      go_ret
      exact ⟨ret_eq (by simp [goesP, hk]), rfl⟩
set_option maxRecDepth 100000 in
theorem rholds_calls (op c : Int) (h : 5 ≤ op) (h' : op ≤ 10) (w : World) : Calls Try.prog 75 #[.int .i64 op, .int .i64 c] w fun e w' => e = .returned (.bool (holdP op c)) ∧ w' = w := by
  have hc : op = 5 ∨ op = 6 ∨ op = 7 ∨ op = 8 ∨ op = 9 ∨ op = 10 := by omega
  clear h h'
  rcases hc with rfl | rfl | rfl | rfl | rfl | rfl
  all_goals
    go_enter Try.func75, Try.ntmps75
    go_wp2
    go_ret
    exact ⟨ret_eq (by simp [holdP]), rfl⟩
end Go.Proofs.Ytinflndbfdbnhaa.Exp

/- quarryref02: times, sum. -/
set_option linter.unusedVariables false
set_option linter.unusedSimpArgs false
namespace Go.Proofs.Ytinflndbfdbnhaa.Exp
open Go.RowKit Go.Proofs.Ytinflndbfdbnhaa.Base Go.Proofs.Ytinflndbfdbnhaa.App Go.Proofs.Ytinflndbfdbnhaa.Byt

def RsumR (n : Int) (ok : Bool) (w : World) (e : Ending) (w' : World) : Prop := e = .returned (.tuple #[.int .i64 n, .bool ok]) ∧ Below w.heap.size w w'
set_option maxRecDepth 100000 in
set_option maxHeartbeats 3200000 in
theorem rsum_add_t (a b s : Int) (hw : IntKind.i64.wrap (a + b) = s) (h : (decide (a < s) == decide (0 < b)) = true) (w : World) :
    Calls Try.prog 78 #[.int .i64 11, .int .i64 a, .int .i64 b] w (RsumR s true w) := by
  go_enter Try.func78, Try.ntmps78
  go_wp2
  all_goals refine bodyPost_ret (results_tmp2 rfl _ _ _) rfl ?_
  all_goals exact ⟨rfl, Below.refl _ _⟩
set_option maxRecDepth 100000 in
set_option maxHeartbeats 3200000 in
theorem rsum_add_f (a b s : Int) (hw : IntKind.i64.wrap (a + b) = s) (h : (decide (a < s) == decide (0 < b)) = false) (hb : (b == 0) = false) (w : World) :
    Calls Try.prog 78 #[.int .i64 11, .int .i64 a, .int .i64 b] w (RsumR s false w) := by
  go_enter Try.func78, Try.ntmps78
  go_wp2
  all_goals refine bodyPost_ret (results_tmp2 rfl _ _ _) rfl ?_
  all_goals exact ⟨rfl, Below.refl _ _⟩
/-- The sum, and whether it fits. -/
theorem rsum_add (a b : Int) (ha : inI a) (hb : inI b) : (inI (a + b) ∧ ∀ w, Calls Try.prog 78 #[.int .i64 11, .int .i64 a, .int .i64 b] w (RsumR (a + b) true w)) ∨ (¬ inI (a + b) ∧ ∃ s, ∀ w, Calls Try.prog 78 #[.int .i64 11, .int .i64 a, .int .i64 b] w (RsumR s false w)) := by
  unfold inI at ha hb ⊢
  by_cases h : -9223372036854775808 ≤ a + b ∧ a + b ≤ 9223372036854775807
  · have hw : IntKind.i64.wrap (a + b) = a + b := by rw [IntKind.wrap_i64]; omega
    refine .inl ⟨h, fun w => rsum_add_t a b _ hw ?_ w⟩
    rw [beq_iff_eq, decide_eq_decide]
    omega
  · refine .inr ⟨h, IntKind.i64.wrap (a + b), fun w => rsum_add_f a b _ rfl ?_ ?_ w⟩
    · rw [beq_eq_false_iff_ne]
      intro e
      rw [decide_eq_decide, IntKind.wrap_i64] at e
      omega
    · rw [beq_eq_false_iff_ne]
      omega
set_option maxRecDepth 100000 in
set_option maxHeartbeats 3200000 in
theorem rsum_sub_t (a b s : Int) (hw : IntKind.i64.wrap (a - b) = s) (h : (decide (s < a) == decide (0 < b)) = true) (w : World) :
    Calls Try.prog 78 #[.int .i64 12, .int .i64 a, .int .i64 b] w (RsumR s true w) := by
  go_enter Try.func78, Try.ntmps78
  go_wp2
  all_goals refine bodyPost_ret (results_tmp2 rfl _ _ _) rfl ?_
  all_goals exact ⟨rfl, Below.refl _ _⟩
set_option maxRecDepth 100000 in
set_option maxHeartbeats 3200000 in
theorem rsum_sub_f (a b s : Int) (hw : IntKind.i64.wrap (a - b) = s) (h : (decide (s < a) == decide (0 < b)) = false) (hb : (b == 0) = false) (w : World) :
    Calls Try.prog 78 #[.int .i64 12, .int .i64 a, .int .i64 b] w (RsumR s false w) := by
  go_enter Try.func78, Try.ntmps78
  go_wp2
  all_goals refine bodyPost_ret (results_tmp2 rfl _ _ _) rfl ?_
  all_goals exact ⟨rfl, Below.refl _ _⟩
/-- The sum, and whether it fits. -/
theorem rsum_sub (a b : Int) (ha : inI a) (hb : inI b) : (inI (a - b) ∧ ∀ w, Calls Try.prog 78 #[.int .i64 12, .int .i64 a, .int .i64 b] w (RsumR (a - b) true w)) ∨ (¬ inI (a - b) ∧ ∃ s, ∀ w, Calls Try.prog 78 #[.int .i64 12, .int .i64 a, .int .i64 b] w (RsumR s false w)) := by
  unfold inI at ha hb ⊢
  by_cases h : -9223372036854775808 ≤ a - b ∧ a - b ≤ 9223372036854775807
  · have hw : IntKind.i64.wrap (a - b) = a - b := by rw [IntKind.wrap_i64]; omega
    refine .inl ⟨h, fun w => rsum_sub_t a b _ hw ?_ w⟩
    rw [beq_iff_eq, decide_eq_decide]
    omega
  · refine .inr ⟨h, IntKind.i64.wrap (a - b), fun w => rsum_sub_f a b _ rfl ?_ ?_ w⟩
    · rw [beq_eq_false_iff_ne]
      intro e
      rw [decide_eq_decide, IntKind.wrap_i64] at e
      omega
    · rw [beq_eq_false_iff_ne]
      omega
set_option maxRecDepth 100000 in
set_option maxHeartbeats 3200000 in
theorem rtimes_a0 (b : Int) (w : World) :
    Calls Try.prog 118 #[.int .i64 0, .int .i64 b] w (RsumR 0 true w) := by
  go_enter Try.func118, Try.ntmps118
  go_wp2
  all_goals refine bodyPost_ret (results_tmp2 rfl _ _ _) rfl ?_
  all_goals exact ⟨rfl, Below.refl _ _⟩
set_option maxRecDepth 100000 in
set_option maxHeartbeats 3200000 in
theorem rtimes_b0 (a : Int) (h : (a == 0) = false) (w : World) :
    Calls Try.prog 118 #[.int .i64 a, .int .i64 0] w (RsumR 0 true w) := by
  go_enter Try.func118, Try.ntmps118
  go_wp2
  all_goals refine bodyPost_ret (results_tmp2 rfl _ _ _) rfl ?_
  all_goals exact ⟨rfl, Below.refl _ _⟩
set_option maxRecDepth 100000 in
set_option maxHeartbeats 3200000 in
theorem rtimes_am_t (b n : Int) (hb : (b == 0) = false) (hn : IntKind.i64.wrap (-b) = n) (h : (b != -9223372036854775808) = true) (w : World) :
    Calls Try.prog 118 #[.int .i64 (-1), .int .i64 b] w (RsumR n true w) := by
  go_enter Try.func118, Try.ntmps118
  go_wp2
  all_goals refine bodyPost_ret (results_tmp2 rfl _ _ _) rfl ?_
  all_goals exact ⟨rfl, Below.refl _ _⟩
set_option maxRecDepth 100000 in
set_option maxHeartbeats 3200000 in
theorem rtimes_bm_t (a n : Int) (ha : (a == 0) = false) (ha1 : (a == -1) = false) (hn : IntKind.i64.wrap (-a) = n) (h : (a != -9223372036854775808) = true) (w : World) :
    Calls Try.prog 118 #[.int .i64 a, .int .i64 (-1)] w (RsumR n true w) := by
  go_enter Try.func118, Try.ntmps118
  go_wp2
  all_goals refine bodyPost_ret (results_tmp2 rfl _ _ _) rfl ?_
  all_goals exact ⟨rfl, Below.refl _ _⟩
set_option maxRecDepth 100000 in
set_option maxHeartbeats 3200000 in
theorem rtimes_am_f (b n : Int) (hb : (b == 0) = false) (hn : IntKind.i64.wrap (-b) = n) (h : (b != -9223372036854775808) = false) (w : World) :
    Calls Try.prog 118 #[.int .i64 (-1), .int .i64 b] w (RsumR n false w) := by
  go_enter Try.func118, Try.ntmps118
  go_wp2
  all_goals refine bodyPost_ret (results_tmp2 rfl _ _ _) rfl ?_
  all_goals exact ⟨rfl, Below.refl _ _⟩
set_option maxRecDepth 100000 in
set_option maxHeartbeats 3200000 in
theorem rtimes_bm_f (a n : Int) (ha : (a == 0) = false) (ha1 : (a == -1) = false) (hn : IntKind.i64.wrap (-a) = n) (h : (a != -9223372036854775808) = false) (w : World) :
    Calls Try.prog 118 #[.int .i64 a, .int .i64 (-1)] w (RsumR n false w) := by
  go_enter Try.func118, Try.ntmps118
  go_wp2
  all_goals refine bodyPost_ret (results_tmp2 rfl _ _ _) rfl ?_
  all_goals exact ⟨rfl, Below.refl _ _⟩
set_option maxRecDepth 100000 in
set_option maxHeartbeats 3200000 in
theorem rtimes_true (a b p q : Int) (ha : (a == 0) = false) (hb : (b == 0) = false) (hb0 : ¬ b = 0) (ha1 : (a == -1) = false) (hb1 : (b == -1) = false) (hb2 : ¬ b = -1) (hp : IntKind.i64.wrap (a * b) = p) (hq : p.tdiv b = q) (hqw : IntKind.i64.wrap q = q) (h : (q == a) = true) (w : World) :
    Calls Try.prog 118 #[.int .i64 a, .int .i64 b] w (RsumR p true w) := by
  go_enter Try.func118, Try.ntmps118
  go_upto_region 8 with fail
  go_region
  go_wp2
  all_goals refine bodyPost_ret (results_tmp2 rfl _ _ _) rfl ?_
  all_goals exact ⟨rfl, (Below.refl _ _).drew⟩
set_option maxRecDepth 100000 in
set_option maxHeartbeats 3200000 in
theorem rtimes_false (a b p q : Int) (ha : (a == 0) = false) (hb : (b == 0) = false) (hb0 : ¬ b = 0) (ha1 : (a == -1) = false) (hb1 : (b == -1) = false) (hb2 : ¬ b = -1) (hp : IntKind.i64.wrap (a * b) = p) (hq : p.tdiv b = q) (hqw : IntKind.i64.wrap q = q) (h : (q == a) = false) (w : World) :
    Calls Try.prog 118 #[.int .i64 a, .int .i64 b] w (RsumR p false w) := by
  go_enter Try.func118, Try.ntmps118
  go_upto_region 8 with fail
  go_region
  go_wp2
  all_goals refine bodyPost_ret (results_tmp2 rfl _ _ _) rfl ?_
  all_goals exact ⟨rfl, (Below.refl _ _).drew⟩
/-- The product, and whether it fits. -/
theorem rtimes (a b : Int) (ha : inI a) (hb : inI b) : (inI (a * b) ∧ ∀ w, Calls Try.prog 118 #[.int .i64 a, .int .i64 b] w (RsumR (a * b) true w)) ∨ (¬ inI (a * b) ∧ ∃ s, ∀ w, Calls Try.prog 118 #[.int .i64 a, .int .i64 b] w (RsumR s false w)) := by
  unfold inI at ha hb ⊢
  by_cases ha0 : a = 0
  · subst ha0
    exact .inl ⟨by simp, fun w => by rw [Int.zero_mul]; exact rtimes_a0 b w⟩
  have ha0' : (a == 0) = false := by simp [ha0]
  by_cases hb0 : b = 0
  · subst hb0
    exact .inl ⟨by simp, fun w => by rw [Int.mul_zero]; exact rtimes_b0 a ha0' w⟩
  have hb0' : (b == 0) = false := by simp [hb0]
  by_cases ha1 : a = -1
  · subst ha1
    by_cases hl : b = -9223372036854775808
    · exact .inr ⟨by rw [hl]; decide, _, fun w => rtimes_am_f b _ hb0' rfl (by rw [hl]; rfl) w⟩
    · refine .inl ⟨by omega, fun w => ?_⟩
      rw [show (-1 : Int) * b = -b by omega]
      exact rtimes_am_t b (-b) hb0' (by rw [IntKind.wrap_i64]; omega) (by simp [bne, hl]) w
  have ha1' : (a == -1) = false := by simp [ha1]
  by_cases hb1 : b = -1
  · subst hb1
    by_cases hl : a = -9223372036854775808
    · exact .inr ⟨by rw [hl]; decide, _, fun w => rtimes_bm_f a _ ha0' ha1' rfl (by rw [hl]; rfl) w⟩
    · refine .inl ⟨by omega, fun w => ?_⟩
      rw [show a * (-1 : Int) = -a by omega]
      exact rtimes_bm_t a (-a) ha0' ha1' (by rw [IntKind.wrap_i64]; omega) (by simp [bne, hl]) w
  have hb1' : (b == -1) = false := by simp [hb1]
  have hpr : -9223372036854775808 ≤ IntKind.i64.wrap (a * b) ∧ IntKind.i64.wrap (a * b) ≤ 9223372036854775807 := by rw [IntKind.wrap_i64]; omega
  have hqr : ∀ p : Int, -9223372036854775808 ≤ p → p ≤ 9223372036854775807 → IntKind.i64.wrap (p.tdiv b) = p.tdiv b := fun p h1 h2 => by
    have h3 : (p.tdiv b).natAbs ≤ p.natAbs := by rw [Int.natAbs_tdiv]; exact Nat.div_le_self _ _
    have h4 : (p.tdiv b).natAbs * 2 ≤ p.natAbs ∨ p.natAbs < 2 ∨ b.natAbs < 2 := by
      by_cases hbb : b.natAbs < 2
      · exact .inr (.inr hbb)
      · refine .inl ?_
        rw [Int.natAbs_tdiv]
        have := Nat.div_mul_le_self p.natAbs b.natAbs
        have h5 : p.natAbs / b.natAbs * 2 ≤ p.natAbs / b.natAbs * b.natAbs := Nat.mul_le_mul_left _ (by omega)
        exact Nat.le_trans h5 this
    rw [IntKind.wrap_i64]
    rcases h4 with h4 | h4 | h4
    · omega
    · omega
    · have : b = 1 := by omega
      subst this
      rw [Int.tdiv_one] at *
      omega
  by_cases h : -9223372036854775808 ≤ a * b ∧ a * b ≤ 9223372036854775807
  · have hw : IntKind.i64.wrap (a * b) = a * b := by rw [IntKind.wrap_i64]; omega
    have hq : (a * b).tdiv b = a := Int.mul_tdiv_cancel _ hb0
    exact .inl ⟨h, fun w => rtimes_true a b _ _ ha0' hb0' hb0 ha1' hb1' hb1 hw hq (by rw [IntKind.wrap_i64]; omega) (by simp) w⟩
  · refine .inr ⟨h, _, fun w => rtimes_false a b _ _ ha0' hb0' hb0 ha1' hb1' hb1 rfl rfl (hqr _ hpr.1 hpr.2) ?_ w⟩
    rw [beq_eq_false_iff_ne]
    intro e
    obtain ⟨k, hk⟩ : ∃ k : Int, IntKind.i64.wrap (a * b) = a * b - k * 18446744073709551616 := ⟨(a * b + 9223372036854775808) / 18446744073709551616, by rw [IntKind.wrap_i64]; omega⟩
    have hk0 : k ≠ 0 := fun e0 => by rw [e0] at hk; omega
    have h1 := Int.tmod_add_mul_tdiv (IntKind.i64.wrap (a * b)) b
    have h2 : ((IntKind.i64.wrap (a * b)).tmod b).natAbs < b.natAbs := by rw [Int.natAbs_tmod]; exact Nat.mod_lt _ (by omega)
    rw [e, Int.mul_comm b a, hk] at h1
    rw [hk] at h2
    have h3 : ((a * b - k * 18446744073709551616).tmod b) = - (k * 18446744073709551616) := by omega
    rw [h3] at h2
    omega
set_option maxRecDepth 100000 in
set_option maxHeartbeats 3200000 in
theorem rsum_mul_t (a b s : Int) (hc : ∀ w, Calls Try.prog 118 #[.int .i64 a, .int .i64 b] w (RsumR s true w)) (w : World) :
    Calls Try.prog 78 #[.int .i64 13, .int .i64 a, .int .i64 b] w (RsumR s true w) := by
  have HC := Asd.mk hc
  clear hc
  unfold RsumR at HC
  go_enter Try.func78, Try.ntmps78
  go_wp2_with fail
  refine (HC.out _).mono ?_
  rintro e w2 ⟨rfl, hb2⟩
  have HB2 := Asd.mk hb2
  clear hb2
  go_wp2
  all_goals refine bodyPost_ret (results_tmp2 rfl _ _ _) rfl ?_
  all_goals exact ⟨rfl, HB2.out⟩
set_option maxRecDepth 100000 in
set_option maxHeartbeats 3200000 in
theorem rsum_mul_f (a b s : Int) (hc : ∀ w, Calls Try.prog 118 #[.int .i64 a, .int .i64 b] w (RsumR s false w)) (w : World) :
    Calls Try.prog 78 #[.int .i64 13, .int .i64 a, .int .i64 b] w (RsumR s false w) := by
  have HC := Asd.mk hc
  clear hc
  unfold RsumR at HC
  go_enter Try.func78, Try.ntmps78
  go_wp2_with fail
  refine (HC.out _).mono ?_
  rintro e w2 ⟨rfl, hb2⟩
  have HB2 := Asd.mk hb2
  clear hb2
  go_wp2
  all_goals refine bodyPost_ret (results_tmp2 rfl _ _ _) rfl ?_
  all_goals exact ⟨rfl, HB2.out⟩
set_option maxRecDepth 100000 in
set_option maxHeartbeats 3200000 in
theorem rsum_divm_t (a n : Int) (hn : IntKind.i64.wrap (-a) = n) (h : (a != -9223372036854775808) = true) (w : World) :
    Calls Try.prog 78 #[.int .i64 14, .int .i64 a, .int .i64 (-1)] w (RsumR n true w) := by
  go_enter Try.func78, Try.ntmps78
  go_wp2
  all_goals refine bodyPost_ret (results_tmp2 rfl _ _ _) rfl ?_
  all_goals exact ⟨rfl, Below.refl _ _⟩
set_option maxRecDepth 100000 in
set_option maxHeartbeats 3200000 in
theorem rsum_divm_f (a n : Int) (hn : IntKind.i64.wrap (-a) = n) (h : (a != -9223372036854775808) = false) (w : World) :
    Calls Try.prog 78 #[.int .i64 14, .int .i64 a, .int .i64 (-1)] w (RsumR n false w) := by
  go_enter Try.func78, Try.ntmps78
  go_wp2
  all_goals refine bodyPost_ret (results_tmp2 rfl _ _ _) rfl ?_
  all_goals exact ⟨rfl, Below.refl _ _⟩
set_option maxRecDepth 100000 in
set_option maxHeartbeats 3200000 in
theorem rsum_div (a b q : Int) (hb0 : ¬ b = 0) (hbz : (b == 0) = false) (hb1 : (b == -1) = false) (hb2 : ¬ b = -1) (hq : a.tdiv b = q) (hqw : IntKind.i64.wrap q = q) (w : World) :
    Calls Try.prog 78 #[.int .i64 14, .int .i64 a, .int .i64 b] w (RsumR q true w) := by
  go_enter Try.func78, Try.ntmps78
  go_wp2
  all_goals refine bodyPost_ret (results_tmp2 rfl _ _ _) rfl ?_
  all_goals exact ⟨rfl, Below.refl _ _⟩
set_option maxRecDepth 100000 in
set_option maxHeartbeats 3200000 in
theorem rsum_remm (a : Int) (w : World) :
    Calls Try.prog 78 #[.int .i64 15, .int .i64 a, .int .i64 (-1)] w (RsumR 0 true w) := by
  go_enter Try.func78, Try.ntmps78
  go_wp2
  all_goals refine bodyPost_ret (results_tmp2 rfl _ _ _) rfl ?_
  all_goals exact ⟨rfl, Below.refl _ _⟩
set_option maxRecDepth 100000 in
set_option maxHeartbeats 3200000 in
theorem rsum_rem (a b q : Int) (hb0 : ¬ b = 0) (hbz : (b == 0) = false) (hb1 : (b == -1) = false) (hb2 : ¬ b = -1) (hq : a.tmod b = q) (hqw : IntKind.i64.wrap q = q) (w : World) :
    Calls Try.prog 78 #[.int .i64 15, .int .i64 a, .int .i64 b] w (RsumR q true w) := by
  go_enter Try.func78, Try.ntmps78
  go_wp2
  all_goals refine bodyPost_ret (results_tmp2 rfl _ _ _) rfl ?_
  all_goals exact ⟨rfl, Below.refl _ _⟩
end Go.Proofs.Ytinflndbfdbnhaa.Exp

/- quarryref02.sum as a whole. -/
set_option linter.unusedVariables false
set_option linter.unusedSimpArgs false
namespace Go.Proofs.Ytinflndbfdbnhaa.Exp
open Go.RowKit Go.Proofs.Ytinflndbfdbnhaa.Base Go.Proofs.Ytinflndbfdbnhaa.App Go.Proofs.Ytinflndbfdbnhaa.Byt

theorem quo_fits {a b : Int} (ha : inI a) (hb0 : ¬ b = 0) (hb1 : ¬ b = -1) : inI (a.tdiv b) := by
  unfold inI at ha ⊢
  have h3 : (a.tdiv b).natAbs ≤ a.natAbs := by rw [Int.natAbs_tdiv]; exact Nat.div_le_self _ _
  by_cases hbb : b.natAbs < 2
  · have : b = 1 := by omega
    subst this
    rw [Int.tdiv_one]
    omega
  · have h4 : (a.tdiv b).natAbs * 2 ≤ a.natAbs := by
      rw [Int.natAbs_tdiv]
      have := Nat.div_mul_le_self a.natAbs b.natAbs
      have h5 : a.natAbs / b.natAbs * 2 ≤ a.natAbs / b.natAbs * b.natAbs := Nat.mul_le_mul_left _ (by omega)
      exact Nat.le_trans h5 this
    omega
theorem rem_fits {a b : Int} (ha : inI a) : inI (a.tmod b) := by
  unfold inI at ha ⊢
  have h3 : (a.tmod b).natAbs ≤ a.natAbs := by rw [Int.natAbs_tmod]; exact Nat.mod_le _ _
  by_cases h0 : 0 ≤ a
  · have := Int.tmod_nonneg b h0
    omega
  · have := Int.tmod_nonneg (a := -a) b (by omega)
    rw [Int.neg_tmod] at this
    omega
theorem rwrap_in {n : Int} (h : inI n) : IntKind.i64.wrap n = n := by unfold inI at h; rw [IntKind.wrap_i64]; omega
theorem rsum_calls (op a b : Int) (h : 11 ≤ op) (h' : op ≤ 15) (ha : inI a) (hb : inI b) (h0 : 14 ≤ op → ¬ b = 0) :
    (∃ n, sumN op a b = .ok n ∧ ∀ w, Calls Try.prog 78 #[.int .i64 op, .int .i64 a, .int .i64 b] w (RsumR n true w)) ∨ (sumN op a b = .error 40 ∧ ∃ s, ∀ w, Calls Try.prog 78 #[.int .i64 op, .int .i64 a, .int .i64 b] w (RsumR s false w)) := by
  rcases (show op = 11 ∨ op = 12 ∨ op = 13 ∨ op = 14 ∨ op = 15 by omega) with rfl | rfl | rfl | rfl | rfl
  · rcases rsum_add a b ha hb with ⟨h1, h2⟩ | ⟨h1, s, h2⟩
    · exact .inl ⟨_, by simp [sumN, numN, h1], h2⟩
    · exact .inr ⟨by simp [sumN, numN, h1], s, h2⟩
  · rcases rsum_sub a b ha hb with ⟨h1, h2⟩ | ⟨h1, s, h2⟩
    · exact .inl ⟨_, by simp [sumN, numN, h1], h2⟩
    · exact .inr ⟨by simp [sumN, numN, h1], s, h2⟩
  · rcases rtimes a b ha hb with ⟨h1, h2⟩ | ⟨h1, s, h2⟩
    · exact .inl ⟨_, by simp [sumN, numN, h1], rsum_mul_t a b _ h2⟩
    · exact .inr ⟨by simp [sumN, numN, h1], s, rsum_mul_f a b s h2⟩
  · have hb0 := h0 (by omega)
    by_cases hb1 : b = -1
    · subst hb1
      have hq : a.tdiv (-1) = -a := by rw [Int.tdiv_neg, Int.tdiv_one]
      by_cases hl : a = -9223372036854775808
      · refine .inr ⟨?_, _, rsum_divm_f a _ rfl (by rw [hl]; rfl)⟩
        rw [hl]
        rfl
      · have hin : inI (-a) := by unfold inI at ha ⊢; omega
        refine .inl ⟨-a, ?_, rsum_divm_t a (-a) (rwrap_in hin) (by simp [bne, hl])⟩
        simp [sumN, numN, hq, hin]
    · have hq := quo_fits ha hb0 hb1
      exact .inl ⟨_, by simp [sumN, numN, hb0, hq], rsum_div a b _ hb0 (by simp [hb0]) (by simp [hb1]) hb1 rfl (rwrap_in hq)⟩
  · have hb0 := h0 (by omega)
    by_cases hb1 : b = -1
    · subst hb1
      exact .inl ⟨0, by simp [sumN], rsum_remm a⟩
    · exact .inl ⟨_, by simp [sumN, hb0], rsum_rem a b _ hb0 (by simp [hb0]) (by simp [hb1]) hb1 rfl (rwrap_in (rem_fits ha))⟩
end Go.Proofs.Ytinflndbfdbnhaa.Exp

/- quarryref02.logic. -/
set_option linter.unusedVariables false
set_option linter.unusedSimpArgs false
namespace Go.Proofs.Ytinflndbfdbnhaa.Exp
open Go.RowKit Go.Proofs.Ytinflndbfdbnhaa.Base Go.Proofs.Ytinflndbfdbnhaa.App Go.Proofs.Ytinflndbfdbnhaa.Byt

set_option maxRecDepth 100000 in
set_option maxHeartbeats 6400000 in
theorem rlogic_3 (a b : Vl) (w : World) : Calls Try.prog 74 #[.int .i64 3, vC a, vC b] w fun e w' => e = .returned (vC (logicP true a b)) ∧ Below w.heap.size w w' := by
  have HA := Asd.mk (blk_alloc (blk_alloc (blk_new w (.cells #[.int .i64 a.kind, .int .i64 a.int, .string ⟨a.text.toArray⟩] 23 (0, 0))) (.cells #[.int .i64 b.kind, .int .i64 b.int, .string ⟨b.text.toArray⟩] 23 (0, 0))) zeroV)
  have HBb : Asd ((((w.alloc (.cells #[.int .i64 a.kind, .int .i64 a.int, .string ⟨a.text.toArray⟩] 23 (0, 0))).alloc (.cells #[.int .i64 b.kind, .int .i64 b.int, .string ⟨b.text.toArray⟩] 23 (0, 0))).alloc zeroV).heap[w.heap.size + 1]? = some (.cells #[.int .i64 b.kind, .int .i64 b.int, .string ⟨b.text.toArray⟩] 23 (0, 0))) := Asd.mk (by
    have h := blk_new (w.alloc (.cells #[.int .i64 a.kind, .int .i64 a.int, .string ⟨a.text.toArray⟩] 23 (0, 0))) (.cells #[.int .i64 b.kind, .int .i64 b.int, .string ⟨b.text.toArray⟩] 23 (0, 0))
    rw [show (w.alloc (.cells #[.int .i64 a.kind, .int .i64 a.int, .string ⟨a.text.toArray⟩] 23 (0, 0))).heap.size = w.heap.size + 1 by simp] at h
    exact blk_alloc h zeroV)
  have HZ : Asd ((((w.alloc (.cells #[.int .i64 a.kind, .int .i64 a.int, .string ⟨a.text.toArray⟩] 23 (0, 0))).alloc (.cells #[.int .i64 b.kind, .int .i64 b.int, .string ⟨b.text.toArray⟩] 23 (0, 0))).alloc zeroV).heap[w.heap.size + 2]? = some zeroV) := Asd.mk (by
    have h := blk_new ((w.alloc (.cells #[.int .i64 a.kind, .int .i64 a.int, .string ⟨a.text.toArray⟩] 23 (0, 0))).alloc (.cells #[.int .i64 b.kind, .int .i64 b.int, .string ⟨b.text.toArray⟩] 23 (0, 0))) zeroV
    rw [show ((w.alloc (.cells #[.int .i64 a.kind, .int .i64 a.int, .string ⟨a.text.toArray⟩] 23 (0, 0))).alloc (.cells #[.int .i64 b.kind, .int .i64 b.int, .string ⟨b.text.toArray⟩] 23 (0, 0))).heap.size = w.heap.size + 2 by simp] at h
    exact h)
  have HB : Asd (Below w.heap.size w (((w.alloc (.cells #[.int .i64 a.kind, .int .i64 a.int, .string ⟨a.text.toArray⟩] 23 (0, 0))).alloc (.cells #[.int .i64 b.kind, .int .i64 b.int, .string ⟨b.text.toArray⟩] 23 (0, 0))).alloc zeroV)) := Asd.mk (below_alloc (below_alloc (below_alloc (Below.refl _ _) _) _) _)
  have h1 : ∀ W, (binOp .eql 23 (.agg #[.int .i64 a.kind, .int .i64 a.int, .string ⟨a.text.toArray⟩]) (.agg #[.int .i64 1, .int .i64 1, .string ⟨#[]⟩])).run Try.prog W = .ok (.bool (eqV a (vTru true))) W := fun W => vC_eql a (vTru true) W
  have h2 : ∀ W, (binOp .eql 23 (.agg #[.int .i64 b.kind, .int .i64 b.int, .string ⟨b.text.toArray⟩]) (.agg #[.int .i64 1, .int .i64 1, .string ⟨#[]⟩])).run Try.prog W = .ok (.bool (eqV b (vTru true))) W := fun W => vC_eql b (vTru true) W
  have HL : Asd (logicP true a b = if eqV a (vTru true) || eqV b (vTru true) then vTru true else if a.kind == 0 || b.kind == 0 then vNull else vTru (!true)) := Asd.mk rfl
  unfold vC
  go_enter Try.func74, Try.ntmps74
  go_upto_region 1 with fail
  generalize (((w.alloc (.cells #[.int .i64 a.kind, .int .i64 a.int, .string ⟨a.text.toArray⟩] 23 (0, 0))).alloc (.cells #[.int .i64 b.kind, .int .i64 b.int, .string ⟨b.text.toArray⟩] 23 (0, 0))).alloc zeroV) = w1 at HA HBb HZ HB ⊢
  go_wp2_with fail
  refine (rtruth_calls true _).mono ?_
  rintro e w2 ⟨rfl, hb2⟩
  have HB2 := Asd.mk (below_step HB.out hb2)
  have HA2 := Asd.mk (blk_below hb2 HA.out)
  have HBb2 := Asd.mk (blk_below hb2 HBb.out)
  have HZ2 := Asd.mk (blk_below hb2 HZ.out)
  clear hb2
  rw [show vC (vTru true) = (.agg #[.int .i64 1, .int .i64 1, .string ⟨#[]⟩]) from rfl]
  have hba : Below w2.heap.size w2 (w2.alloc (.cells #[.int .i64 1, .int .i64 1, .string ⟨#[]⟩] 23 (0, 0))) := below_alloc (Below.refl _ _) _
  have HS4 := Asd.mk (blk_new w2 (.cells #[.int .i64 1, .int .i64 1, .string ⟨#[]⟩] 23 (0, 0)))
  have HB4 := Asd.mk (below_step HB2.out hba)
  have HA4 := Asd.mk (blk_below hba HA2.out)
  have HBb4 := Asd.mk (blk_below hba HBb2.out)
  have HZ4 := Asd.mk (blk_below hba HZ2.out)
  go_upto_region 2 with fail
  clear hba
  generalize w2.alloc (.cells #[.int .i64 1, .int .i64 1, .string ⟨#[]⟩] 23 (0, 0)) = w4 at HS4 HB4 HA4 HBb4 HZ4 ⊢
  obtain ⟨a0, a1, a2⟩ := val_cells (v := a) HA4.out
  obtain ⟨b0, b1, b2⟩ := val_cells (v := b) HBb4.out
  have s0 := (blk_cell HS4.out 0).trans rfl
  have s1 := (blk_cell HS4.out 1).trans rfl
  have s2 := (blk_cell HS4.out 2).trans rfl
  obtain ⟨⟨z0, z1, z2⟩, y0, y1, y2⟩ := zero_cells HZ4.out
  cases hp : eqV a (vTru true) with
  | true =>
    rw [hp] at h1
    have HR : Asd (logicP true a b = vTru true) := Asd.mk (by rw [HL.out, hp]; rfl)
    clear hp h2
    go_wp2
    refine val_ret rfl (w.heap.size + 2) _ _ _ rfl (put3_blk HZ4.out _ _ _) rfl ?_
    exact ⟨ret_eq (by rw [HR.out]; rfl), below_put3 HB4.out (by omega) _ _ _⟩
  | false =>
    rw [hp] at h1
    cases hq : eqV b (vTru true) with
    | true =>
      rw [hq] at h2
      have HR : Asd (logicP true a b = vTru true) := Asd.mk (by rw [HL.out, hp, hq]; rfl)
      clear hp hq
      go_wp2
      refine val_ret rfl (w.heap.size + 2) _ _ _ rfl (put3_blk HZ4.out _ _ _) rfl ?_
      exact ⟨ret_eq (by rw [HR.out]; rfl), below_put3 HB4.out (by omega) _ _ _⟩
    | false =>
      rw [hq] at h2
      cases hk : (a.kind == 0) with
      | true =>
        have HR : Asd (logicP true a b = vNull) := Asd.mk (by rw [HL.out, hp, hq, hk]; rfl)
        clear hp hq
        go_wp2
        refine val_ret rfl (w.heap.size + 2) _ _ _ rfl (put3_blk HZ4.out _ _ _) rfl ?_
        exact ⟨ret_eq (by rw [HR.out]; rfl), below_put3 HB4.out (by omega) _ _ _⟩
      | false =>
        cases hk2 : (b.kind == 0) with
        | true =>
          have HR : Asd (logicP true a b = vNull) := Asd.mk (by rw [HL.out, hp, hq, hk, hk2]; rfl)
          clear hp hq
          go_wp2
          refine val_ret rfl (w.heap.size + 2) _ _ _ rfl (put3_blk HZ4.out _ _ _) rfl ?_
          exact ⟨ret_eq (by rw [HR.out]; rfl), below_put3 HB4.out (by omega) _ _ _⟩
        | false =>
          have HR : Asd (logicP true a b = vTru (!true)) := Asd.mk (by rw [HL.out, hp, hq, hk, hk2]; rfl)
          clear hp hq
          go_wp2_with fail
          refine (rtruth_calls (!true) _).mono ?_
          rintro e w5 ⟨rfl, hb5⟩
          have HB5 := Asd.mk (below_step HB4.out hb5)
          have HZ5 := Asd.mk (blk_below hb5 HZ4.out)
          clear a0 a1 a2 b0 b1 b2 s0 s1 s2 z0 z1 z2 y0 y1 y2 hb5
          obtain ⟨⟨z0, z1, z2⟩, y0, y1, y2⟩ := zero_cells HZ5.out
          unfold vC
          go_wp2
          refine val_ret rfl (w.heap.size + 2) _ _ _ rfl (put3_blk HZ5.out _ _ _) rfl ?_
          exact ⟨ret_eq (by rw [HR.out]; rfl), below_put3 HB5.out (by omega) _ _ _⟩
set_option maxRecDepth 100000 in
set_option maxHeartbeats 6400000 in
theorem rlogic_4 (a b : Vl) (w : World) : Calls Try.prog 74 #[.int .i64 4, vC a, vC b] w fun e w' => e = .returned (vC (logicP false a b)) ∧ Below w.heap.size w w' := by
  have HA := Asd.mk (blk_alloc (blk_alloc (blk_new w (.cells #[.int .i64 a.kind, .int .i64 a.int, .string ⟨a.text.toArray⟩] 23 (0, 0))) (.cells #[.int .i64 b.kind, .int .i64 b.int, .string ⟨b.text.toArray⟩] 23 (0, 0))) zeroV)
  have HBb : Asd ((((w.alloc (.cells #[.int .i64 a.kind, .int .i64 a.int, .string ⟨a.text.toArray⟩] 23 (0, 0))).alloc (.cells #[.int .i64 b.kind, .int .i64 b.int, .string ⟨b.text.toArray⟩] 23 (0, 0))).alloc zeroV).heap[w.heap.size + 1]? = some (.cells #[.int .i64 b.kind, .int .i64 b.int, .string ⟨b.text.toArray⟩] 23 (0, 0))) := Asd.mk (by
    have h := blk_new (w.alloc (.cells #[.int .i64 a.kind, .int .i64 a.int, .string ⟨a.text.toArray⟩] 23 (0, 0))) (.cells #[.int .i64 b.kind, .int .i64 b.int, .string ⟨b.text.toArray⟩] 23 (0, 0))
    rw [show (w.alloc (.cells #[.int .i64 a.kind, .int .i64 a.int, .string ⟨a.text.toArray⟩] 23 (0, 0))).heap.size = w.heap.size + 1 by simp] at h
    exact blk_alloc h zeroV)
  have HZ : Asd ((((w.alloc (.cells #[.int .i64 a.kind, .int .i64 a.int, .string ⟨a.text.toArray⟩] 23 (0, 0))).alloc (.cells #[.int .i64 b.kind, .int .i64 b.int, .string ⟨b.text.toArray⟩] 23 (0, 0))).alloc zeroV).heap[w.heap.size + 2]? = some zeroV) := Asd.mk (by
    have h := blk_new ((w.alloc (.cells #[.int .i64 a.kind, .int .i64 a.int, .string ⟨a.text.toArray⟩] 23 (0, 0))).alloc (.cells #[.int .i64 b.kind, .int .i64 b.int, .string ⟨b.text.toArray⟩] 23 (0, 0))) zeroV
    rw [show ((w.alloc (.cells #[.int .i64 a.kind, .int .i64 a.int, .string ⟨a.text.toArray⟩] 23 (0, 0))).alloc (.cells #[.int .i64 b.kind, .int .i64 b.int, .string ⟨b.text.toArray⟩] 23 (0, 0))).heap.size = w.heap.size + 2 by simp] at h
    exact h)
  have HB : Asd (Below w.heap.size w (((w.alloc (.cells #[.int .i64 a.kind, .int .i64 a.int, .string ⟨a.text.toArray⟩] 23 (0, 0))).alloc (.cells #[.int .i64 b.kind, .int .i64 b.int, .string ⟨b.text.toArray⟩] 23 (0, 0))).alloc zeroV)) := Asd.mk (below_alloc (below_alloc (below_alloc (Below.refl _ _) _) _) _)
  have h1 : ∀ W, (binOp .eql 23 (.agg #[.int .i64 a.kind, .int .i64 a.int, .string ⟨a.text.toArray⟩]) (.agg #[.int .i64 1, .int .i64 0, .string ⟨#[]⟩])).run Try.prog W = .ok (.bool (eqV a (vTru false))) W := fun W => vC_eql a (vTru false) W
  have h2 : ∀ W, (binOp .eql 23 (.agg #[.int .i64 b.kind, .int .i64 b.int, .string ⟨b.text.toArray⟩]) (.agg #[.int .i64 1, .int .i64 0, .string ⟨#[]⟩])).run Try.prog W = .ok (.bool (eqV b (vTru false))) W := fun W => vC_eql b (vTru false) W
  have HL : Asd (logicP false a b = if eqV a (vTru false) || eqV b (vTru false) then vTru false else if a.kind == 0 || b.kind == 0 then vNull else vTru (!false)) := Asd.mk rfl
  unfold vC
  go_enter Try.func74, Try.ntmps74
  go_upto_region 1 with fail
  generalize (((w.alloc (.cells #[.int .i64 a.kind, .int .i64 a.int, .string ⟨a.text.toArray⟩] 23 (0, 0))).alloc (.cells #[.int .i64 b.kind, .int .i64 b.int, .string ⟨b.text.toArray⟩] 23 (0, 0))).alloc zeroV) = w1 at HA HBb HZ HB ⊢
  go_wp2_with fail
  refine (rtruth_calls false _).mono ?_
  rintro e w2 ⟨rfl, hb2⟩
  have HB2 := Asd.mk (below_step HB.out hb2)
  have HA2 := Asd.mk (blk_below hb2 HA.out)
  have HBb2 := Asd.mk (blk_below hb2 HBb.out)
  have HZ2 := Asd.mk (blk_below hb2 HZ.out)
  clear hb2
  rw [show vC (vTru false) = (.agg #[.int .i64 1, .int .i64 0, .string ⟨#[]⟩]) from rfl]
  have hba : Below w2.heap.size w2 (w2.alloc (.cells #[.int .i64 1, .int .i64 0, .string ⟨#[]⟩] 23 (0, 0))) := below_alloc (Below.refl _ _) _
  have HS4 := Asd.mk (blk_new w2 (.cells #[.int .i64 1, .int .i64 0, .string ⟨#[]⟩] 23 (0, 0)))
  have HB4 := Asd.mk (below_step HB2.out hba)
  have HA4 := Asd.mk (blk_below hba HA2.out)
  have HBb4 := Asd.mk (blk_below hba HBb2.out)
  have HZ4 := Asd.mk (blk_below hba HZ2.out)
  go_upto_region 2 with fail
  clear hba
  generalize w2.alloc (.cells #[.int .i64 1, .int .i64 0, .string ⟨#[]⟩] 23 (0, 0)) = w4 at HS4 HB4 HA4 HBb4 HZ4 ⊢
  obtain ⟨a0, a1, a2⟩ := val_cells (v := a) HA4.out
  obtain ⟨b0, b1, b2⟩ := val_cells (v := b) HBb4.out
  have s0 := (blk_cell HS4.out 0).trans rfl
  have s1 := (blk_cell HS4.out 1).trans rfl
  have s2 := (blk_cell HS4.out 2).trans rfl
  obtain ⟨⟨z0, z1, z2⟩, y0, y1, y2⟩ := zero_cells HZ4.out
  cases hp : eqV a (vTru false) with
  | true =>
    rw [hp] at h1
    have HR : Asd (logicP false a b = vTru false) := Asd.mk (by rw [HL.out, hp]; rfl)
    clear hp h2
    go_wp2
    refine val_ret rfl (w.heap.size + 2) _ _ _ rfl (put3_blk HZ4.out _ _ _) rfl ?_
    exact ⟨ret_eq (by rw [HR.out]; rfl), below_put3 HB4.out (by omega) _ _ _⟩
  | false =>
    rw [hp] at h1
    cases hq : eqV b (vTru false) with
    | true =>
      rw [hq] at h2
      have HR : Asd (logicP false a b = vTru false) := Asd.mk (by rw [HL.out, hp, hq]; rfl)
      clear hp hq
      go_wp2
      refine val_ret rfl (w.heap.size + 2) _ _ _ rfl (put3_blk HZ4.out _ _ _) rfl ?_
      exact ⟨ret_eq (by rw [HR.out]; rfl), below_put3 HB4.out (by omega) _ _ _⟩
    | false =>
      rw [hq] at h2
      cases hk : (a.kind == 0) with
      | true =>
        have HR : Asd (logicP false a b = vNull) := Asd.mk (by rw [HL.out, hp, hq, hk]; rfl)
        clear hp hq
        go_wp2
        refine val_ret rfl (w.heap.size + 2) _ _ _ rfl (put3_blk HZ4.out _ _ _) rfl ?_
        exact ⟨ret_eq (by rw [HR.out]; rfl), below_put3 HB4.out (by omega) _ _ _⟩
      | false =>
        cases hk2 : (b.kind == 0) with
        | true =>
          have HR : Asd (logicP false a b = vNull) := Asd.mk (by rw [HL.out, hp, hq, hk, hk2]; rfl)
          clear hp hq
          go_wp2
          refine val_ret rfl (w.heap.size + 2) _ _ _ rfl (put3_blk HZ4.out _ _ _) rfl ?_
          exact ⟨ret_eq (by rw [HR.out]; rfl), below_put3 HB4.out (by omega) _ _ _⟩
        | false =>
          have HR : Asd (logicP false a b = vTru (!false)) := Asd.mk (by rw [HL.out, hp, hq, hk, hk2]; rfl)
          clear hp hq
          go_wp2_with fail
          refine (rtruth_calls (!false) _).mono ?_
          rintro e w5 ⟨rfl, hb5⟩
          have HB5 := Asd.mk (below_step HB4.out hb5)
          have HZ5 := Asd.mk (blk_below hb5 HZ4.out)
          clear a0 a1 a2 b0 b1 b2 s0 s1 s2 z0 z1 z2 y0 y1 y2 hb5
          obtain ⟨⟨z0, z1, z2⟩, y0, y1, y2⟩ := zero_cells HZ5.out
          unfold vC
          go_wp2
          refine val_ret rfl (w.heap.size + 2) _ _ _ rfl (put3_blk HZ5.out _ _ _) rfl ?_
          exact ⟨ret_eq (by rw [HR.out]; rfl), below_put3 HB5.out (by omega) _ _ _⟩
end Go.Proofs.Ytinflndbfdbnhaa.Exp

/- quarryref02: Args, takes. -/
set_option linter.unusedVariables false
set_option linter.unusedSimpArgs false
namespace Go.Proofs.Ytinflndbfdbnhaa.Exp
open Go.RowKit Go.Proofs.Ytinflndbfdbnhaa.Base Go.Proofs.Ytinflndbfdbnhaa.App Go.Proofs.Ytinflndbfdbnhaa.Byt

set_option maxRecDepth 100000 in
theorem rargs_calls (f : Int) (h : 1 ≤ f) (h' : f ≤ 6) (w : World) : Calls Try.prog 79 #[.int .i64 f] w fun e w' => e = .returned (.int .i64 ((opn f.toNat : Nat) : Int)) ∧ w' = w := by
  have hc : f = 1 ∨ f = 2 ∨ f = 3 ∨ f = 4 ∨ f = 5 ∨ f = 6 := by omega
  clear h h'
  rcases hc with rfl | rfl | rfl | rfl | rfl | rfl
  all_goals
    go_enter Try.func79, Try.ntmps79
    go_wp2
    go_ret
    exact ⟨rfl, rfl⟩
set_option maxRecDepth 100000 in
set_option maxHeartbeats 6400000 in
theorem rtakes_calls (f k : Int) (j : Nat) (h : (f = 1 ∧ j = 0) ∨ (f = 2 ∧ j = 0) ∨ (f = 3 ∧ j = 0) ∨ (f = 4 ∧ j = 0) ∨ (f = 5 ∧ j = 0) ∨ (f = 5 ∧ j = 1) ∨ (f = 5 ∧ j = 2)) (hk : 0 ≤ k) (hk' : k ≤ 4) (w : World) :
    Calls Try.prog 80 #[.int .i64 f, .int .i64 (j : Nat), .int .i64 k] w fun e w' => e = .returned (.bool (takesP f j k)) ∧ w' = w := by
  have hc : k = 0 ∨ k = 1 ∨ k = 2 ∨ k = 3 ∨ k = 4 := by omega
  clear hk hk'
  rcases h with ⟨rfl, rfl⟩ | ⟨rfl, rfl⟩ | ⟨rfl, rfl⟩ | ⟨rfl, rfl⟩ | ⟨rfl, rfl⟩ | ⟨rfl, rfl⟩ | ⟨rfl, rfl⟩ <;> rcases hc with rfl | rfl | rfl | rfl | rfl
  all_goals
    simp only [Int.natCast_zero, Int.cast_ofNat_Int]
    go_enter Try.func80, Try.ntmps80
    go_wp2
    go_ret
    exact ⟨rfl, rfl⟩
end Go.Proofs.Ytinflndbfdbnhaa.Exp

/- quarryref01.Compare of two numbers, or two truths. -/
set_option linter.unusedVariables false
set_option linter.unusedSimpArgs false
namespace Go.Proofs.Ytinflndbfdbnhaa.Exp
open Go.RowKit Go.Proofs.Ytinflndbfdbnhaa.Base Go.Proofs.Ytinflndbfdbnhaa.App Go.Proofs.Ytinflndbfdbnhaa.Byt

set_option maxRecDepth 100000 in
set_option maxHeartbeats 6400000 in
theorem rcompare_num (k a b : Int) (hk : k = 1 ∨ k = 2) (w : World) :
    Calls Try.prog 76 #[.agg #[.int .i64 k, .int .i64 a, .string ⟨#[]⟩], .agg #[.int .i64 k, .int .i64 b, .string ⟨#[]⟩]] w fun e w' => e = .returned (.int .i64 (if a < b then -1 else if b < a then 1 else 0)) ∧ Below w.heap.size w w' := by
  rcases hk with rfl | rfl
  all_goals
    by_cases hl : a < b
    · rw [if_pos hl]
      have hne : (a == b) = false := by rw [beq_eq_false_iff_ne]; omega
      go_enter Try.func76, Try.ntmps76
      go_wp2
      go_ret
      exact ⟨rfl, below_alloc (below_alloc (Below.refl _ _) _) _⟩
    · rw [if_neg hl]
      by_cases hg : b < a
      · rw [if_pos hg]
        have hne : (a == b) = false := by rw [beq_eq_false_iff_ne]; omega
        go_enter Try.func76, Try.ntmps76
        go_wp2
        go_ret
        exact ⟨rfl, below_alloc (below_alloc (Below.refl _ _) _) _⟩
      · rw [if_neg hg]
        have heq : a = b := by omega
        subst heq
        go_enter Try.func76, Try.ntmps76
        go_wp2
        go_ret
        exact ⟨rfl, below_alloc (below_alloc (Below.refl _ _) _) _⟩
end Go.Proofs.Ytinflndbfdbnhaa.Exp

/- quarryref01.texts. -/
set_option linter.unusedVariables false
set_option linter.unusedSimpArgs false
namespace Go.Proofs.Ytinflndbfdbnhaa.Exp
open Go.RowKit Go.Proofs.Ytinflndbfdbnhaa.Base Go.Proofs.Ytinflndbfdbnhaa.App Go.Proofs.Ytinflndbfdbnhaa.Byt

theorem cmp_drop {S T : List UInt8} {k : Nat} (h : k < S.length) (h' : k < T.length) : Lib.compareBytes (S.drop k) (T.drop k) = if S[k] < T[k] then -1 else if T[k] < S[k] then 1 else Lib.compareBytes (S.drop (k + 1)) (T.drop (k + 1)) := by
  rw [List.drop_eq_getElem_cons h, List.drop_eq_getElem_cons h', Lib.compareBytes]
set_option maxRecDepth 100000 in
set_option maxHeartbeats 6400000 in
theorem rtexts_calls (s t : ByteArray) (hs : s.size ≤ 140737488351232) (ht : t.size ≤ 140737488351232) (w : World) :
    Calls Try.prog 117 #[.string s, .string t] w fun e w' => e = .returned (.int .i64 (Lib.compareBytes s.data.toList t.data.toList)) ∧ Below w.heap.size w w' := by
  go_enter Try.func117, Try.ntmps117
  go_wp2
  go_loopw [5] (fun i wr => ∃ k : Nat, k ≤ s.size ∧ k ≤ t.size ∧ i = .int .i64 (k : Int) ∧ Asd (Below w.heap.size w wr) ∧ Asd (Lib.compareBytes s.data.toList t.data.toList = Lib.compareBytes (s.data.toList.drop k) (t.data.toList.drop k))) (fun i _ => s.size - (intOf i).toNat)
  case atStart => exact ⟨0, by omega, by omega, rfl, ⟨Below.refl _ _⟩, ⟨rfl⟩⟩
  case round =>
    obtain ⟨k, hk, hk', rfl, HBR, HQ⟩ := hrel
    by_cases h1 : k < s.size
    · by_cases h2 : k < t.size
      · have HD : Asd (Lib.compareBytes (s.data.toList.drop k) (t.data.toList.drop k) = if s[k] < t[k] then -1 else if t[k] < s[k] then 1 else Lib.compareBytes (s.data.toList.drop (k + 1)) (t.data.toList.drop (k + 1))) := Asd.mk (cmp_drop (S := s.data.toList) (T := t.data.toList) h1 h2)
        have hk0 : (0 : Int) ≤ (k : Int) := by omega
        have hb1 := s[k].toNat_lt
        have hb2 := t[k].toNat_lt
        have HLT : Asd (s[k] < t[k] ↔ ((s[k].toNat : Nat) : Int) < ((t[k].toNat : Nat) : Int)) := Asd.mk (by rw [UInt8.lt_iff_toNat_lt]; omega)
        have HGT : Asd (t[k] < s[k] ↔ ((t[k].toNat : Nat) : Int) < ((s[k].toNat : Nat) : Int)) := Asd.mk (by rw [UInt8.lt_iff_toNat_lt]; omega)
        by_cases hlt : ((s[k].toNat : Nat) : Int) < ((t[k].toNat : Nat) : Int)
        · have HR : Asd (Lib.compareBytes s.data.toList t.data.toList = -1) := Asd.mk (by rw [HQ.out, HD.out, if_pos (HLT.out.mpr hlt)])
          go_upto_region 4 with fail
          go_region
          all_goals go_wp2
          all_goals go_ret
          all_goals exact ⟨ret_eq (by rw [HR.out]; rfl), HBR.out.drew⟩
        · by_cases hgt : ((t[k].toNat : Nat) : Int) < ((s[k].toNat : Nat) : Int)
          · have HR : Asd (Lib.compareBytes s.data.toList t.data.toList = 1) := Asd.mk (by rw [HQ.out, HD.out, if_neg (fun h => hlt (HLT.out.mp h)), if_pos (HGT.out.mpr hgt)])
            go_upto_region 4 with fail
            go_region
            go_upto_region 6 with fail
            go_region
            all_goals go_wp2
            all_goals go_ret
            all_goals exact ⟨ret_eq (by rw [HR.out]; rfl), HBR.out.drew.drew⟩
          · have HQ2 : Asd (Lib.compareBytes s.data.toList t.data.toList = Lib.compareBytes (s.data.toList.drop (k + 1)) (t.data.toList.drop (k + 1))) := Asd.mk (by rw [HQ.out, HD.out, if_neg (fun h => hlt (HLT.out.mp h)), if_neg (fun h => hgt (HGT.out.mp h))])
            have HB2 := Asd.mk HBR.out.drew.drew
            go_upto_region 4 with fail
            go_region
            go_upto_region 6 with fail
            go_region
            go_wp2
            go_roundw
            case rel => exact ⟨k + 1, by omega, by omega, by go_num, HB2, HQ2⟩
            case measure => simp [intOf]; omega
      · have HR : Asd (Lib.compareBytes s.data.toList t.data.toList = 1) := Asd.mk (by
          rw [HQ.out, List.drop_of_length_le (l := t.data.toList) (by show t.size ≤ k; omega), List.drop_eq_getElem_cons (l := s.data.toList) h1]
          rfl)
        have hg : (t.size : Int) < (s.size : Int) := by omega
        go_wp2
        go_ret
        exact ⟨ret_eq (by rw [HR.out]; rfl), HBR.out⟩
    · by_cases h2 : k < t.size
      · have HR : Asd (Lib.compareBytes s.data.toList t.data.toList = -1) := Asd.mk (by
          rw [HQ.out, List.drop_of_length_le (l := s.data.toList) (by show s.size ≤ k; omega), List.drop_eq_getElem_cons (l := t.data.toList) h2]
          rfl)
        have hg : (s.size : Int) < (t.size : Int) := by omega
        go_wp2
        go_ret
        exact ⟨ret_eq (by rw [HR.out]; rfl), HBR.out⟩
      · have HR : Asd (Lib.compareBytes s.data.toList t.data.toList = 0) := Asd.mk (by
          rw [HQ.out, List.drop_of_length_le (l := s.data.toList) (by show s.size ≤ k; omega), List.drop_of_length_le (l := t.data.toList) (by show t.size ≤ k; omega)]
          rfl)
        have hg : ¬ (s.size : Int) < (t.size : Int) := by omega
        have hg2 : ¬ (t.size : Int) < (s.size : Int) := by omega
        go_wp2
        go_ret
        exact ⟨ret_eq (by rw [HR.out]; rfl), HBR.out⟩
end Go.Proofs.Ytinflndbfdbnhaa.Exp

/- quarryref01.Compare of two right values of one kind: cmpV. -/
set_option linter.unusedVariables false
set_option linter.unusedSimpArgs false
namespace Go.Proofs.Ytinflndbfdbnhaa.Exp
open Go.RowKit Go.Proofs.Ytinflndbfdbnhaa.Base Go.Proofs.Ytinflndbfdbnhaa.App Go.Proofs.Ytinflndbfdbnhaa.Byt

set_option maxRecDepth 100000 in
set_option maxHeartbeats 6400000 in
theorem rcompare_txt (k : Int) (s t : ByteArray) (hk : k = 3 ∨ k = 4) (hs : s.size ≤ 140737488351232) (ht : t.size ≤ 140737488351232) (w : World) :
    Calls Try.prog 76 #[.agg #[.int .i64 k, .int .i64 0, .string s], .agg #[.int .i64 k, .int .i64 0, .string t]] w fun e w' => e = .returned (.int .i64 (Lib.compareBytes s.data.toList t.data.toList)) ∧ Below w.heap.size w w' := by
  have HT := Asd.mk (rtexts_calls s t hs ht)
  clear hs ht
  generalize Lib.compareBytes s.data.toList t.data.toList = c at HT ⊢
  rcases hk with rfl | rfl
  all_goals
    have HB0 := Asd.mk (below_alloc (Below.refl _ w) (.cells #[.int .i64 0, .int .i64 0, .string s] 23))
    go_enter Try.func76, Try.ntmps76
    go_wp2_with fail
    refine (HT.out _).mono ?_
    rintro e w2 ⟨rfl, hb2⟩
    have HB2 := Asd.mk (below_step (below_alloc (below_alloc (Below.refl _ _) _) _) hb2)
    clear hb2 HB0
    go_wp2
    go_ret
    exact ⟨rfl, HB2.out⟩
theorem rcompare_calls {a b : Vl} (ha : RV a) (hb : RV b) (hk : a.kind = b.kind) (h0 : ¬ a.kind = 0) (la : a.text.length ≤ 140737488351232) (lb : b.text.length ≤ 140737488351232) (w : World) :
    Calls Try.prog 76 #[vC a, vC b] w fun e w' => e = .returned (.int .i64 (cmpV a b)) ∧ Below w.heap.size w w' := by
  cases ha with
  | null => exact absurd rfl h0
  | bool x => cases hb with
    | bool y => exact rcompare_num 1 _ _ (.inl rfl) w
    | null => simp [vNull, vTru, vNum, vTxt] at hk
    | num n h => simp [vNull, vTru, vNum, vTxt] at hk
    | text s h => simp [vNull, vTru, vNum, vTxt] at hk
    | blob s h => simp [vNull, vTru, vNum, vTxt] at hk
  | num n h => cases hb with
    | num m h2 => exact rcompare_num 2 _ _ (.inr rfl) w
    | null => simp [vNull, vTru, vNum, vTxt] at hk
    | bool y => simp [vNull, vTru, vNum, vTxt] at hk
    | text s h => simp [vNull, vTru, vNum, vTxt] at hk
    | blob s h => simp [vNull, vTru, vNum, vTxt] at hk
  | text s h => cases hb with
    | text t h2 => exact rcompare_txt 3 ⟨s.toArray⟩ ⟨t.toArray⟩ (.inl rfl) la lb w
    | null => simp [vNull, vTru, vNum, vTxt] at hk
    | bool y => simp [vNull, vTru, vNum, vTxt] at hk
    | num n h => simp [vNull, vTru, vNum, vTxt] at hk
    | blob s h => simp [vNull, vTru, vNum, vTxt] at hk
  | blob s h => cases hb with
    | blob t h2 => exact rcompare_txt 4 ⟨s.toArray⟩ ⟨t.toArray⟩ (.inr rfl) la lb w
    | null => simp [vNull, vTru, vNum, vTxt] at hk
    | bool y => simp [vNull, vTru, vNum, vTxt] at hk
    | num n h => simp [vNull, vTru, vNum, vTxt] at hk
    | text s h => simp [vNull, vTru, vNum, vTxt] at hk
end Go.Proofs.Ytinflndbfdbnhaa.Exp
