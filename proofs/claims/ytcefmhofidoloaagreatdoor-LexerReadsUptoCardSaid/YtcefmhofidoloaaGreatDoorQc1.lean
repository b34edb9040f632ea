/- Texts put together: Base, Shelf, Tok, Litp, Eqs, Kw, Val, Bld, App, Lit, Bytes, Lx1, As. -/
import Derived.Below
import Derived.WalkKit
import Derived.ProofKit
import Derived.Laws.IdiomCopy
import Derived.Deep.Draws
import Derived.Shelf.Strings.Builder1
import Derived.Shelf.Strings.Builder2
import Derived.Shelf.Strings.OnBuilder
import Derived.Shelf.Small.Utf8
import Derived.Shelf.Small.Strs
import Derived.Shelf.Strings.BuilderF
import Derived.Shelf.Strings.BuilderK
import Derived.Shelf.Utf8.RuneCount
import Derived.Shelf.Strconv.Itoa0
import Derived.Shelf.Strconv.Itoa1
import Derived.Shelf.LaysM
import Derived.Shelf.Strconv.Itoa2
import Derived.Shelf.Strconv.Itoa3
import Derived.Shelf.Strconv.Itoa4
import Derived.Shelf.Strconv.ParseIntEmpty
import Derived.Shelf.Strconv.Clone
import Derived.Shelf.Strconv.SyntaxError
import Derived.Shelf.LaysC
import Derived.Shelf.Strconv.ToError
import Derived.Shelf.Strconv.Lower
import Derived.Shelf.Strconv.ParseUint10
import Derived.Shelf.Strconv.ParseUint10Empty
import Derived.Shelf.Strconv.ParseUint10Any
import Derived.Shelf.Strconv.ParseInt10
import Derived.Shelf.Strconv.RangeError
import Derived.Shelf.Strconv.ToErrorRange
import Derived.Shelf.Strconv.ParseUintEmpty
import Derived.Shelf.Strconv.ParseUint10b64
import Derived.Shelf.Strconv.ParseUint10b32
import Derived.Shelf.Strconv.ParseUint10b16
import Derived.Shelf.Strconv.ParseUint10b8
import Derived.Shelf.Strconv.ParseUint10At
import Derived.Shelf.Strconv.ParseInt10At64
import Derived.Shelf.Strconv.ParseInt10At32
import Derived.Shelf.Strconv.ParseInt10At16
import Derived.Shelf.Strconv.ParseInt10At8
import Derived.Shelf.Strconv.ParseInt10All
import Derived.Shelf.Strconv.ParseIntPublic10
import Derived.Shelf.Strconv.ErrVarParseInt
import Derived.Ground.MpProg
import Derived.Shelf.Pu.ParseUintPublic10
import Derived.Shelf.Pu.ErrVarParseUint
import Derived.Shelf.Strings.Search1
import Derived.Shelf.Strings.Search2
import Derived.Shelf.Strings.Search3
import Derived.Shelf.Strings.Cut
import Derived.Shelf.Strings.Count
import Derived.Shelf.Strings.Shaped
import Derived.Shelf.Strings.Prefix
import Derived.Shelf.Strings.Split
import Derived.Shelf.Strings.Replace
import Derived.Shelf.Strings.SplitShaped
import Derived.Shelf.Unicode.Decode
import Derived.Shelf.Strings.Runes
import Derived.Shelf.Strings.RuneCount
import Derived.Shelf.Strings.IndexAny
import Derived.Shelf.Strings.AsciiSet
import Derived.Shelf.Strings.IndexAnyAll
import Derived.Shelf.Unicode.DecodeSlow
import Derived.Shelf.Unicode.DecodeAny
import Derived.Shelf.Slices.Turned
import Derived.Test.YtcefmhofidoloaaGreatDoorProg
import Derived.Lib.Replace
import Derived.Lib.IndexLaws
import Derived.Laws.StructEq
import Derived.KernelRfl
import Derived.OwnWalk
import Derived.RegionTactic
import Derived.ChangeAlike
import Derived.Deep.QuietTactic
import Derived.BigQuiet
import Derived.Deep.RegionWith
import Derived.WalkSpells
import Derived.WalkLawsBesides
import Derived.Outline
import Derived.Deep.AppendLies
import Derived.Laws.AppendOwn
import Derived.Laws.OwnMore
import Derived.Laws.BytesString
import Derived.Laws.Cells
import Derived.LaidEql
import Derived.Stop.Asserts
import Derived.RowKitTokens
/- Words on worlds for the proofs of this seat: which blocks a call may turn, and what a block that is not turned still holds. -/
set_option linter.unusedVariables false
namespace Go.Proofs.YtcefmhofidoloaaGreatDoor.Base
open Go.RowKit

/-- All blocks of w outside S are as they were; what is new comes behind them. -/
structure Fr (S : Nat → Prop) (w w' : World) : Prop where
  os : w'.os = w.os
  tape : w'.tape = w.tape
  output : w'.output = w.output
  size : w.heap.size ≤ w'.heap.size
  block : ∀ k, k < w.heap.size → ¬ S k → w'.heap[k]? = w.heap[k]?

theorem Fr.refl (S : Nat → Prop) (w : World) : Fr S w w := ⟨rfl, rfl, rfl, Nat.le_refl _, fun _ _ _ => rfl⟩
theorem Fr.trans {S T U : Nat → Prop} {a b c : World} (h : Fr S a b) (k : Fr T b c) (hs : ∀ k, S k → k < a.heap.size → U k) (ht : ∀ k, T k → k < a.heap.size → U k) : Fr U a c :=
  ⟨k.os.trans h.os, k.tape.trans h.tape, k.output.trans h.output, Nat.le_trans h.size k.size, fun i hi hu => (k.block i (Nat.lt_of_lt_of_le hi h.size) (fun h' => hu (ht i h' hi))).trans (h.block i hi (fun h' => hu (hs i h' hi)))⟩
theorem Fr.mono {S T : Nat → Prop} {a b : World} (h : Fr S a b) (hs : ∀ k, S k → k < a.heap.size → T k) : Fr T a b :=
  ⟨h.os, h.tape, h.output, h.size, fun i hi hu => h.block i hi (fun h' => hu (hs i h' hi))⟩
theorem Fr.below {S : Nat → Prop} {a b : World} (h : Fr S a b) (hs : ∀ k, S k → a.heap.size ≤ k) : Below a.heap.size a b :=
  ⟨h.os, h.tape, h.output, h.size, fun i hi => h.block i hi (fun h' => by have := hs i h'; omega)⟩
theorem Fr.of_below {S : Nat → Prop} {a b : World} (h : Below a.heap.size a b) : Fr S a b :=
  ⟨h.os, h.tape, h.output, h.size, fun i hi _ => h.block i hi⟩
theorem Fr.of_grown {S : Nat → Prop} {a b : World} {row : Option Nat} (h : a.grownBy b row) (hs : ∀ k, row = some k → S k) : Fr S a b :=
  ⟨h.os, h.tape, h.output, h.size, fun i hi hu => h.block i hi (fun h' => hu (hs i h'.symm))⟩
theorem Fr.setCell {S : Nat → Prop} {a b : World} (h : Fr S a b) {p : Addr} (hp : S p.block) (u : Value) : Fr S a (b.setCell p u) :=
  ⟨h.os, h.tape, h.output, by simpa [World.setCell] using h.size, fun i hi hu => (Below.heap_setCell b p u i (fun e => hu (e ▸ hp))).trans (h.block i hi hu)⟩
theorem Fr.setNew {S : Nat → Prop} {a b : World} (h : Fr S a b) {p : Addr} (hp : a.heap.size ≤ p.block) (u : Value) : Fr S a (b.setCell p u) :=
  ⟨h.os, h.tape, h.output, by simpa [World.setCell] using h.size, fun i hi hu => (Below.heap_setCell b p u i (by omega)).trans (h.block i hi hu)⟩
theorem Fr.drewN {S : Nat → Prop} {a b : World} (h : Fr S a b) (n : Nat) : Fr S a (b.drewN n) := ⟨h.os, h.tape, h.output, h.size, h.block⟩
theorem Fr.drew {S : Nat → Prop} {a b : World} (h : Fr S a b) : Fr S a b.drew := ⟨h.os, h.tape, h.output, h.size, h.block⟩
theorem Fr.alloc {S : Nat → Prop} {a b : World} (h : Fr S a b) (o : Obj) : Fr S a (b.alloc o) :=
  ⟨h.os, h.tape, h.output, Nat.le_trans h.size (by simp), fun i hi hu => (Below.heap_alloc b o i (by have := h.size; omega)).trans (h.block i hi hu)⟩

theorem heap_setCells (b : Nat) : ∀ (vs : List Value) (o : Nat) (w : World) (k : Nat), k ≠ b → (w.setCells b o vs).heap[k]? = w.heap[k]?
  | [], _, _, _, _ => rfl
  | v :: vs, o, w, k, h => by
    show ((w.setCell ⟨b, o, none⟩ v).setCells b (o + 1) vs).heap[k]? = _
    rw [heap_setCells b vs (o + 1) _ k h, Below.heap_setCell _ _ _ _ h]

theorem setCells_os (b : Nat) : ∀ (vs : List Value) (o : Nat) (w : World), (w.setCells b o vs).os = w.os
  | [], _, _ => rfl
  | v :: vs, o, w => by show ((w.setCell ⟨b, o, none⟩ v).setCells b (o + 1) vs).os = _; rw [setCells_os b vs]; rfl
theorem setCells_tape (b : Nat) : ∀ (vs : List Value) (o : Nat) (w : World), (w.setCells b o vs).tape = w.tape
  | [], _, _ => rfl
  | v :: vs, o, w => by show ((w.setCell ⟨b, o, none⟩ v).setCells b (o + 1) vs).tape = _; rw [setCells_tape b vs]; rfl
theorem setCells_output (b : Nat) : ∀ (vs : List Value) (o : Nat) (w : World), (w.setCells b o vs).output = w.output
  | [], _, _ => rfl
  | v :: vs, o, w => by show ((w.setCell ⟨b, o, none⟩ v).setCells b (o + 1) vs).output = _; rw [setCells_output b vs]; rfl
theorem setCells_size (b : Nat) : ∀ (vs : List Value) (o : Nat) (w : World), (w.setCells b o vs).heap.size = w.heap.size
  | [], _, _ => rfl
  | v :: vs, o, w => by show ((w.setCell ⟨b, o, none⟩ v).setCells b (o + 1) vs).heap.size = _; rw [setCells_size b vs]; simp [World.setCell]
/-- A row's cells written from o on. -/
def putCells (cur : Array Value) : Nat → List Value → Array Value
  | _, [] => cur
  | o, v :: vs => putCells (cur.setIfInBounds o v) (o + 1) vs
theorem setCells_heap {b : Nat} {t : TypeId} {fr : Nat × Nat} : ∀ (vs : List Value) {cur : Array Value} (o : Nat) {w : World}, w.heap[b]? = some (.cells cur t fr) → (w.setCells b o vs).heap[b]? = some (.cells (putCells cur o vs) t fr)
  | [], _, _, _, h => h
  | v :: vs, cur, o, w, h => by
    show ((w.setCell ⟨b, o, none⟩ v).setCells b (o + 1) vs).heap[b]? = _
    refine setCells_heap vs (o + 1) (cur := cur.setIfInBounds o v) ?_
    simp [World.setCell, Array.getElem?_modify, h]
theorem putCells_size : ∀ (vs : List Value) (cur : Array Value) (o : Nat), (putCells cur o vs).size = cur.size
  | [], _, _ => rfl
  | v :: vs, cur, o => by simp only [putCells]; rw [putCells_size vs]; simp
theorem putCells_get : ∀ (vs : List Value) (cur : Array Value) (o j : Nat), o + vs.length ≤ cur.size → (putCells cur o vs)[j]? = if o ≤ j ∧ j < o + vs.length then vs[j - o]? else cur[j]?
  | [], cur, o, j, _ => by simp [putCells]; omega
  | v :: vs, cur, o, j, h => by
    simp only [putCells]
    simp only [List.length_cons] at h ⊢
    rw [putCells_get vs _ (o + 1) j (by simp; omega)]
    by_cases h1 : o + 1 ≤ j ∧ j < o + 1 + vs.length
    · rw [if_pos h1, if_pos (by omega), show j - o = (j - (o + 1)) + 1 by omega]; simp
    · rw [if_neg h1]
      by_cases h2 : j = o
      · subst h2; rw [if_pos (by omega)]; simp [Array.getElem?_setIfInBounds]; omega
      · rw [if_neg (by omega), Array.getElem?_setIfInBounds, if_neg (by omega)]
theorem putCells_take (vs : List Value) (cur : Array Value) (h : vs.length ≤ cur.size) : (putCells cur 0 vs).toList.take vs.length = vs := by
  apply List.ext_getElem?
  intro j
  by_cases hj : j < vs.length
  · rw [List.getElem?_take, if_pos hj, Array.getElem?_toList, putCells_get vs cur 0 j (by omega), if_pos (by omega)]; simp
  · rw [List.getElem?_take, if_neg hj, List.getElem?_eq_none (by omega)]

theorem blk_cell {W : World} {g : Nat} {cs : Array Value} {t : TypeId} {fr : Nat × Nat} (h : W.heap[g]? = some (.cells cs t fr)) (j : Nat) : W.cell? ⟨g, j, none⟩ = cs[j]? := by simp [World.cell?, h]
theorem blk_frozen {W : World} {g : Nat} {cs : Array Value} {t : TypeId} (h : W.heap[g]? = some (.cells cs t (0, 0))) (j : Nat) : W.frozen? ⟨g, j, none⟩ = false := by simp [World.frozen?, h]
theorem blk_lt {W : World} {g : Nat} {o : Obj} (h : W.heap[g]? = some o) : g < W.heap.size := (Array.getElem?_eq_some_iff.1 h).1
theorem blk_set {W : World} {g : Nat} {cs : Array Value} {t : TypeId} {fr : Nat × Nat} (h : W.heap[g]? = some (.cells cs t fr)) (j : Nat) (v : Value) : (W.setCell ⟨g, j, none⟩ v).heap[g]? = some (.cells (cs.setIfInBounds j v) t fr) := by
  simp [World.setCell, Array.getElem?_modify, h]
theorem blk_far {W : World} {g : Nat} {o : Obj} (h : W.heap[g]? = some o) {p : Addr} (hp : g ≠ p.block) (v : Value) : (W.setCell p v).heap[g]? = some o := by
  rw [Below.heap_setCell _ _ _ _ hp]; exact h
theorem blk_alloc {W : World} {g : Nat} {o : Obj} (h : W.heap[g]? = some o) (o' : Obj) : (W.alloc o').heap[g]? = some o := by
  rw [Below.heap_alloc _ _ _ (blk_lt h)]; exact h
theorem blk_new (W : World) (o : Obj) : (W.alloc o).heap[W.heap.size]? = some o := by
  show (W.heap.push o)[W.heap.size]? = _; simp
theorem blk_fr {S : Nat → Prop} {W W' : World} {g : Nat} {o : Obj} (h : W.heap[g]? = some o) (hf : Fr S W W') (hs : ¬ S g) : W'.heap[g]? = some o :=
  (hf.block g (blk_lt h) hs).trans h
/-- A fact that the walk does not look into. -/
structure Asd (p : Prop) : Prop where mk :: (out : p)
theorem ret_eq {v v' : Value} (h : v = v') : Ending.returned v = Ending.returned v' := by rw [h]
end Go.Proofs.YtcefmhofidoloaaGreatDoor.Base

/-
  DERIVED: THE SHELF's CONTRACTS AT THIS DUMP, IN PLAIN WORDS (tools/lay-plain.mjs out of 'TryzShelf.lean', which tools/lay-shelf.mjs wrote): THE SAME DECLARATIONS UNDER THE SAME NAMES: 'import', 'namespace', 'open', 'def', 'theorem' AND NOTHING ELSE: no command of the shelf's: FOR A HAND-IN. Each laying: the table of numbers ('.._ren') and one theorem, a field a fact of the dump's own or the kernel's comparison; each contract: ONE APPLICATION.
-/
namespace Go.Proofs
open Go.Shelf
def Tryz.lays169_ren : Go.Shelf.Ren := ⟨fun | 169 => 94 | n => n, fun | 70 => 147 | 9 => 9 | 0 => 0 | 72 => 149 | 37 => 120 | 127 => 202 | 3 => 3 | 5 => 5 | n => n, fun | n => n⟩
theorem Tryz.lays169 : Go.Proofs.Lays.n169 Tryz.prog Tryz.lays169_ren := {
  mixed := by kernel_rfl
  f169 := Tryz.func94.trans (congrArg some (by kernel_rfl))
  t0 := Tryz.underlying0
  a0 := Tryz.isAgg0
  z0 := Tryz.sizeOf0
  v0 := Tryz.zeroValue0
  t3 := Tryz.underlying3
  a3 := Tryz.isAgg3
  z3 := Tryz.sizeOf3
  v3 := Tryz.zeroValue3
  t9 := Tryz.underlying9
  a9 := Tryz.isAgg9
  z9 := Tryz.sizeOf9
  v9 := Tryz.zeroValue9
  t37 := Tryz.underlying120
  a37 := Tryz.isAgg120
  z37 := Tryz.sizeOf120
  v37 := Tryz.zeroValue120
  t70 := Tryz.underlying147
  a70 := Tryz.isAgg147
  z70 := Tryz.sizeOf147
  v70 := Tryz.zeroValue147
  t72 := Tryz.underlying149
  a72 := Tryz.isAgg149
  z72 := Tryz.sizeOf149
  v72 := Tryz.zeroValue149
  t127 := Tryz.underlying202
  a127 := Tryz.isAgg202
  z127 := Tryz.sizeOf202
  v127 := Tryz.zeroValue202 }
theorem Tryz.Builder_Extra_169 : Builder.Extra Tryz.prog Tryz.lays169_ren := {
  sizeBuilder := by kernel_rfl
  liesBuilder := by kernel_rfl
  t5 := Tryz.underlying5
  a5 := Tryz.isAgg5
  z5 := Tryz.sizeOf5
  v5 := Tryz.zeroValue5
  infoByte := by kernel_rfl
  cellsByte := by kernel_rfl
  sizeByte := by kernel_rfl
  neB5 := by decide }
open Go.RowKit in
/-- (*strings.Builder).String: "String returns the accumulated string.": WHATEVER THE BUILDER HOLDS. (LAID: no walk: one application.) -/
theorem Tryz.Builder_String_any (B b : Nat) (l : List UInt8) (w : World) (h : Lib.IsBuilder 149 5 B b (Lib.byteCells l) w) (hBw : B ≤ w.heap.size) :
    Calls Tryz.prog 94 #[.pointer (some ⟨b, 0, none⟩)] w fun e w' => e = .returned (.string ⟨l.toArray⟩) ∧ Below B w w' := Any.Builder_String_any Tryz.lays169 Tryz.Builder_Extra_169 B b l w h hBw
def Tryz.lays156_ren : Go.Shelf.Ren := ⟨fun | 156 => 34 | 165 => 92 | 166 => 93 | 169 => 94 | 240 => 165 | 241 => 166 | 276 => 220 | 277 => 221 | n => n, fun | 31 => 27 | 9 => 9 | 3 => 3 | 4 => 4 | 0 => 0 | 20 => 20 | 72 => 149 | 76 => 151 | 70 => 147 | 37 => 120 | 75 => 42 | 127 => 202 | 164 => 167 | 5 => 5 | 80 => 112 | n => n, fun | n => n⟩
theorem Tryz.lays156 : Go.Proofs.Lays.n156 Tryz.prog Tryz.lays156_ren := {
  mixed := by kernel_rfl
  f156 := Tryz.func34.trans (congrArg some (by kernel_rfl))
  f165 := Tryz.func92.trans (congrArg some (by kernel_rfl))
  f166 := Tryz.func93.trans (congrArg some (by kernel_rfl))
  f169 := Tryz.func94.trans (congrArg some (by kernel_rfl))
  f240 := Tryz.func165.trans (congrArg some (by kernel_rfl))
  f241 := Tryz.func166.trans (congrArg some (by kernel_rfl))
  f276 := Tryz.func220.trans (congrArg some (by kernel_rfl))
  f277 := Tryz.func221.trans (congrArg some (by kernel_rfl))
  t0 := Tryz.underlying0
  a0 := Tryz.isAgg0
  z0 := Tryz.sizeOf0
  v0 := Tryz.zeroValue0
  t3 := Tryz.underlying3
  a3 := Tryz.isAgg3
  z3 := Tryz.sizeOf3
  v3 := Tryz.zeroValue3
  t4 := Tryz.underlying4
  a4 := Tryz.isAgg4
  z4 := Tryz.sizeOf4
  v4 := Tryz.zeroValue4
  t9 := Tryz.underlying9
  a9 := Tryz.isAgg9
  z9 := Tryz.sizeOf9
  v9 := Tryz.zeroValue9
  t20 := Tryz.underlying20
  a20 := Tryz.isAgg20
  z20 := Tryz.sizeOf20
  v20 := Tryz.zeroValue20
  t31 := Tryz.underlying27
  a31 := Tryz.isAgg27
  z31 := Tryz.sizeOf27
  v31 := Tryz.zeroValue27
  t37 := Tryz.underlying120
  a37 := Tryz.isAgg120
  z37 := Tryz.sizeOf120
  v37 := Tryz.zeroValue120
  t70 := Tryz.underlying147
  a70 := Tryz.isAgg147
  z70 := Tryz.sizeOf147
  v70 := Tryz.zeroValue147
  t72 := Tryz.underlying149
  a72 := Tryz.isAgg149
  z72 := Tryz.sizeOf149
  v72 := Tryz.zeroValue149
  t75 := Tryz.underlying42
  a75 := Tryz.isAgg42
  z75 := Tryz.sizeOf42
  v75 := Tryz.zeroValue42
  t76 := Tryz.underlying151
  a76 := Tryz.isAgg151
  z76 := Tryz.sizeOf151
  v76 := Tryz.zeroValue151
  t127 := Tryz.underlying202
  a127 := Tryz.isAgg202
  z127 := Tryz.sizeOf202
  v127 := Tryz.zeroValue202
  t164 := Tryz.underlying167
  a164 := Tryz.isAgg167
  z164 := Tryz.sizeOf167
  v164 := Tryz.zeroValue167 }
theorem Tryz.Builder_Extra_156 : Builder.Extra Tryz.prog Tryz.lays156_ren := {
  sizeBuilder := by kernel_rfl
  liesBuilder := by kernel_rfl
  t5 := Tryz.underlying5
  a5 := Tryz.isAgg5
  z5 := Tryz.sizeOf5
  v5 := Tryz.zeroValue5
  infoByte := by kernel_rfl
  cellsByte := by kernel_rfl
  sizeByte := by kernel_rfl
  neB5 := by decide }
open Go.RowKit in
/-- No element: the empty string; the world is as it was. (Whatever the slice's address and capacity: a nil slice too.) (LAID: no walk: one application.) -/
theorem Tryz.strings_Join_none (a : Option Addr) (c : Nat) (sep : ByteArray) (w : World) :
    Calls Tryz.prog 34 #[.slice a 0 c, .string sep] w fun e w' => e = .returned (.string ⟨#[]⟩) ∧ w' = w := Any.strings_Join_none Tryz.lays156 Tryz.Builder_Extra_156 a c sep w
open Go.RowKit in
/-- strings.Join: "Join concatenates the elements of its first argument to create a single string. The separator string sep is placed between elements in the resulting string.": HOWEVER MANY ELEMENTS. Below the heap's end the world is as it was. (LAID: no walk: one application.) -/
theorem Tryz.strings_Join (bk o c : Nat) (xs : List ByteArray) (sep : ByteArray) (w : World) (hcells : ∀ (j : Nat) x, xs[j]? = some x → w.cell? ⟨bk, o + j, none⟩ = some (.string x)) (hbk : bk < w.heap.size) (hN : xs.length ≤ 140737488355328) (hcap : xs.length ≤ c) (hlen : (Lib.join (xs.map (·.data.toList)) sep.data.toList).length ≤ 140737488355328) :
    Calls Tryz.prog 34 #[.slice (some ⟨bk, o, none⟩) xs.length c, .string sep] w fun e w' => e = .returned (.string ⟨(Lib.join (xs.map (·.data.toList)) sep.data.toList).toArray⟩) ∧ Below w.heap.size w w' := Any.strings_Join Tryz.lays156 Tryz.Builder_Extra_156 bk o c xs sep w hcells hbk hN hcap hlen
def Tryz.lays137_ren : Go.Shelf.Ren := ⟨fun | 137 => 51 | 217 => 105 | 266 => 171 | n => n, fun | 9 => 9 | 5 => 5 | 3 => 3 | n => n, fun | n => n⟩
theorem Tryz.lays137 : Go.Proofs.Lays.n137 Tryz.prog Tryz.lays137_ren := {
  mixed := by kernel_rfl
  f137 := Tryz.func51.trans (congrArg some (by kernel_rfl))
  f217 := Tryz.func105.trans (congrArg some (by kernel_rfl))
  f266 := Tryz.func171.trans (congrArg some (by kernel_rfl))
  t3 := Tryz.underlying3
  a3 := Tryz.isAgg3
  z3 := Tryz.sizeOf3
  v3 := Tryz.zeroValue3
  t5 := Tryz.underlying5
  a5 := Tryz.isAgg5
  z5 := Tryz.sizeOf5
  v5 := Tryz.zeroValue5
  t9 := Tryz.underlying9
  a9 := Tryz.isAgg9
  z9 := Tryz.sizeOf9
  v9 := Tryz.zeroValue9 }
open Go.RowKit in
/-- strings.IndexByte: "IndexByte returns the index of the first instance of c in s, or -1 if c is not present in s.": IT RETURNS 'Lib.indexByte s c'; the world is as it was. (LAID: no walk: one application.) -/
theorem Tryz.strings_IndexByte (s : ByteArray) (c : Int) (w : World) :
    Calls Tryz.prog 51 #[.string s, .int .u8 c] w fun e w' => e = .returned (.int .i64 (Lib.indexByte s.data.toList c.toNat.toUInt8)) ∧ w' = w := Any.strings_IndexByte Tryz.lays137 s c w
def Tryz.laysM173_ren : Go.Shelf.Ren := ⟨fun | 173 => 56 | 246 => 127 | 283 => 182 | 284 => 183 | 285 => 184 | 286 => 185 | 129 => 232 | 317 => 231 | 318 => 233 | 319 => 234 | 320 => 235 | 337 => 261 | 338 => 262 | n => n, fun | 2 => 2 | 3 => 3 | 9 => 9 | 4 => 4 | 171 => 225 | 0 => 0 | 53 => 54 | 37 => 120 | 5 => 5 | 173 => 228 | 212 => 254 | 51 => 255 | 20 => 20 | 213 => 256 | 46 => 182 | 232 => 289 | 233 => 290 | n => n, fun | 17 => 2 | 18 => 5 | 19 => 6 | n => n⟩
theorem Tryz.laysM173 : Go.Proofs.LaysM.n173 Tryz.prog Tryz.laysM173_ren := {
  mixed := by kernel_rfl
  f129 := Tryz.func232.trans (congrArg some (by kernel_rfl))
  f173 := Tryz.func56.trans (congrArg some (by kernel_rfl))
  f246 := Tryz.func127.trans (congrArg some (by kernel_rfl))
  f283 := Tryz.func182.trans (congrArg some (by kernel_rfl))
  f284 := Tryz.func183.trans (congrArg some (by kernel_rfl))
  f285 := Tryz.func184.trans (congrArg some (by kernel_rfl))
  f286 := Tryz.func185.trans (congrArg some (by kernel_rfl))
  f317 := Tryz.func231.trans (congrArg some (by kernel_rfl))
  f318 := Tryz.func233.trans (congrArg some (by kernel_rfl))
  f319 := Tryz.func234.trans (congrArg some (by kernel_rfl))
  f320 := Tryz.func235.trans (congrArg some (by kernel_rfl))
  f337 := Tryz.func261.trans (congrArg some (by kernel_rfl))
  f338 := Tryz.func262.trans (congrArg some (by kernel_rfl))
  t0 := Tryz.underlying0
  a0 := Tryz.isAgg0
  z0 := Tryz.sizeOf0
  v0 := Tryz.zeroValue0
  t2 := Tryz.underlying2
  a2 := Tryz.isAgg2
  z2 := Tryz.sizeOf2
  v2 := Tryz.zeroValue2
  t3 := Tryz.underlying3
  a3 := Tryz.isAgg3
  z3 := Tryz.sizeOf3
  v3 := Tryz.zeroValue3
  t4 := Tryz.underlying4
  a4 := Tryz.isAgg4
  z4 := Tryz.sizeOf4
  v4 := Tryz.zeroValue4
  t5 := Tryz.underlying5
  a5 := Tryz.isAgg5
  z5 := Tryz.sizeOf5
  v5 := Tryz.zeroValue5
  t9 := Tryz.underlying9
  a9 := Tryz.isAgg9
  z9 := Tryz.sizeOf9
  v9 := Tryz.zeroValue9
  t20 := Tryz.underlying20
  a20 := Tryz.isAgg20
  z20 := Tryz.sizeOf20
  v20 := Tryz.zeroValue20
  t37 := Tryz.underlying120
  a37 := Tryz.isAgg120
  z37 := Tryz.sizeOf120
  v37 := Tryz.zeroValue120
  t46 := Tryz.underlying182
  a46 := Tryz.isAgg182
  z46 := Tryz.sizeOf182
  v46 := Tryz.zeroValue182
  t51 := Tryz.underlying255
  a51 := Tryz.isAgg255
  z51 := Tryz.sizeOf255
  v51 := Tryz.zeroValue255
  t53 := Tryz.underlying54
  a53 := Tryz.isAgg54
  z53 := Tryz.sizeOf54
  v53 := Tryz.zeroValue54
  t171 := Tryz.underlying225
  a171 := Tryz.isAgg225
  z171 := Tryz.sizeOf225
  v171 := Tryz.zeroValue225
  t173 := Tryz.underlying228
  a173 := Tryz.isAgg228
  z173 := Tryz.sizeOf228
  v173 := Tryz.zeroValue228
  t212 := Tryz.underlying254
  a212 := Tryz.isAgg254
  z212 := Tryz.sizeOf254
  v212 := Tryz.zeroValue254
  t213 := Tryz.underlying256
  a213 := Tryz.isAgg256
  z213 := Tryz.sizeOf256
  t232 := Tryz.underlying289
  a232 := Tryz.isAgg289
  z232 := Tryz.sizeOf289
  v232 := Tryz.zeroValue289
  t233 := Tryz.underlying290
  a233 := Tryz.isAgg290
  z233 := Tryz.sizeOf290
  v233 := Tryz.zeroValue290
  g17 := by kernel_rfl
  g18 := by kernel_rfl
  g19 := by kernel_rfl
  i0 := by kernel_rfl
  i2 := by kernel_rfl
  i3 := by kernel_rfl
  i4 := by kernel_rfl
  i5 := by kernel_rfl
  i9 := by kernel_rfl
  i20 := by kernel_rfl
  i37 := by kernel_rfl
  i46 := by kernel_rfl
  i51 := by kernel_rfl
  i53 := by kernel_rfl
  i171 := by kernel_rfl
  i173 := by kernel_rfl
  i212 := by kernel_rfl
  i232 := by kernel_rfl
  i233 := by kernel_rfl
  m17 := by kernel_rfl
  m18 := by kernel_rfl
  m19 := by kernel_rfl }
open Go.RowKit Go.Sort Go.Lib in
/-- strconv.FormatInt: "FormatInt returns the string representation of i in the given base": AT BASE 10: i's decimal numeral, for every int64. (LAID: no walk: one application.) -/
theorem Tryz.strconv_FormatInt_10 (n : Int) (h0 : -9223372036854775808 ≤ n) (h1 : n ≤ 9223372036854775807) (w : World) (htab : Lib.TabIs Tryz.prog w "internal/strconv.uint64pow10" .u64 Lib.pow10Tab) :
    Calls Tryz.prog 56 #[.int .i64 n, .int .i64 10] w fun e w' => e = .returned (.string ⟨(Lib.itoa n).toArray⟩) ∧ ∃ k os, w' = grow (w.drewN k) os := Any.strconv_FormatInt_10 Tryz.laysM173 n h0 h1 w htab
def Tryz.laysC245_ren : Go.Shelf.Ren := ⟨fun | 245 => 176 | 279 => 226 | 280 => 227 | 281 => 228 | 282 => 229 | 316 => 256 | 171 => 91 | 205 => 257 | 243 => 164 | 246 => 127 | 283 => 182 | 284 => 183 | 285 => 184 | 286 => 185 | 129 => 232 | 317 => 231 | 318 => 233 | 319 => 234 | 320 => 235 | 337 => 261 | 338 => 262 | n => n, fun | 9 => 9 | 3 => 3 | 75 => 42 | 167 => 249 | 4 => 4 | 168 => 250 | 210 => 274 | 37 => 120 | 0 => 0 | 127 => 202 | 145 => 286 | 143 => 284 | 2 => 2 | 171 => 225 | 53 => 54 | 5 => 5 | 173 => 228 | 212 => 254 | 51 => 255 | 20 => 20 | 213 => 256 | 46 => 182 | 232 => 289 | 233 => 290 | 80 => 112 | n => n, fun | 15 => 3 | 16 => 4 | 17 => 2 | 18 => 5 | 19 => 6 | n => n⟩
theorem Tryz.laysC245 : Go.Proofs.LaysC.n245 Tryz.prog Tryz.laysC245_ren := {
  mixed := by kernel_rfl
  f129 := Tryz.func232.trans (congrArg some (by kernel_rfl))
  f171 := Tryz.func91.trans (congrArg some (by kernel_rfl))
  f205 := Tryz.func257.trans (congrArg some (by kernel_rfl))
  f243 := Tryz.func164.trans (congrArg some (by kernel_rfl))
  f245 := Tryz.func176.trans (congrArg some (by kernel_rfl))
  f246 := Tryz.func127.trans (congrArg some (by kernel_rfl))
  f279 := Tryz.func226.trans (congrArg some (by kernel_rfl))
  f280 := Tryz.func227.trans (congrArg some (by kernel_rfl))
  f281 := Tryz.func228.trans (congrArg some (by kernel_rfl))
  f282 := Tryz.func229.trans (congrArg some (by kernel_rfl))
  f283 := Tryz.func182.trans (congrArg some (by kernel_rfl))
  f284 := Tryz.func183.trans (congrArg some (by kernel_rfl))
  f285 := Tryz.func184.trans (congrArg some (by kernel_rfl))
  f286 := Tryz.func185.trans (congrArg some (by kernel_rfl))
  f316 := Tryz.func256.trans (congrArg some (by kernel_rfl))
  f317 := Tryz.func231.trans (congrArg some (by kernel_rfl))
  f318 := Tryz.func233.trans (congrArg some (by kernel_rfl))
  f319 := Tryz.func234.trans (congrArg some (by kernel_rfl))
  f320 := Tryz.func235.trans (congrArg some (by kernel_rfl))
  f337 := Tryz.func261.trans (congrArg some (by kernel_rfl))
  f338 := Tryz.func262.trans (congrArg some (by kernel_rfl))
  t0 := Tryz.underlying0
  a0 := Tryz.isAgg0
  z0 := Tryz.sizeOf0
  v0 := Tryz.zeroValue0
  t2 := Tryz.underlying2
  a2 := Tryz.isAgg2
  z2 := Tryz.sizeOf2
  v2 := Tryz.zeroValue2
  t3 := Tryz.underlying3
  a3 := Tryz.isAgg3
  z3 := Tryz.sizeOf3
  v3 := Tryz.zeroValue3
  t4 := Tryz.underlying4
  a4 := Tryz.isAgg4
  z4 := Tryz.sizeOf4
  v4 := Tryz.zeroValue4
  t5 := Tryz.underlying5
  a5 := Tryz.isAgg5
  z5 := Tryz.sizeOf5
  v5 := Tryz.zeroValue5
  t9 := Tryz.underlying9
  a9 := Tryz.isAgg9
  z9 := Tryz.sizeOf9
  v9 := Tryz.zeroValue9
  t20 := Tryz.underlying20
  a20 := Tryz.isAgg20
  z20 := Tryz.sizeOf20
  v20 := Tryz.zeroValue20
  t37 := Tryz.underlying120
  a37 := Tryz.isAgg120
  z37 := Tryz.sizeOf120
  v37 := Tryz.zeroValue120
  t46 := Tryz.underlying182
  a46 := Tryz.isAgg182
  z46 := Tryz.sizeOf182
  v46 := Tryz.zeroValue182
  t51 := Tryz.underlying255
  a51 := Tryz.isAgg255
  z51 := Tryz.sizeOf255
  v51 := Tryz.zeroValue255
  t53 := Tryz.underlying54
  a53 := Tryz.isAgg54
  z53 := Tryz.sizeOf54
  v53 := Tryz.zeroValue54
  t75 := Tryz.underlying42
  a75 := Tryz.isAgg42
  z75 := Tryz.sizeOf42
  v75 := Tryz.zeroValue42
  t127 := Tryz.underlying202
  a127 := Tryz.isAgg202
  z127 := Tryz.sizeOf202
  v127 := Tryz.zeroValue202
  t143 := Tryz.underlying284
  a143 := Tryz.isAgg284
  z143 := Tryz.sizeOf284
  v143 := Tryz.zeroValue284
  t145 := Tryz.underlying286
  a145 := Tryz.isAgg286
  z145 := Tryz.sizeOf286
  v145 := Tryz.zeroValue286
  t167 := Tryz.underlying249
  a167 := Tryz.isAgg249
  z167 := Tryz.sizeOf249
  v167 := Tryz.zeroValue249
  t168 := Tryz.underlying250
  a168 := Tryz.isAgg250
  z168 := Tryz.sizeOf250
  v168 := Tryz.zeroValue250
  t171 := Tryz.underlying225
  a171 := Tryz.isAgg225
  z171 := Tryz.sizeOf225
  v171 := Tryz.zeroValue225
  t173 := Tryz.underlying228
  a173 := Tryz.isAgg228
  z173 := Tryz.sizeOf228
  v173 := Tryz.zeroValue228
  t210 := Tryz.underlying274
  a210 := Tryz.isAgg274
  z210 := Tryz.sizeOf274
  v210 := Tryz.zeroValue274
  t212 := Tryz.underlying254
  a212 := Tryz.isAgg254
  z212 := Tryz.sizeOf254
  v212 := Tryz.zeroValue254
  t213 := Tryz.underlying256
  a213 := Tryz.isAgg256
  z213 := Tryz.sizeOf256
  t232 := Tryz.underlying289
  a232 := Tryz.isAgg289
  z232 := Tryz.sizeOf289
  v232 := Tryz.zeroValue289
  t233 := Tryz.underlying290
  a233 := Tryz.isAgg290
  z233 := Tryz.sizeOf290
  v233 := Tryz.zeroValue290
  g15 := by kernel_rfl
  g16 := by kernel_rfl
  g17 := by kernel_rfl
  g18 := by kernel_rfl
  g19 := by kernel_rfl
  t80 := Tryz.underlying112
  a80 := Tryz.isAgg112
  z80 := Tryz.sizeOf112
  v80 := Tryz.zeroValue112
  i0 := by kernel_rfl
  i2 := by kernel_rfl
  i3 := by kernel_rfl
  i4 := by kernel_rfl
  i5 := by kernel_rfl
  i9 := by kernel_rfl
  i20 := by kernel_rfl
  i37 := by kernel_rfl
  i46 := by kernel_rfl
  i51 := by kernel_rfl
  i53 := by kernel_rfl
  i75 := by kernel_rfl
  i80 := by kernel_rfl
  i127 := by kernel_rfl
  i143 := by kernel_rfl
  i145 := by kernel_rfl
  i167 := by kernel_rfl
  i168 := by kernel_rfl
  i171 := by kernel_rfl
  i173 := by kernel_rfl
  i210 := by kernel_rfl
  i212 := by kernel_rfl
  i232 := by kernel_rfl
  i233 := by kernel_rfl
  m15 := by kernel_rfl
  m16 := by kernel_rfl
  m17 := by kernel_rfl
  m18 := by kernel_rfl
  m19 := by kernel_rfl
  c0 := by kernel_rfl
  c2 := by kernel_rfl
  c3 := by kernel_rfl
  c4 := by kernel_rfl
  c5 := by kernel_rfl
  c9 := by kernel_rfl
  c20 := by kernel_rfl
  c37 := by kernel_rfl
  c46 := by kernel_rfl
  c51 := by kernel_rfl
  c53 := by kernel_rfl
  c75 := by kernel_rfl
  c80 := by kernel_rfl
  c127 := by kernel_rfl
  c143 := by kernel_rfl
  c145 := by kernel_rfl
  c167 := by kernel_rfl
  c168 := by kernel_rfl
  c171 := by kernel_rfl
  c173 := by kernel_rfl
  c210 := by kernel_rfl
  c212 := by kernel_rfl
  c213 := by kernel_rfl
  c232 := by kernel_rfl
  c233 := by kernel_rfl }
open Go.RowKit in
/-- strconv.toError, at the inner package's ErrSyntax: 'syntaxError(fn, s)' as an error: A *NumError IN A NEW BLOCK. (LAID: no walk: one application.) -/
theorem Tryz.strconv_toError_syntax (fn s : ByteArray) (base bits : Int) (ev : Value) (w : World) (hlim : s.size ≤ 281474976710656) (hv : w.cell? ⟨3, 0, none⟩ = some ev) (hev : ev = .nilIface ∨ ∃ te pe, ev = .iface te pe) :
    Calls Tryz.prog 176 #[.string fn, .string s, .int .i64 base, .int .i64 bits, .iface 249 (.int .i64 2)] w fun e w' => ∃ N, e = .returned (.iface 250 (.pointer (some ⟨N, 0, none⟩))) ∧ w.heap.size ≤ N ∧ w'.heap[N]? = some (.cells #[.string fn, .string s, ev] 274 (0, 0)) ∧ Below w.heap.size w w' := Any.strconv_toError_syntax Tryz.laysC245 fn s base bits ev w hlim hv hev
def Tryz.lays321_ren : Go.Shelf.Ren := ⟨fun | 321 => 250 | n => n, fun | 5 => 5 | n => n, fun | n => n⟩
theorem Tryz.lays321 : Go.Proofs.Lays.n321 Tryz.prog Tryz.lays321_ren := {
  mixed := by kernel_rfl
  f321 := Tryz.func250.trans (congrArg some (by kernel_rfl))
  t5 := Tryz.underlying5
  a5 := Tryz.isAgg5
  z5 := Tryz.sizeOf5
  v5 := Tryz.zeroValue5 }
open Go.RowKit in
/-- internal/strconv.lower: 'c | ('x' - 'X')': the bit 32 set. The world is as it was. (LAID: no walk: one application.) -/
theorem Tryz.internal_strconv_lower (c : Int) (w : World) :
    Calls Tryz.prog 250 #[.int .u8 c] w fun e w' => e = .returned (.int .u8 (bits .or .u8 c 32)) ∧ w' = w := Any.internal_strconv_lower Tryz.lays321 c w
def Tryz.laysC174_ren : Go.Shelf.Ren := ⟨fun | 174 => 112 | 247 => 175 | 245 => 176 | 287 => 224 | 279 => 226 | 280 => 227 | 281 => 228 | 282 => 229 | 321 => 250 | 322 => 251 | 316 => 256 | 171 => 91 | 205 => 257 | 243 => 164 | 246 => 127 | 283 => 182 | 284 => 183 | 285 => 184 | 286 => 185 | 129 => 232 | 317 => 231 | 318 => 233 | 319 => 234 | 320 => 235 | 337 => 261 | 338 => 262 | n => n, fun | 9 => 9 | 3 => 3 | 2 => 2 | 75 => 42 | 85 => 160 | 4 => 4 | 167 => 249 | 5 => 5 | 53 => 54 | 175 => 205 | 46 => 182 | 168 => 250 | 37 => 120 | 0 => 0 | 210 => 274 | 21 => 21 | 127 => 202 | 145 => 286 | 143 => 284 | 171 => 225 | 173 => 228 | 212 => 254 | 51 => 255 | 20 => 20 | 213 => 256 | 232 => 289 | 233 => 290 | 80 => 112 | n => n, fun | 15 => 3 | 16 => 4 | 17 => 2 | 18 => 5 | 19 => 6 | n => n⟩
theorem Tryz.laysC174 : Go.Proofs.LaysC.n174 Tryz.prog Tryz.laysC174_ren := {
  mixed := by kernel_rfl
  f129 := Tryz.func232.trans (congrArg some (by kernel_rfl))
  f171 := Tryz.func91.trans (congrArg some (by kernel_rfl))
  f174 := Tryz.func112.trans (congrArg some (by kernel_rfl))
  f205 := Tryz.func257.trans (congrArg some (by kernel_rfl))
  f243 := Tryz.func164.trans (congrArg some (by kernel_rfl))
  f245 := Tryz.func176.trans (congrArg some (by kernel_rfl))
  f246 := Tryz.func127.trans (congrArg some (by kernel_rfl))
  f247 := Tryz.func175.trans (congrArg some (by kernel_rfl))
  f279 := Tryz.func226.trans (congrArg some (by kernel_rfl))
  f280 := Tryz.func227.trans (congrArg some (by kernel_rfl))
  f281 := Tryz.func228.trans (congrArg some (by kernel_rfl))
  f282 := Tryz.func229.trans (congrArg some (by kernel_rfl))
  f283 := Tryz.func182.trans (congrArg some (by kernel_rfl))
  f284 := Tryz.func183.trans (congrArg some (by kernel_rfl))
  f285 := Tryz.func184.trans (congrArg some (by kernel_rfl))
  f286 := Tryz.func185.trans (congrArg some (by kernel_rfl))
  f287 := Tryz.func224.trans (congrArg some (by kernel_rfl))
  f316 := Tryz.func256.trans (congrArg some (by kernel_rfl))
  f317 := Tryz.func231.trans (congrArg some (by kernel_rfl))
  f318 := Tryz.func233.trans (congrArg some (by kernel_rfl))
  f319 := Tryz.func234.trans (congrArg some (by kernel_rfl))
  f320 := Tryz.func235.trans (congrArg some (by kernel_rfl))
  f321 := Tryz.func250.trans (congrArg some (by kernel_rfl))
  f322 := Tryz.func251.trans (congrArg some (by kernel_rfl))
  f337 := Tryz.func261.trans (congrArg some (by kernel_rfl))
  f338 := Tryz.func262.trans (congrArg some (by kernel_rfl))
  t0 := Tryz.underlying0
  a0 := Tryz.isAgg0
  z0 := Tryz.sizeOf0
  v0 := Tryz.zeroValue0
  t2 := Tryz.underlying2
  a2 := Tryz.isAgg2
  z2 := Tryz.sizeOf2
  v2 := Tryz.zeroValue2
  t3 := Tryz.underlying3
  a3 := Tryz.isAgg3
  z3 := Tryz.sizeOf3
  v3 := Tryz.zeroValue3
  t4 := Tryz.underlying4
  a4 := Tryz.isAgg4
  z4 := Tryz.sizeOf4
  v4 := Tryz.zeroValue4
  t5 := Tryz.underlying5
  a5 := Tryz.isAgg5
  z5 := Tryz.sizeOf5
  v5 := Tryz.zeroValue5
  t9 := Tryz.underlying9
  a9 := Tryz.isAgg9
  z9 := Tryz.sizeOf9
  v9 := Tryz.zeroValue9
  t20 := Tryz.underlying20
  a20 := Tryz.isAgg20
  z20 := Tryz.sizeOf20
  v20 := Tryz.zeroValue20
  t21 := Tryz.underlying21
  a21 := Tryz.isAgg21
  z21 := Tryz.sizeOf21
  v21 := Tryz.zeroValue21
  t37 := Tryz.underlying120
  a37 := Tryz.isAgg120
  z37 := Tryz.sizeOf120
  v37 := Tryz.zeroValue120
  t46 := Tryz.underlying182
  a46 := Tryz.isAgg182
  z46 := Tryz.sizeOf182
  v46 := Tryz.zeroValue182
  t51 := Tryz.underlying255
  a51 := Tryz.isAgg255
  z51 := Tryz.sizeOf255
  v51 := Tryz.zeroValue255
  t53 := Tryz.underlying54
  a53 := Tryz.isAgg54
  z53 := Tryz.sizeOf54
  v53 := Tryz.zeroValue54
  t75 := Tryz.underlying42
  a75 := Tryz.isAgg42
  z75 := Tryz.sizeOf42
  v75 := Tryz.zeroValue42
  t85 := Tryz.underlying160
  a85 := Tryz.isAgg160
  z85 := Tryz.sizeOf160
  v85 := Tryz.zeroValue160
  t127 := Tryz.underlying202
  a127 := Tryz.isAgg202
  z127 := Tryz.sizeOf202
  v127 := Tryz.zeroValue202
  t143 := Tryz.underlying284
  a143 := Tryz.isAgg284
  z143 := Tryz.sizeOf284
  v143 := Tryz.zeroValue284
  t145 := Tryz.underlying286
  a145 := Tryz.isAgg286
  z145 := Tryz.sizeOf286
  v145 := Tryz.zeroValue286
  t167 := Tryz.underlying249
  a167 := Tryz.isAgg249
  z167 := Tryz.sizeOf249
  v167 := Tryz.zeroValue249
  t168 := Tryz.underlying250
  a168 := Tryz.isAgg250
  z168 := Tryz.sizeOf250
  v168 := Tryz.zeroValue250
  t171 := Tryz.underlying225
  a171 := Tryz.isAgg225
  z171 := Tryz.sizeOf225
  v171 := Tryz.zeroValue225
  t173 := Tryz.underlying228
  a173 := Tryz.isAgg228
  z173 := Tryz.sizeOf228
  v173 := Tryz.zeroValue228
  t175 := Tryz.underlying205
  a175 := Tryz.isAgg205
  z175 := Tryz.sizeOf205
  v175 := Tryz.zeroValue205
  t210 := Tryz.underlying274
  a210 := Tryz.isAgg274
  z210 := Tryz.sizeOf274
  v210 := Tryz.zeroValue274
  t212 := Tryz.underlying254
  a212 := Tryz.isAgg254
  z212 := Tryz.sizeOf254
  v212 := Tryz.zeroValue254
  t213 := Tryz.underlying256
  a213 := Tryz.isAgg256
  z213 := Tryz.sizeOf256
  t232 := Tryz.underlying289
  a232 := Tryz.isAgg289
  z232 := Tryz.sizeOf289
  v232 := Tryz.zeroValue289
  t233 := Tryz.underlying290
  a233 := Tryz.isAgg290
  z233 := Tryz.sizeOf290
  v233 := Tryz.zeroValue290
  g15 := by kernel_rfl
  g16 := by kernel_rfl
  g17 := by kernel_rfl
  g18 := by kernel_rfl
  g19 := by kernel_rfl
  t80 := Tryz.underlying112
  a80 := Tryz.isAgg112
  z80 := Tryz.sizeOf112
  v80 := Tryz.zeroValue112
  i0 := by kernel_rfl
  i2 := by kernel_rfl
  i3 := by kernel_rfl
  i4 := by kernel_rfl
  i5 := by kernel_rfl
  i9 := by kernel_rfl
  i20 := by kernel_rfl
  i21 := by kernel_rfl
  i37 := by kernel_rfl
  i46 := by kernel_rfl
  i51 := by kernel_rfl
  i53 := by kernel_rfl
  i75 := by kernel_rfl
  i80 := by kernel_rfl
  i85 := by kernel_rfl
  i127 := by kernel_rfl
  i143 := by kernel_rfl
  i145 := by kernel_rfl
  i167 := by kernel_rfl
  i168 := by kernel_rfl
  i171 := by kernel_rfl
  i173 := by kernel_rfl
  i175 := by kernel_rfl
  i210 := by kernel_rfl
  i212 := by kernel_rfl
  i232 := by kernel_rfl
  i233 := by kernel_rfl
  m15 := by kernel_rfl
  m16 := by kernel_rfl
  m17 := by kernel_rfl
  m18 := by kernel_rfl
  m19 := by kernel_rfl
  c0 := by kernel_rfl
  c2 := by kernel_rfl
  c3 := by kernel_rfl
  c4 := by kernel_rfl
  c5 := by kernel_rfl
  c9 := by kernel_rfl
  c20 := by kernel_rfl
  c21 := by kernel_rfl
  c37 := by kernel_rfl
  c46 := by kernel_rfl
  c51 := by kernel_rfl
  c53 := by kernel_rfl
  c75 := by kernel_rfl
  c80 := by kernel_rfl
  c85 := by kernel_rfl
  c127 := by kernel_rfl
  c143 := by kernel_rfl
  c145 := by kernel_rfl
  c167 := by kernel_rfl
  c168 := by kernel_rfl
  c171 := by kernel_rfl
  c173 := by kernel_rfl
  c175 := by kernel_rfl
  c210 := by kernel_rfl
  c212 := by kernel_rfl
  c213 := by kernel_rfl
  c232 := by kernel_rfl
  c233 := by kernel_rfl }
open Go.RowKit in
/-- strconv.ParseInt(s, 10, 64), AT EVERY STRING THAT SPELLS AN int64 ('Lib.parseIntB 64 s.data.toList = .ok v'): v, AND NO ERROR. (LAID: no walk: one application.) -/
theorem Tryz.strconv_ParseInt_10_at64_ok (s : ByteArray) (hmax : s.size ≤ 9223372036854775806) (v : Int) (h : Lib.parseIntB 64 s.data.toList = .ok v) (w : World) :
    Calls Tryz.prog 112 #[.string s, .int .i64 10, .int .i64 64] w fun e w' => e = .returned (.tuple #[.int .i64 v, .nilIface]) ∧ (w' = w ∨ ∃ t, w' = Lib.bytesWorld w 5 t) := Any.strconv_ParseInt_10_at64_ok Tryz.laysC174 s hmax v h w
open Go.RowKit in
/-- strconv.ParseInt(s, 10, 64), AT EVERY NUMERAL THAT NO int64 HOLDS: THE GREATEST OR THE LEAST int64, BY THE SIGN ('Lib.intSat 64'), AND AN ERROR THAT IS NOT nil: a *NumError in a new block N: {Func: "ParseInt", Num: s's bytes, Err: what the variable ErrRange holds}. Of what was there nothing has turned. (LAID: no walk: one application.) -/
theorem Tryz.strconv_ParseInt_10_at64_range (s : ByteArray) (hlim : s.size ≤ 281474976710656) (h : Lib.parseIntB 64 s.data.toList = .range) (ev : Value) (w : World) (hv : w.cell? ⟨4, 0, none⟩ = some ev) (hev : ev = .nilIface ∨ ∃ te pe, ev = .iface te pe) :
    Calls Tryz.prog 112 #[.string s, .int .i64 10, .int .i64 64] w fun e w' => ∃ N, e = .returned (.tuple #[.int .i64 (Lib.intSat 64 s.data.toList), .iface 250 (.pointer (some ⟨N, 0, none⟩))]) ∧ w.heap.size ≤ N ∧ w'.heap[N]? = some (.cells #[.string ⟨#[80, 97, 114, 115, 101, 73, 110, 116]⟩, .string s, ev] 274 (0, 0)) ∧ Below w.heap.size w w' := Any.strconv_ParseInt_10_at64_range Tryz.laysC174 s hlim h ev w hv hev
def Tryz.lays144_ren : Go.Shelf.Ren := ⟨fun | 144 => 126 | 143 => 181 | 219 => 230 | 217 => 105 | 225 => 258 | 224 => 259 | 267 => 260 | 266 => 171 | 314 => 272 | n => n, fun | 9 => 9 | 4 => 4 | 3 => 3 | 5 => 5 | 46 => 182 | 146 => 287 | 51 => 255 | n => n, fun | 1 => 1 | n => n⟩
theorem Tryz.lays144 : Go.Proofs.Lays.n144 Tryz.prog Tryz.lays144_ren := {
  mixed := by kernel_rfl
  f143 := Tryz.func181.trans (congrArg some (by kernel_rfl))
  f144 := Tryz.func126.trans (congrArg some (by kernel_rfl))
  f217 := Tryz.func105.trans (congrArg some (by kernel_rfl))
  f219 := Tryz.func230.trans (congrArg some (by kernel_rfl))
  f224 := Tryz.func259.trans (congrArg some (by kernel_rfl))
  f225 := Tryz.func258.trans (congrArg some (by kernel_rfl))
  f266 := Tryz.func171.trans (congrArg some (by kernel_rfl))
  f267 := Tryz.func260.trans (congrArg some (by kernel_rfl))
  f314 := Tryz.func272.trans (congrArg some (by kernel_rfl))
  t3 := Tryz.underlying3
  a3 := Tryz.isAgg3
  z3 := Tryz.sizeOf3
  v3 := Tryz.zeroValue3
  t4 := Tryz.underlying4
  a4 := Tryz.isAgg4
  z4 := Tryz.sizeOf4
  v4 := Tryz.zeroValue4
  t5 := Tryz.underlying5
  a5 := Tryz.isAgg5
  z5 := Tryz.sizeOf5
  v5 := Tryz.zeroValue5
  t9 := Tryz.underlying9
  a9 := Tryz.isAgg9
  z9 := Tryz.sizeOf9
  v9 := Tryz.zeroValue9
  t46 := Tryz.underlying182
  a46 := Tryz.isAgg182
  z46 := Tryz.sizeOf182
  v46 := Tryz.zeroValue182
  t51 := Tryz.underlying255
  a51 := Tryz.isAgg255
  z51 := Tryz.sizeOf255
  v51 := Tryz.zeroValue255
  t146 := Tryz.underlying287
  a146 := Tryz.isAgg287
  z146 := Tryz.sizeOf287
  v146 := Tryz.zeroValue287
  g1 := by kernel_rfl }
open Go.RowKit Go.Lib in
/-- strings.Contains: "Contains reports whether substr is within s.": AT A substr OF ONE BYTE c: IT RETURNS 'decide (0 ≤ Lib.indexByte s c)'; the world is as it was. (LAID: no walk: one application.) -/
theorem Tryz.strings_Contains_one (s : ByteArray) (c : UInt8) (w : World) :
    Calls Tryz.prog 126 #[.string s, .string ⟨#[c]⟩] w fun e w' => e = .returned (.bool (decide (0 ≤ Lib.indexByte s.data.toList c))) ∧ w' = w := Any.strings_Contains_one Tryz.lays144 s c w
def Tryz.laysM144_ren : Go.Shelf.Ren := ⟨fun | 144 => 126 | 143 => 181 | 219 => 230 | 217 => 105 | 225 => 258 | 224 => 259 | 267 => 260 | 266 => 171 | 314 => 272 | n => n, fun | 9 => 9 | 4 => 4 | 3 => 3 | 5 => 5 | 46 => 182 | 146 => 287 | 51 => 255 | n => n, fun | 1 => 1 | n => n⟩
theorem Tryz.laysM144 : Go.Proofs.LaysM.n144 Tryz.prog Tryz.laysM144_ren := {
  mixed := by kernel_rfl
  f143 := Tryz.func181.trans (congrArg some (by kernel_rfl))
  f144 := Tryz.func126.trans (congrArg some (by kernel_rfl))
  f217 := Tryz.func105.trans (congrArg some (by kernel_rfl))
  f219 := Tryz.func230.trans (congrArg some (by kernel_rfl))
  f224 := Tryz.func259.trans (congrArg some (by kernel_rfl))
  f225 := Tryz.func258.trans (congrArg some (by kernel_rfl))
  f266 := Tryz.func171.trans (congrArg some (by kernel_rfl))
  f267 := Tryz.func260.trans (congrArg some (by kernel_rfl))
  f314 := Tryz.func272.trans (congrArg some (by kernel_rfl))
  t3 := Tryz.underlying3
  a3 := Tryz.isAgg3
  z3 := Tryz.sizeOf3
  v3 := Tryz.zeroValue3
  t4 := Tryz.underlying4
  a4 := Tryz.isAgg4
  z4 := Tryz.sizeOf4
  v4 := Tryz.zeroValue4
  t5 := Tryz.underlying5
  a5 := Tryz.isAgg5
  z5 := Tryz.sizeOf5
  v5 := Tryz.zeroValue5
  t9 := Tryz.underlying9
  a9 := Tryz.isAgg9
  z9 := Tryz.sizeOf9
  v9 := Tryz.zeroValue9
  t46 := Tryz.underlying182
  a46 := Tryz.isAgg182
  z46 := Tryz.sizeOf182
  v46 := Tryz.zeroValue182
  t51 := Tryz.underlying255
  a51 := Tryz.isAgg255
  z51 := Tryz.sizeOf255
  v51 := Tryz.zeroValue255
  t146 := Tryz.underlying287
  a146 := Tryz.isAgg287
  z146 := Tryz.sizeOf287
  v146 := Tryz.zeroValue287
  g1 := by kernel_rfl
  i3 := by kernel_rfl
  i4 := by kernel_rfl
  i5 := by kernel_rfl
  i9 := by kernel_rfl
  i46 := by kernel_rfl
  i51 := by kernel_rfl
  i146 := by kernel_rfl
  m1 := by kernel_rfl
  s1_3 := fun w h => Go.Proofs.cell_of_shapedOpen_int (zero := #[.int .i64 0]) (t := 3) h (of_decide_eq_true (by kernel_rfl)) (by kernel_rfl) rfl (by kernel_rfl) (by kernel_rfl) Tryz.underlying3 }
open Go.RowKit Go.Lib in
theorem Tryz.strings_Contains_shaped (s sub : ByteArray) (w : World) (h : w.ShapedOpen Tryz.prog) (hs : s.size < 4294967281) :
    Calls Tryz.prog 126 #[.string s, .string sub] w fun e w' => e = .returned (.bool (Lib.contains s.data.toList sub.data.toList)) ∧ w' = w := Any.strings_Contains_shaped Tryz.laysM144 s sub w h hs
def Tryz.laysM145_ren : Go.Shelf.Ren := ⟨fun | 145 => 172 | 220 => 223 | 219 => 230 | 217 => 105 | 225 => 258 | 224 => 259 | 267 => 260 | 266 => 171 | 314 => 272 | n => n, fun | 9 => 9 | 4 => 4 | 59 => 203 | 3 => 3 | 5 => 5 | 46 => 182 | 146 => 287 | 51 => 255 | n => n, fun | 1 => 1 | n => n⟩
theorem Tryz.laysM145 : Go.Proofs.LaysM.n145 Tryz.prog Tryz.laysM145_ren := {
  mixed := by kernel_rfl
  f145 := Tryz.func172.trans (congrArg some (by kernel_rfl))
  f217 := Tryz.func105.trans (congrArg some (by kernel_rfl))
  f219 := Tryz.func230.trans (congrArg some (by kernel_rfl))
  f220 := Tryz.func223.trans (congrArg some (by kernel_rfl))
  f224 := Tryz.func259.trans (congrArg some (by kernel_rfl))
  f225 := Tryz.func258.trans (congrArg some (by kernel_rfl))
  f266 := Tryz.func171.trans (congrArg some (by kernel_rfl))
  f267 := Tryz.func260.trans (congrArg some (by kernel_rfl))
  f314 := Tryz.func272.trans (congrArg some (by kernel_rfl))
  t3 := Tryz.underlying3
  a3 := Tryz.isAgg3
  z3 := Tryz.sizeOf3
  v3 := Tryz.zeroValue3
  t4 := Tryz.underlying4
  a4 := Tryz.isAgg4
  z4 := Tryz.sizeOf4
  v4 := Tryz.zeroValue4
  t5 := Tryz.underlying5
  a5 := Tryz.isAgg5
  z5 := Tryz.sizeOf5
  v5 := Tryz.zeroValue5
  t9 := Tryz.underlying9
  a9 := Tryz.isAgg9
  z9 := Tryz.sizeOf9
  v9 := Tryz.zeroValue9
  t46 := Tryz.underlying182
  a46 := Tryz.isAgg182
  z46 := Tryz.sizeOf182
  v46 := Tryz.zeroValue182
  t51 := Tryz.underlying255
  a51 := Tryz.isAgg255
  z51 := Tryz.sizeOf255
  v51 := Tryz.zeroValue255
  t59 := Tryz.underlying203
  a59 := Tryz.isAgg203
  z59 := Tryz.sizeOf203
  v59 := Tryz.zeroValue203
  t146 := Tryz.underlying287
  a146 := Tryz.isAgg287
  z146 := Tryz.sizeOf287
  v146 := Tryz.zeroValue287
  g1 := by kernel_rfl
  i3 := by kernel_rfl
  i4 := by kernel_rfl
  i5 := by kernel_rfl
  i9 := by kernel_rfl
  i46 := by kernel_rfl
  i51 := by kernel_rfl
  i59 := by kernel_rfl
  i146 := by kernel_rfl
  m1 := by kernel_rfl
  s1_3 := fun w h => Go.Proofs.cell_of_shapedOpen_int (zero := #[.int .i64 0]) (t := 3) h (of_decide_eq_true (by kernel_rfl)) (by kernel_rfl) rfl (by kernel_rfl) (by kernel_rfl) Tryz.underlying3 }
open Go.RowKit Go.Lib in
theorem Tryz.strings_Cut_shaped (s sep : ByteArray) (w : World) (h : w.ShapedOpen Tryz.prog) (hs : s.size < 4294967281) :
    Calls Tryz.prog 172 #[.string s, .string sep] w fun e w' => e = .returned (.tuple #[.string ⟨(Lib.cut s.data.toList sep.data.toList).1.toArray⟩, .string ⟨(Lib.cut s.data.toList sep.data.toList).2.1.toArray⟩, .bool (Lib.cut s.data.toList sep.data.toList).2.2]) ∧ ∃ n, w' = w.drewN n := Any.strings_Cut_shaped Tryz.laysM145 s sep w h hs
def Tryz.lays99_ren : Go.Shelf.Ren := ⟨fun | 99 => 50 | 206 => 104 | n => n, fun | 9 => 9 | 4 => 4 | 3 => 3 | n => n, fun | n => n⟩
theorem Tryz.lays99 : Go.Proofs.Lays.n99 Tryz.prog Tryz.lays99_ren := {
  mixed := by kernel_rfl
  f99 := Tryz.func50.trans (congrArg some (by kernel_rfl))
  f206 := Tryz.func104.trans (congrArg some (by kernel_rfl))
  t3 := Tryz.underlying3
  a3 := Tryz.isAgg3
  z3 := Tryz.sizeOf3
  v3 := Tryz.zeroValue3
  t4 := Tryz.underlying4
  a4 := Tryz.isAgg4
  z4 := Tryz.sizeOf4
  v4 := Tryz.zeroValue4
  t9 := Tryz.underlying9
  a9 := Tryz.isAgg9
  z9 := Tryz.sizeOf9
  v9 := Tryz.zeroValue9 }
open Go.RowKit Go.Lib in
/-- strings.HasPrefix: "HasPrefix reports whether the string s begins with prefix.": IT RETURNS 'Lib.hasPrefix s prefix'; the world is as it was. (LAID: no walk: one application.) -/
theorem Tryz.strings_HasPrefix (s p : ByteArray) (w : World) :
    Calls Tryz.prog 50 #[.string s, .string p] w fun e w' => e = .returned (.bool (Lib.hasPrefix s.data.toList p.data.toList)) ∧ w' = w := Any.strings_HasPrefix Tryz.lays99 s p w
def Tryz.laysM155_ren : Go.Shelf.Ren := ⟨fun | 155 => 129 | 154 => 186 | 138 => 236 | 165 => 92 | 143 => 181 | 166 => 93 | 197 => 237 | 169 => 94 | 195 => 263 | 218 => 264 | 240 => 165 | 241 => 166 | 219 => 230 | 260 => 265 | 276 => 220 | 277 => 221 | 217 => 105 | 225 => 258 | 224 => 259 | 267 => 260 | 266 => 171 | 314 => 272 | n => n, fun | 9 => 9 | 3 => 3 | 4 => 4 | 72 => 149 | 0 => 0 | 76 => 151 | 105 => 259 | 21 => 21 | 5 => 5 | 70 => 147 | 20 => 20 | 37 => 120 | 75 => 42 | 127 => 202 | 164 => 167 | 46 => 182 | 119 => 291 | 139 => 294 | 138 => 293 | 146 => 287 | 51 => 255 | 80 => 112 | n => n, fun | 1 => 1 | 3 => 7 | 4 => 8 | n => n⟩
theorem Tryz.laysM155 : Go.Proofs.LaysM.n155 Tryz.prog Tryz.laysM155_ren := {
  mixed := by kernel_rfl
  f138 := Tryz.func236.trans (congrArg some (by kernel_rfl))
  f143 := Tryz.func181.trans (congrArg some (by kernel_rfl))
  f154 := Tryz.func186.trans (congrArg some (by kernel_rfl))
  f155 := Tryz.func129.trans (congrArg some (by kernel_rfl))
  f165 := Tryz.func92.trans (congrArg some (by kernel_rfl))
  f166 := Tryz.func93.trans (congrArg some (by kernel_rfl))
  f169 := Tryz.func94.trans (congrArg some (by kernel_rfl))
  f195 := Tryz.func263.trans (congrArg some (by kernel_rfl))
  f197 := Tryz.func237.trans (congrArg some (by kernel_rfl))
  f217 := Tryz.func105.trans (congrArg some (by kernel_rfl))
  f218 := Tryz.func264.trans (congrArg some (by kernel_rfl))
  f219 := Tryz.func230.trans (congrArg some (by kernel_rfl))
  f224 := Tryz.func259.trans (congrArg some (by kernel_rfl))
  f225 := Tryz.func258.trans (congrArg some (by kernel_rfl))
  f240 := Tryz.func165.trans (congrArg some (by kernel_rfl))
  f241 := Tryz.func166.trans (congrArg some (by kernel_rfl))
  f260 := Tryz.func265.trans (congrArg some (by kernel_rfl))
  f266 := Tryz.func171.trans (congrArg some (by kernel_rfl))
  f267 := Tryz.func260.trans (congrArg some (by kernel_rfl))
  f276 := Tryz.func220.trans (congrArg some (by kernel_rfl))
  f277 := Tryz.func221.trans (congrArg some (by kernel_rfl))
  f314 := Tryz.func272.trans (congrArg some (by kernel_rfl))
  t0 := Tryz.underlying0
  a0 := Tryz.isAgg0
  z0 := Tryz.sizeOf0
  v0 := Tryz.zeroValue0
  t3 := Tryz.underlying3
  a3 := Tryz.isAgg3
  z3 := Tryz.sizeOf3
  v3 := Tryz.zeroValue3
  t4 := Tryz.underlying4
  a4 := Tryz.isAgg4
  z4 := Tryz.sizeOf4
  v4 := Tryz.zeroValue4
  t5 := Tryz.underlying5
  a5 := Tryz.isAgg5
  z5 := Tryz.sizeOf5
  v5 := Tryz.zeroValue5
  t9 := Tryz.underlying9
  a9 := Tryz.isAgg9
  z9 := Tryz.sizeOf9
  v9 := Tryz.zeroValue9
  t20 := Tryz.underlying20
  a20 := Tryz.isAgg20
  z20 := Tryz.sizeOf20
  v20 := Tryz.zeroValue20
  t21 := Tryz.underlying21
  a21 := Tryz.isAgg21
  z21 := Tryz.sizeOf21
  v21 := Tryz.zeroValue21
  t37 := Tryz.underlying120
  a37 := Tryz.isAgg120
  z37 := Tryz.sizeOf120
  v37 := Tryz.zeroValue120
  t46 := Tryz.underlying182
  a46 := Tryz.isAgg182
  z46 := Tryz.sizeOf182
  v46 := Tryz.zeroValue182
  t51 := Tryz.underlying255
  a51 := Tryz.isAgg255
  z51 := Tryz.sizeOf255
  v51 := Tryz.zeroValue255
  t70 := Tryz.underlying147
  a70 := Tryz.isAgg147
  z70 := Tryz.sizeOf147
  v70 := Tryz.zeroValue147
  t72 := Tryz.underlying149
  a72 := Tryz.isAgg149
  z72 := Tryz.sizeOf149
  v72 := Tryz.zeroValue149
  t75 := Tryz.underlying42
  a75 := Tryz.isAgg42
  z75 := Tryz.sizeOf42
  v75 := Tryz.zeroValue42
  t76 := Tryz.underlying151
  a76 := Tryz.isAgg151
  z76 := Tryz.sizeOf151
  v76 := Tryz.zeroValue151
  t105 := Tryz.underlying259
  a105 := Tryz.isAgg259
  z105 := Tryz.sizeOf259
  v105 := Tryz.zeroValue259
  t119 := Tryz.underlying291
  a119 := Tryz.isAgg291
  z119 := Tryz.sizeOf291
  t127 := Tryz.underlying202
  a127 := Tryz.isAgg202
  z127 := Tryz.sizeOf202
  v127 := Tryz.zeroValue202
  t138 := Tryz.underlying293
  a138 := Tryz.isAgg293
  z138 := Tryz.sizeOf293
  v138 := Tryz.zeroValue293
  t139 := Tryz.underlying294
  a139 := Tryz.isAgg294
  z139 := Tryz.sizeOf294
  v139 := Tryz.zeroValue294
  t146 := Tryz.underlying287
  a146 := Tryz.isAgg287
  z146 := Tryz.sizeOf287
  v146 := Tryz.zeroValue287
  t164 := Tryz.underlying167
  a164 := Tryz.isAgg167
  z164 := Tryz.sizeOf167
  v164 := Tryz.zeroValue167
  g1 := by kernel_rfl
  g3 := by kernel_rfl
  g4 := by kernel_rfl
  t80 := Tryz.underlying112
  a80 := Tryz.isAgg112
  z80 := Tryz.sizeOf112
  v80 := Tryz.zeroValue112
  i0 := by kernel_rfl
  i3 := by kernel_rfl
  i4 := by kernel_rfl
  i5 := by kernel_rfl
  i9 := by kernel_rfl
  i20 := by kernel_rfl
  i21 := by kernel_rfl
  i37 := by kernel_rfl
  i46 := by kernel_rfl
  i51 := by kernel_rfl
  i70 := by kernel_rfl
  i72 := by kernel_rfl
  i75 := by kernel_rfl
  i76 := by kernel_rfl
  i80 := by kernel_rfl
  i105 := by kernel_rfl
  i127 := by kernel_rfl
  i138 := by kernel_rfl
  i139 := by kernel_rfl
  i146 := by kernel_rfl
  i164 := by kernel_rfl
  m1 := by kernel_rfl
  s1_3 := fun w h => Go.Proofs.cell_of_shapedOpen_int (zero := #[.int .i64 0]) (t := 3) h (of_decide_eq_true (by kernel_rfl)) (by kernel_rfl) rfl (by kernel_rfl) (by kernel_rfl) Tryz.underlying3
  m3 := by kernel_rfl
  m4 := by kernel_rfl }
theorem Tryz.Builder_Extra_M155 : Builder.Extra Tryz.prog Tryz.laysM155_ren := {
  sizeBuilder := by kernel_rfl
  liesBuilder := by kernel_rfl
  t5 := Tryz.underlying5
  a5 := Tryz.isAgg5
  z5 := Tryz.sizeOf5
  v5 := Tryz.zeroValue5
  infoByte := by kernel_rfl
  cellsByte := by kernel_rfl
  sizeByte := by kernel_rfl
  neB5 := by decide }
open Go.RowKit Go.Lib in
/-- strings.ReplaceAll, old not empty. (LAID: no walk: one application.) -/
theorem Tryz.strings_ReplaceAll_shaped (s old new : ByteArray) (w : World) (h : w.ShapedOpen Tryz.prog) (hs : s.size < 4294967281) (h1 : 1 ≤ old.size) (hlen : s.size + Lib.countB s old * new.size ≤ 140737488355328) :
    Calls Tryz.prog 129 #[.string s, .string old, .string new] w fun e w' =>
      e = .returned (.string ⟨(Lib.replaceAll s.data.toList old.data.toList new.data.toList).toArray⟩) ∧ Below w.heap.size w w' := Any.strings_ReplaceAll_shaped Tryz.laysM155 Tryz.Builder_Extra_M155 s old new w h hs h1 hlen
def Tryz.lays153_ren : Go.Shelf.Ren := ⟨fun | 153 => 225 | 152 => 252 | 226 => 253 | 227 => 254 | 228 => 255 | 137 => 51 | 119 => 271 | 224 => 259 | 225 => 258 | 217 => 105 | 266 => 171 | n => n, fun | 9 => 9 | 3 => 3 | 4 => 4 | 5 => 5 | 21 => 21 | 117 => 271 | 116 => 270 | 0 => 0 | 46 => 182 | 124 => 283 | n => n, fun | n => n⟩
theorem Tryz.lays153 : Go.Proofs.Lays.n153 Tryz.prog Tryz.lays153_ren := {
  mixed := by kernel_rfl
  f119 := Tryz.func271.trans (congrArg some (by kernel_rfl))
  f137 := Tryz.func51.trans (congrArg some (by kernel_rfl))
  f152 := Tryz.func252.trans (congrArg some (by kernel_rfl))
  f153 := Tryz.func225.trans (congrArg some (by kernel_rfl))
  f217 := Tryz.func105.trans (congrArg some (by kernel_rfl))
  f224 := Tryz.func259.trans (congrArg some (by kernel_rfl))
  f225 := Tryz.func258.trans (congrArg some (by kernel_rfl))
  f226 := Tryz.func253.trans (congrArg some (by kernel_rfl))
  f227 := Tryz.func254.trans (congrArg some (by kernel_rfl))
  f228 := Tryz.func255.trans (congrArg some (by kernel_rfl))
  f266 := Tryz.func171.trans (congrArg some (by kernel_rfl))
  t0 := Tryz.underlying0
  a0 := Tryz.isAgg0
  z0 := Tryz.sizeOf0
  v0 := Tryz.zeroValue0
  t3 := Tryz.underlying3
  a3 := Tryz.isAgg3
  z3 := Tryz.sizeOf3
  v3 := Tryz.zeroValue3
  t4 := Tryz.underlying4
  a4 := Tryz.isAgg4
  z4 := Tryz.sizeOf4
  v4 := Tryz.zeroValue4
  t5 := Tryz.underlying5
  a5 := Tryz.isAgg5
  z5 := Tryz.sizeOf5
  v5 := Tryz.zeroValue5
  t9 := Tryz.underlying9
  a9 := Tryz.isAgg9
  z9 := Tryz.sizeOf9
  v9 := Tryz.zeroValue9
  t21 := Tryz.underlying21
  a21 := Tryz.isAgg21
  z21 := Tryz.sizeOf21
  v21 := Tryz.zeroValue21
  t46 := Tryz.underlying182
  a46 := Tryz.isAgg182
  z46 := Tryz.sizeOf182
  v46 := Tryz.zeroValue182
  t116 := Tryz.underlying270
  a116 := Tryz.isAgg270
  z116 := Tryz.sizeOf270
  t117 := Tryz.underlying271
  a117 := Tryz.isAgg271
  z117 := Tryz.sizeOf271
  v117 := Tryz.zeroValue271
  t124 := Tryz.underlying283
  a124 := Tryz.isAgg283
  z124 := Tryz.sizeOf283
  v124 := Tryz.zeroValue283 }
open Go.RowKit Go.Lib in
/-- s of at most 8 bytes; chars of two or more: 'for i, c := range s { if IndexRune(chars, c) >= 0 { return i } }'. One block more: the model's iterator over s. (LAID: no walk: one application.) -/
theorem Tryz.strings_IndexAny_short (s chars : ByteArray) (w : World) (h2 : 2 ≤ chars.size) (h8 : s.size ≤ 8) (hascii : ∀ (j : Nat) b, s.data.toList[j]? = some b → b.toNat < 128) :
    Calls Tryz.prog 225 #[.string s, .string chars] w fun e w' => e = .returned (.int .i64 (Lib.indexAny s.data.toList chars.data.toList)) ∧ ∃ pos, w' = w.iter s pos := Any.strings_IndexAny_short Tryz.lays153 s chars w h2 h8 hascii
def Tryz.lays109_ren : Go.Shelf.Ren := ⟨fun | 109 => 273 | n => n, fun | 31 => 27 | 9 => 9 | 3 => 3 | 0 => 0 | 4 => 4 | n => n, fun | n => n⟩
theorem Tryz.lays109 : Go.Proofs.Lays.n109 Tryz.prog Tryz.lays109_ren := {
  mixed := by kernel_rfl
  f109 := Tryz.func273.trans (congrArg some (by kernel_rfl))
  t0 := Tryz.underlying0
  a0 := Tryz.isAgg0
  z0 := Tryz.sizeOf0
  v0 := Tryz.zeroValue0
  t3 := Tryz.underlying3
  a3 := Tryz.isAgg3
  z3 := Tryz.sizeOf3
  v3 := Tryz.zeroValue3
  t4 := Tryz.underlying4
  a4 := Tryz.isAgg4
  z4 := Tryz.sizeOf4
  v4 := Tryz.zeroValue4
  t9 := Tryz.underlying9
  a9 := Tryz.isAgg9
  z9 := Tryz.sizeOf9
  v9 := Tryz.zeroValue9
  t31 := Tryz.underlying27
  a31 := Tryz.isAgg27
  z31 := Tryz.sizeOf27
  v31 := Tryz.zeroValue27 }
open Go.Lib in
/-- slices.Index at []string: "Index returns the index of the first occurrence of v in s, or -1 if not present.": IT RETURNS 'Lib.idxOfS (the elements) v'; the world is as it was. 'zs': what the cells behind the slice's address hold (its spare capacity too, if you have it); 'zs.take n': its elements. (LAID: no walk: one application.) -/
theorem Tryz.slices_Index_string (b off n c : Nat) (zs : List ByteArray) (x : ByteArray) (w : World) (hz : n ≤ zs.length) (hbig : n ≤ 9223372036854775807) (hc : ∀ j, j < zs.length → w.cell? ⟨b, off + j, none⟩ = some (.string (zs.getD j ByteArray.empty))) :
    Calls Tryz.prog 273 #[.slice (some ⟨b, off, none⟩) n c, .string x] w fun e w' => e = .returned (.int .i64 (Lib.idxOfS (zs.take n) x)) ∧ w' = w := Any.slices_Index_string Tryz.lays109 b off n c zs x w hz hbig hc
end Go.Proofs

/- The words of a text, as a plain function. -/
set_option linter.unusedVariables false
set_option linter.unusedSimpArgs false
namespace Go.Proofs.YtcefmhofidoloaaGreatDoor.Lex
open Go.RowKit Go.Proofs.YtcefmhofidoloaaGreatDoor.Base

def letN (n : Nat) : Bool := decide (97 ≤ n ∧ n ≤ 122) || decide (65 ≤ n ∧ n ≤ 90) || decide (n = 95)
def digN (n : Nat) : Bool := decide (48 ≤ n ∧ n ≤ 57)
def isLet (c : UInt8) : Bool := letN c.toNat
def isDig (c : UInt8) : Bool := digN c.toNat
def isWrd (c : UInt8) : Bool := isLet c || isDig c
/-- How many at the front are of a kind. -/
def runP (p : UInt8 → Bool) : List UInt8 → Nat
  | [] => 0
  | c :: r => if p c then runP p r + 1 else 0
theorem runP_le (p : UInt8 → Bool) : ∀ l, runP p l ≤ l.length
  | [] => Nat.le_refl _
  | c :: r => by
    have := runP_le p r
    simp only [runP, List.length_cons]
    split <;> omega
def lowB (c : UInt8) : UInt8 := if 65 ≤ c.toNat ∧ c.toNat ≤ 90 then UInt8.ofNat (c.toNat + 32) else c
/-- A quoted text behind its first quote. -/
def textP : List UInt8 → Option (List UInt8 × Nat)
  | [] => none
  | c :: r =>
    if c = 39 then
      match r with
      | [] => some ([], 1)
      | d :: r' => if d = 39 then (textP r').map (fun x => (39 :: x.1, x.2 + 2)) else some ([], 1)
    else (textP r).map (fun x => (c :: x.1, x.2 + 1))
def hexV (c : UInt8) : Option Nat :=
  if digN c.toNat then some (c.toNat - 48)
  else if 97 ≤ c.toNat ∧ c.toNat ≤ 102 then some (c.toNat - 87)
  else if 65 ≤ c.toNat ∧ c.toNat ≤ 70 then some (c.toNat - 55) else none
def hexPair (a b : UInt8) : Option Nat := (hexV a).bind fun x => (hexV b).map fun y => 16 * x + y
def unhex : List UInt8 → Option (List UInt8)
  | [] => some []
  | [_] => none
  | a :: b :: r => (hexPair a b).bind fun x => (unhex r).map fun l => UInt8.ofNat x :: l
/-- A blob behind its x and its first quote. -/
def blobP (l : List UInt8) : Option (List UInt8 × Nat) :=
  if 39 ∈ l then (unhex (l.takeWhile (· != 39))).map fun x => (x, (l.takeWhile (· != 39)).length + 2) else none
def symP : List UInt8 → Nat
  | [] => 0
  | c :: r =>
    if (c = 60 ∧ r.head? = some 62) ∨ (c = 60 ∧ r.head? = some 61) ∨ (c = 62 ∧ r.head? = some 61) ∨ (c = 124 ∧ r.head? = some 124) then 2
    else if c ∈ [40, 41, 44, 46, 42, 61, 60, 62, 43, 45, 47, 37, 59] then 1 else 0
/-- A word: its kind, its text, its number. -/
structure Tk where
  kind : Nat
  text : List UInt8
  num : Int
def numP (l : List UInt8) : Option Int := match Lib.parseIntB 64 l with | .ok v => some v | _ => none
def tokP : List UInt8 → Option (Tk × Nat)
  | [] => none
  | c :: r =>
    if (c = 120 ∨ c = 88) ∧ r.head? = some 39 then (blobP r.tail).map fun x => (⟨4, x.1, 0⟩, x.2 + 1)
    else if isLet c then some (⟨1, ((c :: r).take (runP isWrd (c :: r))).map lowB, 0⟩, runP isWrd (c :: r))
    else if isDig c then (numP ((c :: r).take (runP isDig (c :: r)))).map fun v => (⟨2, [], v⟩, runP isDig (c :: r))
    else if c = 39 then (textP r).map fun x => (⟨3, x.1, 0⟩, x.2 + 1)
    else if symP (c :: r) = 0 then none
    else some (⟨5, (c :: r).take (symP (c :: r)), 0⟩, symP (c :: r))
/-- The words, each with its place; or the place of what is none. -/
def toksP : Nat → Nat → List UInt8 → Except Nat (List (Tk × Nat))
  | 0, _, _ => .ok []
  | f + 1, k, s =>
    match s with
    | [] => .ok []
    | c :: r =>
      if c = 32 ∨ c = 9 ∨ c = 10 ∨ c = 13 then toksP f (k + 1) r
      else if c = 45 ∧ r.head? = some 45 then
        (if 10 ∈ (c :: r) then toksP f (k + ((c :: r).takeWhile (· != 10)).length) ((c :: r).dropWhile (· != 10)) else .ok [])
      else
        match tokP (c :: r) with
        | none => .error k
        | some (t, n) => (toksP f (k + n) ((c :: r).drop n)).map ((t, k) :: ·)

theorem textP_le : ∀ (n : Nat) (l : List UInt8), l.length ≤ n → ∀ x, textP l = some x → 1 ≤ x.2 ∧ x.2 ≤ l.length
  | _, [], _, x, h => by simp [textP] at h
  | 0, c :: r, hn, x, h => by simp at hn
  | n + 1, c :: r, hn, x, h => by
    simp only [List.length_cons] at hn ⊢
    rw [textP.eq_def] at h
    simp only at h
    split at h
    · match r, h with
      | [], h => simp at h; subst h; exact ⟨Nat.le_refl _, by simp⟩
      | d :: r', h =>
        simp only at h
        split at h
        · obtain ⟨y, hy, rfl⟩ := Option.map_eq_some_iff.mp h
          have := textP_le n r' (by simp only [List.length_cons] at hn; omega) y hy
          simp only [List.length_cons]
          omega
        · simp at h; subst h; exact ⟨Nat.le_refl _, by simp⟩
    · obtain ⟨y, hy, rfl⟩ := Option.map_eq_some_iff.mp h
      have := textP_le n r (by omega) y hy
      simp only
      omega
theorem dropWhile_ne (a : UInt8) : ∀ l : List UInt8, a ∈ l → l.dropWhile (· != a) ≠ []
  | [], h => by simp at h
  | c :: r, h => by
    rw [List.dropWhile_cons]
    split
    · rename_i hc
      exact dropWhile_ne a r (by
        rcases List.mem_cons.mp h with rfl | h
        · simp at hc
        · exact h)
    · simp
theorem blobP_le {l : List UInt8} {x : List UInt8 × Nat} (h : blobP l = some x) : x.2 ≤ l.length + 1 := by
  unfold blobP at h
  split at h
  · rename_i hm
    obtain ⟨y, hy, rfl⟩ := Option.map_eq_some_iff.mp h
    simp only
    have h1 : l.takeWhile (· != 39) ++ l.dropWhile (· != 39) = l := List.takeWhile_append_dropWhile
    have h2 : l.dropWhile (· != 39) ≠ [] := dropWhile_ne 39 l hm
    have h4 := congrArg List.length h1
    rw [List.length_append] at h4
    have : (l.dropWhile (· != 39)).length ≠ 0 := by simpa using h2
    omega
  · cases h
theorem tokP_le {l : List UInt8} {x : Tk × Nat} (h : tokP l = some x) : 1 ≤ x.2 ∧ x.2 ≤ l.length := by
  match l, h with
  | c :: r, h =>
    rw [tokP.eq_2] at h
    split at h
    · rename_i hc
      obtain ⟨y, hy, rfl⟩ := Option.map_eq_some_iff.mp h
      have := blobP_le hy
      have hr : r ≠ [] := by rintro rfl; simp at hc
      have : r.length = r.tail.length + 1 := by
        cases r with
        | nil => exact absurd rfl hr
        | cons a b => simp
      simp only [List.length_cons]
      omega
    · split at h
      · rename_i hl
        injection h with h
        subst h
        refine ⟨?_, runP_le _ _⟩
        simp [runP, isWrd, hl]
      · split at h
        · rename_i hl
          obtain ⟨y, hy, rfl⟩ := Option.map_eq_some_iff.mp h
          refine ⟨?_, runP_le _ _⟩
          simp [runP, hl]
        · split at h
          · obtain ⟨y, hy, rfl⟩ := Option.map_eq_some_iff.mp h
            have := textP_le _ _ (Nat.le_refl _) y hy
            simp only [List.length_cons]
            omega
          · split at h
            · cases h
            · rename_i h0
              injection h with h
              subst h
              refine ⟨by simp only; omega, ?_⟩
              simp only [symP, List.length_cons] at h0 ⊢
              split
              · rename_i h5
                have hr : r ≠ [] := by rintro rfl; simp at h5
                have : 0 < r.length := List.length_pos_iff.mpr hr
                omega
              · split
                · omega
                · omega
end Go.Proofs.YtcefmhofidoloaaGreatDoor.Lex

/- How a text and a blob are written; plain laws on lists. -/
set_option linter.unusedVariables false
set_option linter.unusedSimpArgs false
namespace Go.Proofs.YtcefmhofidoloaaGreatDoor.Lex

def quote1 (c : UInt8) : List UInt8 := if c = 39 then [39, 39] else [c]
def quotes (l : List UInt8) : List UInt8 := l.flatMap quote1
theorem quotes_nil : quotes [] = [] := rfl
theorem quotes_cons (c : UInt8) (l : List UInt8) : quotes (c :: l) = quote1 c ++ quotes l := rfl
theorem quotes_append (a b : List UInt8) : quotes (a ++ b) = quotes a ++ quotes b := by simp [quotes]
theorem quotes_none {l : List UInt8} (h : ∀ c ∈ l, c ≠ 39) : quotes l = l := by
  induction l with
  | nil => rfl
  | cons c l ih =>
    rw [quotes_cons, ih (fun d hd => h d (by simp [hd]))]
    simp [quote1, h c (by simp)]
theorem occ_one (s : List UInt8) (i : Nat) : Lib.occAt s [39] i = true ↔ s[i]? = some 39 := by
  unfold Lib.occAt
  cases h : s.drop i with
  | nil =>
    have : s[i]? = none := by
      rw [List.drop_eq_nil_iff] at h
      exact List.getElem?_eq_none h
    simp [this]
  | cons c r =>
    have : s[i]? = some c := by
      have := congrArg (fun l => l[0]?) h
      simpa using this
    rw [this]
    simp [List.isPrefixOf]
    exact eq_comm
theorem replaceK_quotes : ∀ (k : Nat) (s : List UInt8), Lib.count s [39] ≤ k → Lib.replaceK [39] [39, 39] k s = quotes s := by
  intro k
  induction k with
  | zero =>
    intro s h
    rw [Lib.count_one] at h
    show s = quotes s
    rw [quotes_none]
    intro c hc e
    subst e
    have := List.count_pos_iff.2 hc
    omega
  | succ k ih =>
    intro s h
    rcases Lib.index_spec s [39] with ⟨h1, h2⟩ | ⟨i, h1, hi, hocc, hno⟩
    · rw [Lib.replaceK, if_pos (by rw [h1]; rfl), quotes_none]
      intro c hc e
      subst e
      obtain ⟨j, hj, hjc⟩ := List.getElem_of_mem hc
      have h3 := (occ_one s j).2 (by rw [List.getElem?_eq_getElem hj, hjc])
      have h4 := h2 j (by omega)
      rw [h3] at h4
      cases h4
    · rw [Lib.replaceK_hit _ _ _ _ _ h1]
      have h39 := (occ_one s i).1 hocc
      have hlt : i < s.length := (List.getElem?_eq_some_iff.1 h39).1
      have hs : s = s.take i ++ 39 :: s.drop (i + 1) := by
        have e : s[i] = 39 := (List.getElem?_eq_some_iff.1 h39).2
        rw [← e, ← List.drop_eq_getElem_cons hlt, List.take_append_drop]
      have hc := Lib.count_hit (sub := [39]) (by simp) h1
      simp only [List.length_cons, List.length_nil, Nat.zero_add] at hc ⊢
      rw [ih _ (by omega)]
      have hq : quotes (s.take i) = s.take i := quotes_none (by
        intro c hc2 e
        subst e
        obtain ⟨j, hj, hjc⟩ := List.getElem_of_mem hc2
        rw [List.length_take] at hj
        have h3 := (occ_one s j).2 (by
          have h5 : (s.take i)[j]? = some 39 := by rw [List.getElem?_eq_getElem (by rw [List.length_take]; omega), hjc]
          rw [List.getElem?_take, if_pos (by omega)] at h5
          exact h5)
        have h4 := hno j (by omega)
        rw [h3] at h4
        cases h4)
      have e2 : quotes s = quotes (s.take i ++ 39 :: s.drop (i + 1)) := by rw [← hs]
      rw [e2, quotes_append, quotes_cons, hq]
      simp [quote1]
theorem replace_quotes (s : List UInt8) : Lib.replaceAll s [39] [39, 39] = quotes s := by
  unfold Lib.replaceAll Lib.replace Lib.replaceNum
  rw [if_neg (by decide), if_pos (by left; decide)]
  exact replaceK_quotes _ _ (Nat.le_refl _)
theorem quotes_len (s : List UInt8) : (quotes s).length ≤ 2 * s.length := by
  induction s with
  | nil => simp [quotes]
  | cons c s ih =>
    rw [quotes_cons, List.length_append, List.length_cons]
    have : (quote1 c).length ≤ 2 := by unfold quote1; split <;> simp
    omega
theorem str_cat (a b : List UInt8) : (⟨a.toArray⟩ : ByteArray) ++ (⟨b.toArray⟩ : ByteArray) = ⟨(a ++ b).toArray⟩ := by
  apply ByteArray.ext
  simp [ByteArray.data_append]
end Go.Proofs.YtcefmhofidoloaaGreatDoor.Lex

/- '==' of structs as one Bool. Any program. -/
set_option linter.unusedVariables false
namespace Go.Proofs.YtcefmhofidoloaaGreatDoor.Eqs
open Go.RowKit
section
variable {P : Program} {d : Nat} {xs ys : Array Value} {f : Field} {fs : List Field} {a b : Value} {r s : Bool} {w : World}
/-- The last field. -/
theorem f_last (hn : (f.name == "_") = false) (ha : (part f.type xs f.offset).run P w = .ok a w) (hb : (part f.type ys f.offset).run P w = .ok b w) (he : (Op.equalIn d f.type a b).run P w = .ok r w) : (Op.eqFields d xs ys [f]).run P w = .ok r w := by
  have hn' : f.name ≠ "_" := by simpa using hn
  simp only [Op.eqFields, if_pos hn', Sem.run_bind, ha, hb, he, Result.andThen_ok]
  cases r <;> simp
theorem f_cons (hn : (f.name == "_") = false) (ha : (part f.type xs f.offset).run P w = .ok a w) (hb : (part f.type ys f.offset).run P w = .ok b w) (he : (Op.equalIn d f.type a b).run P w = .ok r w) (hr : (Op.eqFields d xs ys fs).run P w = .ok s w) : (Op.eqFields d xs ys (f :: fs)).run P w = .ok (r && s) w := by
  have hn' : f.name ≠ "_" := by simpa using hn
  rw [Op.eqFields]
  simp only [if_pos hn', Sem.run_bind, ha, hb, he, Result.andThen_ok]
  cases r
  · simp
  · simpa using hr
theorem s_of {t : TypeId} {fs : Array Field} (hu : P.underlying t = some (.struct fs)) (hp : P.stoodInHeld t = false) (h : (Op.eqFields d xs ys fs.toList).run P w = .ok r w) : (Op.equalIn (d + 1) t (.agg xs) (.agg ys)).run P w = .ok r w := by
  have hf : P.fieldsOf t = fs := by simp [Program.fieldsOf, hu]
  rw [run_equalIn_struct (P := P) w d t xs ys (by rw [hf]; exact hu) hp, hf]
  exact h
/-- The operations '==' and '!='. -/
theorem op_eql {t : TypeId} (h : ∀ d, (Op.equalIn (d + 2) t (.agg xs) (.agg ys)).run P w = .ok r w) : (binOp .eql t (.agg xs) (.agg ys)).run P w = .ok (.bool r) w := by
  simp only [binOp]
  simp [Op.equal, Op.maxDepth, h 9998]
theorem op_neq {t : TypeId} (h : ∀ d, (Op.equalIn (d + 2) t (.agg xs) (.agg ys)).run P w = .ok r w) : (binOp .neq t (.agg xs) (.agg ys)).run P w = .ok (.bool (!r)) w := by
  simp only [binOp]
  simp [Op.equal, Op.maxDepth, h 9998]
end
end Go.Proofs.YtcefmhofidoloaaGreatDoor.Eqs

/- The words that a name cannot be: the reference's and the lexer's Keyword. -/
set_option linter.unusedVariables false
set_option linter.unusedSimpArgs false
namespace Go.Proofs.YtcefmhofidoloaaGreatDoor.Lex
open Go.RowKit Go.Proofs.YtcefmhofidoloaaGreatDoor.Base

def kwText : List UInt8 := [32, 115, 101, 108, 101, 99, 116, 32, 100, 105, 115, 116, 105, 110, 99, 116, 32, 102, 114, 111, 109, 32, 106, 111, 105, 110, 32, 111, 110, 32, 119, 104, 101, 114, 101, 32, 103, 114, 111, 117, 112, 32, 98, 121, 32, 104, 97, 118, 105, 110, 103, 32, 111, 114, 100, 101, 114, 32, 97, 115, 99, 32, 100, 101, 115, 99, 32, 108, 105, 109, 105, 116, 32, 111, 102, 102, 115, 101, 116, 32, 97, 115, 32, 105, 110, 115, 101, 114, 116, 32, 105, 110, 116, 111, 32, 118, 97, 108, 117, 101, 115, 32, 117, 112, 100, 97, 116, 101, 32, 115, 101, 116, 32, 100, 101, 108, 101, 116, 101, 32, 99, 114, 101, 97, 116, 101, 32, 116, 97, 98, 108, 101, 32, 117, 110, 105, 113, 117, 101, 32, 105, 110, 100, 101, 120, 32, 100, 114, 111, 112, 32, 110, 111, 116, 32, 110, 117, 108, 108, 32, 105, 115, 32, 97, 110, 100, 32, 111, 114, 32, 116, 114, 117, 101, 32, 102, 97, 108, 115, 101, 32, 98, 101, 103, 105, 110, 32, 99, 111, 109, 109, 105, 116, 32, 114, 111, 108, 108, 98, 97, 99, 107, 32, 116, 111, 32, 115, 97, 118, 101, 112, 111, 105, 110, 116, 32, 114, 101, 108, 101, 97, 115, 101, 32, 105, 110, 116, 32, 116, 101, 120, 116, 32, 98, 108, 111, 98, 32, 98, 111, 111, 108, 32]
/-- The keywords. -/
def kwList : List (List UInt8) := [[115, 101, 108, 101, 99, 116], [100, 105, 115, 116, 105, 110, 99, 116], [102, 114, 111, 109], [106, 111, 105, 110], [111, 110], [119, 104, 101, 114, 101], [103, 114, 111, 117, 112], [98, 121], [104, 97, 118, 105, 110, 103], [111, 114, 100, 101, 114], [97, 115, 99], [100, 101, 115, 99], [108, 105, 109, 105, 116], [111, 102, 102, 115, 101, 116], [97, 115], [105, 110, 115, 101, 114, 116], [105, 110, 116, 111], [118, 97, 108, 117, 101, 115], [117, 112, 100, 97, 116, 101], [115, 101, 116], [100, 101, 108, 101, 116, 101], [99, 114, 101, 97, 116, 101], [116, 97, 98, 108, 101], [117, 110, 105, 113, 117, 101], [105, 110, 100, 101, 120], [100, 114, 111, 112], [110, 111, 116], [110, 117, 108, 108], [105, 115], [97, 110, 100], [111, 114], [116, 114, 117, 101], [102, 97, 108, 115, 101], [98, 101, 103, 105, 110], [99, 111, 109, 109, 105, 116], [114, 111, 108, 108, 98, 97, 99, 107], [116, 111], [115, 97, 118, 101, 112, 111, 105, 110, 116], [114, 101, 108, 101, 97, 115, 101], [105, 110, 116], [116, 101, 120, 116], [98, 108, 111, 98], [98, 111, 111, 108]]
def kwc (s : ByteArray) : Bool := Lib.contains kwText ([32] ++ s.data.toList ++ [32])

theorem nonempty (s : ByteArray) (h : 0 < s.size) : ¬ s.toList = [] := by
  intro h2
  have h3 : s.data.toList.length = s.size := rfl
  rw [← Lib.toList_data, h2] at h3
  simp only [List.length_nil] at h3
  omega


set_option maxRecDepth 100000 in
set_option maxHeartbeats 1600000 in
theorem kw_no (s : ByteArray) (w : World) (h : kwList.contains s.toList = false) :
    Calls Tryz.prog 218 #[.string s] w fun e w' => e = .returned (.bool false) ∧ w = w' := by
  have hh : ∀ l, l ∈ kwList → (s.toList == l) = false := by
    intro l hl
    rw [beq_eq_false_iff_ne]
    rintro rfl
    rw [List.contains_iff_mem.2 hl] at h
    cases h
  have h0 := hh [115, 101, 108, 101, 99, 116] (by decide)
  have h1 := hh [100, 105, 115, 116, 105, 110, 99, 116] (by decide)
  have h2 := hh [102, 114, 111, 109] (by decide)
  have h3 := hh [106, 111, 105, 110] (by decide)
  have h4 := hh [111, 110] (by decide)
  have h5 := hh [119, 104, 101, 114, 101] (by decide)
  have h6 := hh [103, 114, 111, 117, 112] (by decide)
  have h7 := hh [98, 121] (by decide)
  have h8 := hh [104, 97, 118, 105, 110, 103] (by decide)
  have h9 := hh [111, 114, 100, 101, 114] (by decide)
  have h10 := hh [97, 115, 99] (by decide)
  have h11 := hh [100, 101, 115, 99] (by decide)
  have h12 := hh [108, 105, 109, 105, 116] (by decide)
  have h13 := hh [111, 102, 102, 115, 101, 116] (by decide)
  have h14 := hh [97, 115] (by decide)
  have h15 := hh [105, 110, 115, 101, 114, 116] (by decide)
  have h16 := hh [105, 110, 116, 111] (by decide)
  have h17 := hh [118, 97, 108, 117, 101, 115] (by decide)
  have h18 := hh [117, 112, 100, 97, 116, 101] (by decide)
  have h19 := hh [115, 101, 116] (by decide)
  have h20 := hh [100, 101, 108, 101, 116, 101] (by decide)
  have h21 := hh [99, 114, 101, 97, 116, 101] (by decide)
  have h22 := hh [116, 97, 98, 108, 101] (by decide)
  have h23 := hh [117, 110, 105, 113, 117, 101] (by decide)
  have h24 := hh [105, 110, 100, 101, 120] (by decide)
  have h25 := hh [100, 114, 111, 112] (by decide)
  have h26 := hh [110, 111, 116] (by decide)
  have h27 := hh [110, 117, 108, 108] (by decide)
  have h28 := hh [105, 115] (by decide)
  have h29 := hh [97, 110, 100] (by decide)
  have h30 := hh [111, 114] (by decide)
  have h31 := hh [116, 114, 117, 101] (by decide)
  have h32 := hh [102, 97, 108, 115, 101] (by decide)
  have h33 := hh [98, 101, 103, 105, 110] (by decide)
  have h34 := hh [99, 111, 109, 109, 105, 116] (by decide)
  have h35 := hh [114, 111, 108, 108, 98, 97, 99, 107] (by decide)
  have h36 := hh [116, 111] (by decide)
  have h37 := hh [115, 97, 118, 101, 112, 111, 105, 110, 116] (by decide)
  have h38 := hh [114, 101, 108, 101, 97, 115, 101] (by decide)
  have h39 := hh [105, 110, 116] (by decide)
  have h40 := hh [116, 101, 120, 116] (by decide)
  have h41 := hh [98, 108, 111, 98] (by decide)
  have h42 := hh [98, 111, 111, 108] (by decide)
  clear hh h
  go_enter Tryz.func218, Tryz.ntmps218
  go_wp2
  go_ret
  exact ⟨rfl, rfl⟩

set_option maxRecDepth 100000 in
set_option maxHeartbeats 1600000 in
theorem kw_0 (w : World) : Calls Tryz.prog 218 #[.string ⟨#[115, 101, 108, 101, 99, 116]⟩] w fun e w' => e = .returned (.bool true) ∧ w = w' := by
  go_enter Tryz.func218, Tryz.ntmps218
  go_wp2
  go_ret
  exact ⟨rfl, rfl⟩

set_option maxRecDepth 100000 in
set_option maxHeartbeats 1600000 in
theorem kw_1 (w : World) : Calls Tryz.prog 218 #[.string ⟨#[100, 105, 115, 116, 105, 110, 99, 116]⟩] w fun e w' => e = .returned (.bool true) ∧ w = w' := by
  go_enter Tryz.func218, Tryz.ntmps218
  go_wp2
  go_ret
  exact ⟨rfl, rfl⟩

set_option maxRecDepth 100000 in
set_option maxHeartbeats 1600000 in
theorem kw_2 (w : World) : Calls Tryz.prog 218 #[.string ⟨#[102, 114, 111, 109]⟩] w fun e w' => e = .returned (.bool true) ∧ w = w' := by
  go_enter Tryz.func218, Tryz.ntmps218
  go_wp2
  go_ret
  exact ⟨rfl, rfl⟩

set_option maxRecDepth 100000 in
set_option maxHeartbeats 1600000 in
theorem kw_3 (w : World) : Calls Tryz.prog 218 #[.string ⟨#[106, 111, 105, 110]⟩] w fun e w' => e = .returned (.bool true) ∧ w = w' := by
  go_enter Tryz.func218, Tryz.ntmps218
  go_wp2
  go_ret
  exact ⟨rfl, rfl⟩

set_option maxRecDepth 100000 in
set_option maxHeartbeats 1600000 in
theorem kw_4 (w : World) : Calls Tryz.prog 218 #[.string ⟨#[111, 110]⟩] w fun e w' => e = .returned (.bool true) ∧ w = w' := by
  go_enter Tryz.func218, Tryz.ntmps218
  go_wp2
  go_ret
  exact ⟨rfl, rfl⟩

set_option maxRecDepth 100000 in
set_option maxHeartbeats 1600000 in
theorem kw_5 (w : World) : Calls Tryz.prog 218 #[.string ⟨#[119, 104, 101, 114, 101]⟩] w fun e w' => e = .returned (.bool true) ∧ w = w' := by
  go_enter Tryz.func218, Tryz.ntmps218
  go_wp2
  go_ret
  exact ⟨rfl, rfl⟩

set_option maxRecDepth 100000 in
set_option maxHeartbeats 1600000 in
theorem kw_6 (w : World) : Calls Tryz.prog 218 #[.string ⟨#[103, 114, 111, 117, 112]⟩] w fun e w' => e = .returned (.bool true) ∧ w = w' := by
  go_enter Tryz.func218, Tryz.ntmps218
  go_wp2
  go_ret
  exact ⟨rfl, rfl⟩

set_option maxRecDepth 100000 in
set_option maxHeartbeats 1600000 in
theorem kw_7 (w : World) : Calls Tryz.prog 218 #[.string ⟨#[98, 121]⟩] w fun e w' => e = .returned (.bool true) ∧ w = w' := by
  go_enter Tryz.func218, Tryz.ntmps218
  go_wp2
  go_ret
  exact ⟨rfl, rfl⟩

set_option maxRecDepth 100000 in
set_option maxHeartbeats 1600000 in
theorem kw_8 (w : World) : Calls Tryz.prog 218 #[.string ⟨#[104, 97, 118, 105, 110, 103]⟩] w fun e w' => e = .returned (.bool true) ∧ w = w' := by
  go_enter Tryz.func218, Tryz.ntmps218
  go_wp2
  go_ret
  exact ⟨rfl, rfl⟩

set_option maxRecDepth 100000 in
set_option maxHeartbeats 1600000 in
theorem kw_9 (w : World) : Calls Tryz.prog 218 #[.string ⟨#[111, 114, 100, 101, 114]⟩] w fun e w' => e = .returned (.bool true) ∧ w = w' := by
  go_enter Tryz.func218, Tryz.ntmps218
  go_wp2
  go_ret
  exact ⟨rfl, rfl⟩

set_option maxRecDepth 100000 in
set_option maxHeartbeats 1600000 in
theorem kw_10 (w : World) : Calls Tryz.prog 218 #[.string ⟨#[97, 115, 99]⟩] w fun e w' => e = .returned (.bool true) ∧ w = w' := by
  go_enter Tryz.func218, Tryz.ntmps218
  go_wp2
  go_ret
  exact ⟨rfl, rfl⟩

set_option maxRecDepth 100000 in
set_option maxHeartbeats 1600000 in
theorem kw_11 (w : World) : Calls Tryz.prog 218 #[.string ⟨#[100, 101, 115, 99]⟩] w fun e w' => e = .returned (.bool true) ∧ w = w' := by
  go_enter Tryz.func218, Tryz.ntmps218
  go_wp2
  go_ret
  exact ⟨rfl, rfl⟩

set_option maxRecDepth 100000 in
set_option maxHeartbeats 1600000 in
theorem kw_12 (w : World) : Calls Tryz.prog 218 #[.string ⟨#[108, 105, 109, 105, 116]⟩] w fun e w' => e = .returned (.bool true) ∧ w = w' := by
  go_enter Tryz.func218, Tryz.ntmps218
  go_wp2
  go_ret
  exact ⟨rfl, rfl⟩

set_option maxRecDepth 100000 in
set_option maxHeartbeats 1600000 in
theorem kw_13 (w : World) : Calls Tryz.prog 218 #[.string ⟨#[111, 102, 102, 115, 101, 116]⟩] w fun e w' => e = .returned (.bool true) ∧ w = w' := by
  go_enter Tryz.func218, Tryz.ntmps218
  go_wp2
  go_ret
  exact ⟨rfl, rfl⟩

set_option maxRecDepth 100000 in
set_option maxHeartbeats 1600000 in
theorem kw_14 (w : World) : Calls Tryz.prog 218 #[.string ⟨#[97, 115]⟩] w fun e w' => e = .returned (.bool true) ∧ w = w' := by
  go_enter Tryz.func218, Tryz.ntmps218
  go_wp2
  go_ret
  exact ⟨rfl, rfl⟩

set_option maxRecDepth 100000 in
set_option maxHeartbeats 1600000 in
theorem kw_15 (w : World) : Calls Tryz.prog 218 #[.string ⟨#[105, 110, 115, 101, 114, 116]⟩] w fun e w' => e = .returned (.bool true) ∧ w = w' := by
  go_enter Tryz.func218, Tryz.ntmps218
  go_wp2
  go_ret
  exact ⟨rfl, rfl⟩

set_option maxRecDepth 100000 in
set_option maxHeartbeats 1600000 in
theorem kw_16 (w : World) : Calls Tryz.prog 218 #[.string ⟨#[105, 110, 116, 111]⟩] w fun e w' => e = .returned (.bool true) ∧ w = w' := by
  go_enter Tryz.func218, Tryz.ntmps218
  go_wp2
  go_ret
  exact ⟨rfl, rfl⟩

set_option maxRecDepth 100000 in
set_option maxHeartbeats 1600000 in
theorem kw_17 (w : World) : Calls Tryz.prog 218 #[.string ⟨#[118, 97, 108, 117, 101, 115]⟩] w fun e w' => e = .returned (.bool true) ∧ w = w' := by
  go_enter Tryz.func218, Tryz.ntmps218
  go_wp2
  go_ret
  exact ⟨rfl, rfl⟩

set_option maxRecDepth 100000 in
set_option maxHeartbeats 1600000 in
theorem kw_18 (w : World) : Calls Tryz.prog 218 #[.string ⟨#[117, 112, 100, 97, 116, 101]⟩] w fun e w' => e = .returned (.bool true) ∧ w = w' := by
  go_enter Tryz.func218, Tryz.ntmps218
  go_wp2
  go_ret
  exact ⟨rfl, rfl⟩

set_option maxRecDepth 100000 in
set_option maxHeartbeats 1600000 in
theorem kw_19 (w : World) : Calls Tryz.prog 218 #[.string ⟨#[115, 101, 116]⟩] w fun e w' => e = .returned (.bool true) ∧ w = w' := by
  go_enter Tryz.func218, Tryz.ntmps218
  go_wp2
  go_ret
  exact ⟨rfl, rfl⟩

set_option maxRecDepth 100000 in
set_option maxHeartbeats 1600000 in
theorem kw_20 (w : World) : Calls Tryz.prog 218 #[.string ⟨#[100, 101, 108, 101, 116, 101]⟩] w fun e w' => e = .returned (.bool true) ∧ w = w' := by
  go_enter Tryz.func218, Tryz.ntmps218
  go_wp2
  go_ret
  exact ⟨rfl, rfl⟩

set_option maxRecDepth 100000 in
set_option maxHeartbeats 1600000 in
theorem kw_21 (w : World) : Calls Tryz.prog 218 #[.string ⟨#[99, 114, 101, 97, 116, 101]⟩] w fun e w' => e = .returned (.bool true) ∧ w = w' := by
  go_enter Tryz.func218, Tryz.ntmps218
  go_wp2
  go_ret
  exact ⟨rfl, rfl⟩

set_option maxRecDepth 100000 in
set_option maxHeartbeats 1600000 in
theorem kw_22 (w : World) : Calls Tryz.prog 218 #[.string ⟨#[116, 97, 98, 108, 101]⟩] w fun e w' => e = .returned (.bool true) ∧ w = w' := by
  go_enter Tryz.func218, Tryz.ntmps218
  go_wp2
  go_ret
  exact ⟨rfl, rfl⟩

set_option maxRecDepth 100000 in
set_option maxHeartbeats 1600000 in
theorem kw_23 (w : World) : Calls Tryz.prog 218 #[.string ⟨#[117, 110, 105, 113, 117, 101]⟩] w fun e w' => e = .returned (.bool true) ∧ w = w' := by
  go_enter Tryz.func218, Tryz.ntmps218
  go_wp2
  go_ret
  exact ⟨rfl, rfl⟩

set_option maxRecDepth 100000 in
set_option maxHeartbeats 1600000 in
theorem kw_24 (w : World) : Calls Tryz.prog 218 #[.string ⟨#[105, 110, 100, 101, 120]⟩] w fun e w' => e = .returned (.bool true) ∧ w = w' := by
  go_enter Tryz.func218, Tryz.ntmps218
  go_wp2
  go_ret
  exact ⟨rfl, rfl⟩

set_option maxRecDepth 100000 in
set_option maxHeartbeats 1600000 in
theorem kw_25 (w : World) : Calls Tryz.prog 218 #[.string ⟨#[100, 114, 111, 112]⟩] w fun e w' => e = .returned (.bool true) ∧ w = w' := by
  go_enter Tryz.func218, Tryz.ntmps218
  go_wp2
  go_ret
  exact ⟨rfl, rfl⟩

set_option maxRecDepth 100000 in
set_option maxHeartbeats 1600000 in
theorem kw_26 (w : World) : Calls Tryz.prog 218 #[.string ⟨#[110, 111, 116]⟩] w fun e w' => e = .returned (.bool true) ∧ w = w' := by
  go_enter Tryz.func218, Tryz.ntmps218
  go_wp2
  go_ret
  exact ⟨rfl, rfl⟩

set_option maxRecDepth 100000 in
set_option maxHeartbeats 1600000 in
theorem kw_27 (w : World) : Calls Tryz.prog 218 #[.string ⟨#[110, 117, 108, 108]⟩] w fun e w' => e = .returned (.bool true) ∧ w = w' := by
  go_enter Tryz.func218, Tryz.ntmps218
  go_wp2
  go_ret
  exact ⟨rfl, rfl⟩

set_option maxRecDepth 100000 in
set_option maxHeartbeats 1600000 in
theorem kw_28 (w : World) : Calls Tryz.prog 218 #[.string ⟨#[105, 115]⟩] w fun e w' => e = .returned (.bool true) ∧ w = w' := by
  go_enter Tryz.func218, Tryz.ntmps218
  go_wp2
  go_ret
  exact ⟨rfl, rfl⟩

set_option maxRecDepth 100000 in
set_option maxHeartbeats 1600000 in
theorem kw_29 (w : World) : Calls Tryz.prog 218 #[.string ⟨#[97, 110, 100]⟩] w fun e w' => e = .returned (.bool true) ∧ w = w' := by
  go_enter Tryz.func218, Tryz.ntmps218
  go_wp2
  go_ret
  exact ⟨rfl, rfl⟩

set_option maxRecDepth 100000 in
set_option maxHeartbeats 1600000 in
theorem kw_30 (w : World) : Calls Tryz.prog 218 #[.string ⟨#[111, 114]⟩] w fun e w' => e = .returned (.bool true) ∧ w = w' := by
  go_enter Tryz.func218, Tryz.ntmps218
  go_wp2
  go_ret
  exact ⟨rfl, rfl⟩

set_option maxRecDepth 100000 in
set_option maxHeartbeats 1600000 in
theorem kw_31 (w : World) : Calls Tryz.prog 218 #[.string ⟨#[116, 114, 117, 101]⟩] w fun e w' => e = .returned (.bool true) ∧ w = w' := by
  go_enter Tryz.func218, Tryz.ntmps218
  go_wp2
  go_ret
  exact ⟨rfl, rfl⟩

set_option maxRecDepth 100000 in
set_option maxHeartbeats 1600000 in
theorem kw_32 (w : World) : Calls Tryz.prog 218 #[.string ⟨#[102, 97, 108, 115, 101]⟩] w fun e w' => e = .returned (.bool true) ∧ w = w' := by
  go_enter Tryz.func218, Tryz.ntmps218
  go_wp2
  go_ret
  exact ⟨rfl, rfl⟩

set_option maxRecDepth 100000 in
set_option maxHeartbeats 1600000 in
theorem kw_33 (w : World) : Calls Tryz.prog 218 #[.string ⟨#[98, 101, 103, 105, 110]⟩] w fun e w' => e = .returned (.bool true) ∧ w = w' := by
  go_enter Tryz.func218, Tryz.ntmps218
  go_wp2
  go_ret
  exact ⟨rfl, rfl⟩

set_option maxRecDepth 100000 in
set_option maxHeartbeats 1600000 in
theorem kw_34 (w : World) : Calls Tryz.prog 218 #[.string ⟨#[99, 111, 109, 109, 105, 116]⟩] w fun e w' => e = .returned (.bool true) ∧ w = w' := by
  go_enter Tryz.func218, Tryz.ntmps218
  go_wp2
  go_ret
  exact ⟨rfl, rfl⟩

set_option maxRecDepth 100000 in
set_option maxHeartbeats 1600000 in
theorem kw_35 (w : World) : Calls Tryz.prog 218 #[.string ⟨#[114, 111, 108, 108, 98, 97, 99, 107]⟩] w fun e w' => e = .returned (.bool true) ∧ w = w' := by
  go_enter Tryz.func218, Tryz.ntmps218
  go_wp2
  go_ret
  exact ⟨rfl, rfl⟩

set_option maxRecDepth 100000 in
set_option maxHeartbeats 1600000 in
theorem kw_36 (w : World) : Calls Tryz.prog 218 #[.string ⟨#[116, 111]⟩] w fun e w' => e = .returned (.bool true) ∧ w = w' := by
  go_enter Tryz.func218, Tryz.ntmps218
  go_wp2
  go_ret
  exact ⟨rfl, rfl⟩

set_option maxRecDepth 100000 in
set_option maxHeartbeats 1600000 in
theorem kw_37 (w : World) : Calls Tryz.prog 218 #[.string ⟨#[115, 97, 118, 101, 112, 111, 105, 110, 116]⟩] w fun e w' => e = .returned (.bool true) ∧ w = w' := by
  go_enter Tryz.func218, Tryz.ntmps218
  go_wp2
  go_ret
  exact ⟨rfl, rfl⟩

set_option maxRecDepth 100000 in
set_option maxHeartbeats 1600000 in
theorem kw_38 (w : World) : Calls Tryz.prog 218 #[.string ⟨#[114, 101, 108, 101, 97, 115, 101]⟩] w fun e w' => e = .returned (.bool true) ∧ w = w' := by
  go_enter Tryz.func218, Tryz.ntmps218
  go_wp2
  go_ret
  exact ⟨rfl, rfl⟩

set_option maxRecDepth 100000 in
set_option maxHeartbeats 1600000 in
theorem kw_39 (w : World) : Calls Tryz.prog 218 #[.string ⟨#[105, 110, 116]⟩] w fun e w' => e = .returned (.bool true) ∧ w = w' := by
  go_enter Tryz.func218, Tryz.ntmps218
  go_wp2
  go_ret
  exact ⟨rfl, rfl⟩

set_option maxRecDepth 100000 in
set_option maxHeartbeats 1600000 in
theorem kw_40 (w : World) : Calls Tryz.prog 218 #[.string ⟨#[116, 101, 120, 116]⟩] w fun e w' => e = .returned (.bool true) ∧ w = w' := by
  go_enter Tryz.func218, Tryz.ntmps218
  go_wp2
  go_ret
  exact ⟨rfl, rfl⟩

set_option maxRecDepth 100000 in
set_option maxHeartbeats 1600000 in
theorem kw_41 (w : World) : Calls Tryz.prog 218 #[.string ⟨#[98, 108, 111, 98]⟩] w fun e w' => e = .returned (.bool true) ∧ w = w' := by
  go_enter Tryz.func218, Tryz.ntmps218
  go_wp2
  go_ret
  exact ⟨rfl, rfl⟩

set_option maxRecDepth 100000 in
set_option maxHeartbeats 1600000 in
theorem kw_42 (w : World) : Calls Tryz.prog 218 #[.string ⟨#[98, 111, 111, 108]⟩] w fun e w' => e = .returned (.bool true) ∧ w = w' := by
  go_enter Tryz.func218, Tryz.ntmps218
  go_wp2
  go_ret
  exact ⟨rfl, rfl⟩

theorem of_list {s : ByteArray} {l : List UInt8} (h : s.toList = l) : s = ⟨l.toArray⟩ := by
  obtain ⟨⟨d⟩⟩ := s
  rw [Lib.toList_data] at h
  simp only at h
  rw [h]

theorem kw_calls (s : ByteArray) (w : World) : Calls Tryz.prog 218 #[.string s] w fun e w' => e = .returned (.bool (kwList.contains s.toList)) ∧ w = w' := by
  cases hk : kwList.contains s.toList with
  | false => exact kw_no s w hk
  | true =>
    have hm := List.contains_iff_mem.1 hk
    clear hk
    simp only [kwList, List.mem_cons, List.not_mem_nil, or_false] at hm
    rcases hm with h | h | h | h | h | h | h | h | h | h | h | h | h | h | h | h | h | h | h | h | h | h | h | h | h | h | h | h | h | h | h | h | h | h | h | h | h | h | h | h | h | h | h
    · rw [of_list h]; exact kw_0 w
    · rw [of_list h]; exact kw_1 w
    · rw [of_list h]; exact kw_2 w
    · rw [of_list h]; exact kw_3 w
    · rw [of_list h]; exact kw_4 w
    · rw [of_list h]; exact kw_5 w
    · rw [of_list h]; exact kw_6 w
    · rw [of_list h]; exact kw_7 w
    · rw [of_list h]; exact kw_8 w
    · rw [of_list h]; exact kw_9 w
    · rw [of_list h]; exact kw_10 w
    · rw [of_list h]; exact kw_11 w
    · rw [of_list h]; exact kw_12 w
    · rw [of_list h]; exact kw_13 w
    · rw [of_list h]; exact kw_14 w
    · rw [of_list h]; exact kw_15 w
    · rw [of_list h]; exact kw_16 w
    · rw [of_list h]; exact kw_17 w
    · rw [of_list h]; exact kw_18 w
    · rw [of_list h]; exact kw_19 w
    · rw [of_list h]; exact kw_20 w
    · rw [of_list h]; exact kw_21 w
    · rw [of_list h]; exact kw_22 w
    · rw [of_list h]; exact kw_23 w
    · rw [of_list h]; exact kw_24 w
    · rw [of_list h]; exact kw_25 w
    · rw [of_list h]; exact kw_26 w
    · rw [of_list h]; exact kw_27 w
    · rw [of_list h]; exact kw_28 w
    · rw [of_list h]; exact kw_29 w
    · rw [of_list h]; exact kw_30 w
    · rw [of_list h]; exact kw_31 w
    · rw [of_list h]; exact kw_32 w
    · rw [of_list h]; exact kw_33 w
    · rw [of_list h]; exact kw_34 w
    · rw [of_list h]; exact kw_35 w
    · rw [of_list h]; exact kw_36 w
    · rw [of_list h]; exact kw_37 w
    · rw [of_list h]; exact kw_38 w
    · rw [of_list h]; exact kw_39 w
    · rw [of_list h]; exact kw_40 w
    · rw [of_list h]; exact kw_41 w
    · rw [of_list h]; exact kw_42 w

/-- The bytes up to the next blank. -/
def tok (i : Nat) : List UInt8 := (kwText.drop (i + 1)).takeWhile (fun c => c != 32)
theorem toks : ∀ i, i ≤ kwText.length → kwText[i]? = some 32 → tok i = [] ∨ kwList.contains (tok i) = true := by decide +kernel
theorem all_in : ∀ l, l ∈ kwList → Lib.contains kwText ([32] ++ l ++ [32]) = true := by decide +kernel

theorem takeWhile_word (w r : List UInt8) (h : ∀ c ∈ w, c ≠ 32) : (w ++ 32 :: r).takeWhile (fun c => c != 32) = w := by
  induction w with
  | nil => simp
  | cons c w ih =>
    have hc := h c (by simp)
    simp only [List.cons_append]
    rw [List.takeWhile_cons_of_pos (by simpa using hc), ih (fun d hd => h d (by simp [hd]))]

theorem kwc_eq (s : ByteArray) (hs : 0 < s.size) (hno : ∀ c ∈ s.data.toList, c ≠ 32) : kwc s = kwList.contains s.toList := by
  rw [Lib.toList_data, Bool.eq_iff_iff]
  constructor
  · intro h
    unfold kwc Lib.contains at h
    rw [decide_eq_true_eq] at h
    rcases Lib.index_spec kwText ([32] ++ s.data.toList ++ [32]) with ⟨h1, _⟩ | ⟨i, h1, hi, hocc, _⟩
    · omega
    · have hne : s.data.toList ≠ [] := by
        intro h2
        have h3 : s.data.toList.length = s.size := rfl
        rw [h2] at h3
        simp only [List.length_nil] at h3
        omega
      unfold Lib.occAt at hocc
      rw [List.isPrefixOf_iff_prefix] at hocc
      obtain ⟨r, hr⟩ := hocc
      have hr2 : kwText.drop i = 32 :: (s.data.toList ++ 32 :: r) := by rw [← hr]; simp
      have h0 : kwText[i]? = some 32 := by
        have := congrArg (fun l => l[0]?) hr2
        simpa using this
      have ht : tok i = s.data.toList := by
        unfold tok
        have : kwText.drop (i + 1) = s.data.toList ++ 32 :: r := by
          have := congrArg (List.drop 1) hr2
          rw [List.drop_drop] at this
          simpa using this
        rw [this]
        exact takeWhile_word _ _ hno
      rcases toks i hi h0 with h2 | h2
      · rw [ht] at h2; exact absurd h2 hne
      · rw [ht] at h2; exact h2
  · intro h
    exact all_in _ (List.contains_iff_mem.1 h)


theorem kw_sp (s : ByteArray) (h : 32 ∈ s.data.toList) : kwList.contains s.toList = false := by
  rw [Lib.toList_data]
  cases hc : kwList.contains s.data.toList with
  | false => rfl
  | true =>
    exfalso
    have h2 : ∀ l, l ∈ kwList → l.contains 32 = false := by decide +kernel
    have h3 := h2 _ (List.contains_iff_mem.1 hc)
    rw [List.contains_iff_mem.2 h] at h3
    cases h3
theorem kw_empty (s : ByteArray) (h : s.size = 0) : kwList.contains s.toList = false := by
  have h2 : s.data.toList = [] := List.length_eq_zero_iff.1 h
  rw [Lib.toList_data, h2]
  decide +kernel

set_option maxRecDepth 100000 in
set_option maxHeartbeats 1600000 in
theorem keyword_calls (s : ByteArray) (w : World) (hsz : s.size ≤ 140737488351232) (hsh : w.ShapedOpen Tryz.prog) :
    Calls Tryz.prog 55 #[.string s] w fun e w' => e = .returned (.bool (kwList.contains s.toList)) ∧ w = w' := by
  by_cases hs : s.size = 0
  · rw [kw_empty s hs]
    have h2 : s.data.toList = [] := List.length_eq_zero_iff.1 hs
    have h3 : s.toList = [] := by rw [Lib.toList_data, h2]
    have h4 : (!s.toList.isEmpty) = false := by rw [h3]; rfl
    clear h2 hs
    go_enter Tryz.func55, Tryz.ntmps55
    go_wp2
    go_ret
    exact ⟨rfl, rfl⟩
  · have hem := nonempty s (by omega)
    have hem2 : s.toList.isEmpty = false := by simpa using hem
    have hem3 : (!s.toList.isEmpty) = true := by rw [hem2]; rfl
    by_cases hsp : 32 ∈ s.data.toList
    · rw [kw_sp s hsp]
      have HIX : Asd (decide (0 ≤ Lib.indexByte s.data.toList 32) = true) := Asd.mk (by
        rw [decide_eq_true_eq]
        have hge := Lib.indexByte_ge s.data.toList 32
        by_cases hm : Lib.indexByte s.data.toList 32 = -1
        · exfalso
          obtain ⟨j, hj, hjc⟩ := List.getElem_of_mem hsp
          exact Lib.indexByte_none hm j (by rw [List.getElem?_eq_getElem hj, hjc])
        · omega)
      clear hsp
      go_enter Tryz.func55, Tryz.ntmps55
      go_wp2_with fail
      refine (Tryz.strings_Contains_one _ 32 _).mono ?_
      rintro e w' ⟨rfl, rfl⟩
      rw [HIX.out]
      go_wp2
      go_ret
      exact ⟨rfl, rfl⟩
    · have HIX : Asd (decide (0 ≤ Lib.indexByte s.data.toList 32) = false) := Asd.mk (by
        rw [decide_eq_false_iff_not]
        intro h0
        obtain ⟨o, ho⟩ := Int.eq_ofNat_of_zero_le h0
        have h1 := (Lib.indexByte_some ho).1
        exact hsp (List.mem_of_getElem? h1))
      have HKW := Asd.mk (kwc_eq s (by omega) (fun c hc e => hsp (e ▸ hc)))
      have HSH := Asd.mk hsh
      clear hsp hsh
      go_enter Tryz.func55, Tryz.ntmps55
      go_wp2_with fail
      refine (Tryz.strings_Contains_one _ 32 _).mono ?_
      rintro e w' ⟨rfl, rfl⟩
      rw [HIX.out]
      go_wp2_with fail
      refine (Tryz.strings_Contains_shaped _ _ _ HSH.out (by decide)).mono ?_
      rintro e w' ⟨rfl, rfl⟩
      generalize hb : Lib.contains _ _ = bb
      have hbb : Asd (bb = kwc s) := Asd.mk (by rw [← hb]; simp [kwc, kwText])
      clear hb
      rw [hbb.out, HKW.out]
      generalize hkk : kwList.contains s.toList = kk
      have HKK := Asd.mk hkk
      clear hkk
      go_wp2
      go_ret
      exact ⟨ret_eq (by first | (rw [HKK.out]; done) | (rw [HKK.out]; rfl)), rfl⟩

end Go.Proofs.YtcefmhofidoloaaGreatDoor.Lex

/- Values: two are the same; what is wrong with one. -/
set_option linter.unusedVariables false
set_option linter.unusedSimpArgs false
namespace Go.Proofs.YtcefmhofidoloaaGreatDoor.Lex
open Go.RowKit Go.Proofs.YtcefmhofidoloaaGreatDoor.Base

theorem blk_below {W W' : World} {g : Nat} {o : Obj} (hb : Below W.heap.size W W') (h : W.heap[g]? = some o) : W'.heap[g]? = some o := (hb.block g (blk_lt h)).trans h
theorem val_in (d : Nat) (w : World) (x0 y0 : Int) (x1 y1 : Int) (x2 y2 : ByteArray) :
    (Op.equalIn (d + 2) 56 (.agg #[.int .i64 x0, .int .i64 x1, .string x2]) (.agg #[.int .i64 y0, .int .i64 y1, .string y2])).run Tryz.prog w = .ok (x0 == y0 && (x1 == y1 && (x2.toList == y2.toList))) w := by
  refine Eqs.s_of Tryz.underlying56 (by kernel_rfl) ?_
  refine Eqs.f_cons (by rfl) (by go_simp; rfl) (by go_simp; rfl) (by go_simp) ?_
  refine Eqs.f_cons (by rfl) (by go_simp; rfl) (by go_simp; rfl) (by go_simp) ?_
  exact Eqs.f_last (by rfl) (by go_simp; rfl) (by go_simp; rfl) (by go_simp)
theorem val_neq (w : World) (x0 y0 : Int) (x1 y1 : Int) (x2 y2 : ByteArray) :
    (binOp .neq 56 (.agg #[.int .i64 x0, .int .i64 x1, .string x2]) (.agg #[.int .i64 y0, .int .i64 y1, .string y2])).run Tryz.prog w = .ok (.bool (!(x0 == y0 && (x1 == y1 && (x2.toList == y2.toList))))) w := Eqs.op_neq fun d => val_in d w x0 y0 x1 y1 x2 y2

set_option maxRecDepth 100000 in
set_option maxHeartbeats 1600000 in
/-- A text, or a blob, is right. -/
theorem vcheck_calls (k : Int) (hk : k = 3 ∨ k = 4) (s : ByteArray) (w : World) :
    Calls Tryz.prog 128 #[.agg #[.int .i64 k, .int .i64 0, .string s]] w fun e w' => e = .returned (.int .i64 0) ∧ Below w.heap.size w w' := by
  have hq : ∀ (w : World), (binOp .neq 56 (.agg #[.int .i64 k, .int .i64 0, .string s]) (.agg #[.int .i64 k, .int .i64 0, .string s])).run Tryz.prog w = .ok (.bool false) w := fun w => by
    rw [val_neq]
    simp
  rcases hk with rfl | rfl
  · have hq3 : ∀ w, (binOp .neq 56 (.agg #[.int .i64 3, .int .i64 0, .string s]) (.agg #[.int .i64 3, .int .i64 0, .string s])).run Tryz.prog w = .ok (.bool false) w := hq
    clear hq
    go_enter Tryz.func128, Tryz.ntmps128
    go_wp2
    go_ret
    exact ⟨rfl, by repeat (first | exact Below.refl _ _ | refine Below.alloc ?_ (by simp) _ | refine Below.setCell ?_ (by simp) _ | refine Below.drew ?_)⟩
  · have hq3 : ∀ w, (binOp .neq 56 (.agg #[.int .i64 4, .int .i64 0, .string s]) (.agg #[.int .i64 4, .int .i64 0, .string s])).run Tryz.prog w = .ok (.bool false) w := hq
    clear hq
    go_enter Tryz.func128, Tryz.ntmps128
    go_wp2
    go_ret
    exact ⟨rfl, by repeat (first | exact Below.refl _ _ | refine Below.alloc ?_ (by simp) _ | refine Below.setCell ?_ (by simp) _ | refine Below.drew ?_)⟩
end Go.Proofs.YtcefmhofidoloaaGreatDoor.Lex

/- The writers of strings.Builder, by the shelf's contracts. -/
set_option linter.unusedVariables false
namespace Go.Proofs
open Go.Shelf
def Tryz.lays167_ren : Go.Shelf.Ren := ⟨fun | 167 => 130 | 240 => 165 | 276 => 220 | n => n, fun | 0 => 0 | 4 => 4 | 5 => 5 | 9 => 9 | 20 => 20 | 37 => 120 | 70 => 147 | 72 => 149 | 75 => 42 | 164 => 167 | 80 => 112 | n => n, fun | n => n⟩
theorem Tryz.lays167 : Go.Proofs.Lays.n167 Tryz.prog Tryz.lays167_ren := {
  mixed := by kernel_rfl
  f167 := Tryz.func130.trans (congrArg some (by kernel_rfl))
  f240 := Tryz.func165.trans (congrArg some (by kernel_rfl))
  f276 := Tryz.func220.trans (congrArg some (by kernel_rfl))
  t0 := Tryz.underlying0
  a0 := Tryz.isAgg0
  z0 := Tryz.sizeOf0
  v0 := Tryz.zeroValue0
  t4 := Tryz.underlying4
  a4 := Tryz.isAgg4
  z4 := Tryz.sizeOf4
  v4 := Tryz.zeroValue4
  t5 := Tryz.underlying5
  a5 := Tryz.isAgg5
  z5 := Tryz.sizeOf5
  v5 := Tryz.zeroValue5
  t9 := Tryz.underlying9
  a9 := Tryz.isAgg9
  z9 := Tryz.sizeOf9
  v9 := Tryz.zeroValue9
  t20 := Tryz.underlying20
  a20 := Tryz.isAgg20
  z20 := Tryz.sizeOf20
  v20 := Tryz.zeroValue20
  t37 := Tryz.underlying120
  a37 := Tryz.isAgg120
  z37 := Tryz.sizeOf120
  v37 := Tryz.zeroValue120
  t70 := Tryz.underlying147
  a70 := Tryz.isAgg147
  z70 := Tryz.sizeOf147
  v70 := Tryz.zeroValue147
  t72 := Tryz.underlying149
  a72 := Tryz.isAgg149
  z72 := Tryz.sizeOf149
  v72 := Tryz.zeroValue149
  t75 := Tryz.underlying42
  a75 := Tryz.isAgg42
  z75 := Tryz.sizeOf42
  v75 := Tryz.zeroValue42
  t164 := Tryz.underlying167
  a164 := Tryz.isAgg167
  z164 := Tryz.sizeOf167
  v164 := Tryz.zeroValue167 }
theorem Tryz.Builder_Extra_167 : Builder.Extra Tryz.prog Tryz.lays167_ren := {
  sizeBuilder := by kernel_rfl
  liesBuilder := by kernel_rfl
  t5 := Tryz.underlying5
  a5 := Tryz.isAgg5
  z5 := Tryz.sizeOf5
  v5 := Tryz.zeroValue5
  infoByte := by kernel_rfl
  cellsByte := by kernel_rfl
  sizeByte := by kernel_rfl
  neB5 := by decide }
open Go.RowKit in
theorem Tryz.Builder_WriteByte (B b : Nat) (bs : List Value) (c : Int) (w : World) (h : Lib.IsBuilder 149 5 B b bs w) (hlen : bs.length + 1 ≤ 140737488355328) (hBw : B ≤ w.heap.size) :
    Calls Tryz.prog 130 #[.pointer (some ⟨b, 0, none⟩), .int .u8 c] w fun e w' => e = .returned .nilIface ∧ (Lib.BuilderAt 149 5 B b (.pointer (some ⟨b, 0, none⟩)) (bs ++ [.int .u8 c]) w' ∧ Below B w w') := Any.Builder_WriteByte Tryz.lays167 Tryz.Builder_Extra_167 B b bs c w h hlen hBw
def Tryz.lays166_ren : Go.Shelf.Ren := ⟨fun | 166 => 93 | 240 => 165 | 276 => 220 | n => n, fun | 0 => 0 | 3 => 3 | 4 => 4 | 5 => 5 | 9 => 9 | 20 => 20 | 37 => 120 | 70 => 147 | 72 => 149 | 75 => 42 | 164 => 167 | 80 => 112 | n => n, fun | n => n⟩
theorem Tryz.lays166 : Go.Proofs.Lays.n166 Tryz.prog Tryz.lays166_ren := {
  mixed := by kernel_rfl
  f166 := Tryz.func93.trans (congrArg some (by kernel_rfl))
  f240 := Tryz.func165.trans (congrArg some (by kernel_rfl))
  f276 := Tryz.func220.trans (congrArg some (by kernel_rfl))
  t0 := Tryz.underlying0
  a0 := Tryz.isAgg0
  z0 := Tryz.sizeOf0
  v0 := Tryz.zeroValue0
  t3 := Tryz.underlying3
  a3 := Tryz.isAgg3
  z3 := Tryz.sizeOf3
  v3 := Tryz.zeroValue3
  t4 := Tryz.underlying4
  a4 := Tryz.isAgg4
  z4 := Tryz.sizeOf4
  v4 := Tryz.zeroValue4
  t9 := Tryz.underlying9
  a9 := Tryz.isAgg9
  z9 := Tryz.sizeOf9
  v9 := Tryz.zeroValue9
  t20 := Tryz.underlying20
  a20 := Tryz.isAgg20
  z20 := Tryz.sizeOf20
  v20 := Tryz.zeroValue20
  t37 := Tryz.underlying120
  a37 := Tryz.isAgg120
  z37 := Tryz.sizeOf120
  v37 := Tryz.zeroValue120
  t70 := Tryz.underlying147
  a70 := Tryz.isAgg147
  z70 := Tryz.sizeOf147
  v70 := Tryz.zeroValue147
  t72 := Tryz.underlying149
  a72 := Tryz.isAgg149
  z72 := Tryz.sizeOf149
  v72 := Tryz.zeroValue149
  t75 := Tryz.underlying42
  a75 := Tryz.isAgg42
  z75 := Tryz.sizeOf42
  v75 := Tryz.zeroValue42
  t164 := Tryz.underlying167
  a164 := Tryz.isAgg167
  z164 := Tryz.sizeOf167
  v164 := Tryz.zeroValue167 }
theorem Tryz.Builder_Extra_166 : Builder.Extra Tryz.prog Tryz.lays166_ren := {
  sizeBuilder := by kernel_rfl
  liesBuilder := by kernel_rfl
  t5 := Tryz.underlying5
  a5 := Tryz.isAgg5
  z5 := Tryz.sizeOf5
  v5 := Tryz.zeroValue5
  infoByte := by kernel_rfl
  cellsByte := by kernel_rfl
  sizeByte := by kernel_rfl
  neB5 := by decide }
open Go.RowKit in
theorem Tryz.Builder_WriteString (B b : Nat) (bs : List Value) (s : ByteArray) (w : World) (h : Lib.IsBuilder 149 5 B b bs w) (hlen : bs.length + s.size ≤ 140737488355328) (hBw : B ≤ w.heap.size) :
    Calls Tryz.prog 93 #[.pointer (some ⟨b, 0, none⟩), .string s] w fun e w' => e = .returned (.tuple #[.int .i64 s.size, .nilIface]) ∧ (Lib.BuilderAt 149 5 B b (.pointer (some ⟨b, 0, none⟩)) (bs ++ Lib.strCells s) w' ∧ Below B w w') := Any.Builder_WriteString Tryz.lays166 Tryz.Builder_Extra_166 B b bs s w h hlen hBw
end Go.Proofs

/- append of whatever slice, nil or not, onto a row of the call's own; what turns no block of a type. Any program. -/
set_option linter.unusedVariables false
namespace Go.Proofs.YtcefmhofidoloaaGreatDoor.App
open Go.RowKit Go.Proofs.YtcefmhofidoloaaGreatDoor.Base

/-- A slice's type, its element's type, and what the latter is. -/
structure RowT (P : Program) (t e : TypeId) (size bytes : Nat) : Prop where
  ht : P.underlying t = some (.slice e)
  hi : ∃ i z, P.info? e = some i ∧ i.zero = some z ∧ i.size = size ∧ i.bytes = bytes ∧ z.cells.size = size
  pos : 0 < size

/-- What the slice at A, m long, gives to an append. -/
structure Feeds (w : World) (A : Option Addr) (m c size : Nat) (news : List Value) : Prop where
  len : news.length = m * size
  got : ∀ a, A = some a → ∀ j u, news[j]? = some u → w.cell? (a.add j) = some u
  zero : A = none → m = 0 ∧ c = 0
  one : ∀ u ∈ news, u.oneCell' = true

theorem Feeds.drew {w : World} {A : Option Addr} {m c size : Nat} {news : List Value} (h : Feeds w A m c size news) : Feeds w.drew A m c size news := ⟨h.len, h.got, h.zero, h.one⟩
theorem Feeds.of_block {w : World} {B : Nat} {cs : Array Value} {t : TypeId} {fr : Nat × Nat} (hb : w.heap[B]? = some (.cells cs t fr)) {m c size : Nat} (hl : cs.toList.length = m * size) (h1 : ∀ u ∈ cs.toList, u.oneCell' = true) : Feeds w (some ⟨B, 0, none⟩) m c size cs.toList :=
  ⟨hl, fun a ha => by cases ha; exact World.news_of_block hb, (fun h => by cases h), h1⟩
theorem Feeds.below {w w' : World} {A : Option Addr} {m c size : Nat} {news : List Value} (h : Feeds w A m c size news) (hb : Below w.heap.size w w') : Feeds w' A m c size news :=
  ⟨h.len, fun a ha j u hu => (hb.cell (by have h1 := World.block_lt_of_cell? w _ (h.got a ha j u hu); exact h1)).trans (h.got a ha j u hu), h.zero, h.one⟩

theorem own_form {w : World} {B : Nat} {e : TypeId} {s : Nat} {v : Value} {n : Nat} {xs : List Value} (h : w.ownsRow B e s v n xs) : ∃ A c, v = .slice A n c := by
  rcases h.2 with ⟨rfl, rfl⟩ | ⟨g, cap, cur, rfl, _⟩
  · exact ⟨_, _, rfl⟩
  · exact ⟨_, _, rfl⟩

theorem run_src {P : Program} (w : World) {t ty e : TypeId} {size bytes : Nat} (ht : RowT P t e size bytes) {base : Nat}
    {v : Value} {n : Nat} {xs : List Value} (hown : w.ownsRow base e size v n xs) {A : Option Addr} {m c : Nat} {news : List Value} (hs : Feeds w A m c size news)
    (h63 : n + m ≤ maxLen) (hbytes : (n + m) * bytes ≤ 140737488355328) (hbase : base ≤ w.heap.size) :
    ∃ A' c' w', (Builtin.append_ #[t, t] ty #[v, .slice A m c]).run P w = .ok (.slice A' (n + m) c') w' ∧ w'.ownsRow base e size (.slice A' (n + m) c') (n + m) (xs ++ news) ∧ w.grownBy w' v.ownBlock := by
  obtain ⟨i, z, hi, hz, hsz, hby, hzs⟩ := ht.hi
  cases A with
  | none =>
    obtain ⟨rfl, rfl⟩ := hs.zero rfl
    have hn : news = [] := List.length_eq_zero_iff.1 (by have := hs.len; omega)
    subst hn
    obtain ⟨A', c', rfl⟩ := own_form hown
    refine ⟨A', c', w, ?_, by simpa using hown, ⟨rfl, rfl, rfl, Nat.le_refl _, fun _ _ _ => rfl⟩⟩
    exact run_append_owned_none (P := P) (w := w) base t ty e i size ht.ht hi _ n xs hown
  | some a =>
    obtain ⟨v', w', hr, h2, h3, _⟩ := run_append_own (P := P) w base t ty e i z size bytes ht.ht hi hz hsz hby hzs ht.pos v n xs hown a m c news hs.len (hs.got a rfl) hs.one h63 hbytes hbase
    obtain ⟨A', c', rfl⟩ := own_form h2
    exact ⟨A', c', w', hr, h2, h3⟩

theorem wp_src {P : Program} {w : World} {o : Oper} {a : Act} {K : Act → World → Prop} {Q : Exit → Act → World → Prop} (s x : Operand) (t : TypeId)
    (ho : o.op = .call { callee := .builtin .append, args := #[s, x], argTypes := #[t, t] })
    {e : TypeId} {size bytes : Nat} (ht : RowT P t e size bytes) {base : Nat} (v : Value) {n : Nat} {xs : List Value} (hv : a.eval s = v) (hown : w.ownsRow base e size v n xs)
    (A : Option Addr) (m c : Nat) {news : List Value} (hx : a.eval x = .slice A m c) (hs : Feeds w A m c size news)
    (h63 : n + m ≤ maxLen) (hbytes : (n + m) * bytes ≤ 140737488355328) (hbase : base ≤ w.heap.size)
    (h : ∀ A' c' w', w'.ownsRow base e size (.slice A' (n + m) c') (n + m) (xs ++ news) → w.grownBy w' v.ownBlock → K (a.put o.dst (.slice A' (n + m) c')) w') : o.wp P a w K Q := by
  obtain ⟨A', c', w', hr, h2, h3⟩ := run_src (P := P) w (ty := o.type) ht hown hs h63 hbytes hbase
  unfold Oper.wp execOp
  simp only [ho, resolve, invoke, builtin, Sem.run_bind, Sem.run_pure, Result.andThen_ok, List.map_toArray, List.map_cons, List.map_nil, hv, hx, hr]
  exact h A' c' w' h2 h3

theorem wpList_src {P : Program} {w : World} {ops : Array Oper} {rest : List Oper} {o : Oper} {a : Act} {Q : Exit → Act → World → Prop} (hgd : o.guard = none) (s x : Operand) (t : TypeId)
    (ho : o.op = .call { callee := .builtin .append, args := #[s, x], argTypes := #[t, t] })
    {e : TypeId} {size bytes : Nat} (ht : RowT P t e size bytes) {base : Nat} (v : Value) {n : Nat} {xs : List Value} (hv : a.eval s = v) (hown : w.ownsRow base e size v n xs)
    (A : Option Addr) (m c : Nat) {news : List Value} (hx : a.eval x = .slice A m c) (hs : Feeds w A m c size news)
    (h63 : n + m ≤ maxLen) (hbytes : (n + m) * bytes ≤ 140737488355328) (hbase : base ≤ w.heap.size)
    (h : ∀ A' c' w', w'.ownsRow base e size (.slice A' (n + m) c') (n + m) (xs ++ news) → w.grownBy w' v.ownBlock → wpList P ops Q rest (a.put o.dst (.slice A' (n + m) c')) w') : wpList P ops Q (o :: rest) a w :=
  wpList_plain hgd fun _ hK => wp_src s x t ho ht v hv hown A m c hx hs h63 hbytes hbase fun A' c' w' h2 h3 => hK _ _ (h A' c' w' h2 h3)

theorem step_src {P : Program} {w : World} {ops : Array Oper} {o : Oper} {a : Act} {K : Act → World → Prop} {Q : Exit → Act → World → Prop} {E : Prop} (hgd : o.guard = none) (s x : Operand) (t : TypeId)
    (ho : o.op = .call { callee := .builtin .append, args := #[s, x], argTypes := #[t, t] })
    {e : TypeId} {size bytes : Nat} (ht : RowT P t e size bytes) {base : Nat} (v : Value) {n : Nat} {xs : List Value} (hv : a.eval s = v) (hown : w.ownsRow base e size v n xs)
    (A : Option Addr) (m c : Nat) {news : List Value} (hx : a.eval x = .slice A m c) (hs : Feeds w A m c size news)
    (h63 : n + m ≤ maxLen) (hbytes : (n + m) * bytes ≤ 140737488355328) (hbase : base ≤ w.heap.size)
    (h : ∀ A' c' w', w'.ownsRow base e size (.slice A' (n + m) c') (n + m) (xs ++ news) → w.grownBy w' v.ownBlock → K (a.put o.dst (.slice A' (n + m) c')) w') :
    if Region.wanted o (yielded ops a.tmps) = true then Oper.wp P o a w K Q else E := by
  have hw : Region.wanted o (yielded ops a.tmps) = true := by simp [Region.wanted, hgd]
  rw [if_pos hw]
  exact wp_src s x t ho ht v hv hown A m c hx hs h63 hbytes hbase h

/-- The same, onto an empty row that was just made. -/
theorem step_src0 {P : Program} {w : World} {ops : Array Oper} {o : Oper} {a : Act} {K : Act → World → Prop} {Q : Exit → Act → World → Prop} {E : Prop} (hgd : o.guard = none) (s x : Operand) (t : TypeId)
    (ho : o.op = .call { callee := .builtin .append, args := #[s, x], argTypes := #[t, t] })
    {e : TypeId} {size bytes : Nat} (ht : RowT P t e size bytes) (base : Nat) {b : Nat} (hv : a.eval s = .slice (some ⟨b, 0, none⟩) 0 0) (hown : w.ownsRow base e size (.slice (some ⟨b, 0, none⟩) 0 0) 0 [])
    (A : Option Addr) (m c : Nat) {news : List Value} (hx : a.eval x = .slice A m c) (hs : Feeds w A m c size news)
    (h63 : m ≤ maxLen) (hbytes : m * bytes ≤ 140737488355328) (hbase : base ≤ w.heap.size)
    (h : ∀ A' c' w', w'.ownsRow base e size (.slice A' m c') m news → w.grownBy w' (some b) → K (a.put o.dst (.slice A' m c')) w') :
    if Region.wanted o (yielded ops a.tmps) = true then Oper.wp P o a w K Q else E :=
  step_src hgd s x t ho ht _ hv hown A m c hx hs (by omega) (by simpa using hbytes) hbase (fun A' c' w' h1 h2 => by
    simp only [Nat.zero_add, List.nil_append] at h1 ⊢
    exact h A' c' w' h1 h2)
/-- No block of type e has turned. -/
def KeepT (e : TypeId) (w w' : World) : Prop := ∀ (g : Nat) (cs : Array Value) (fr : Nat × Nat), w.heap[g]? = some (Obj.cells cs e fr) → w'.heap[g]? = some (Obj.cells cs e fr)
theorem KeepT.refl (e : TypeId) (w : World) : KeepT e w w := fun _ _ _ h => h
theorem KeepT.trans {e : TypeId} {a b c : World} (h : KeepT e a b) (k : KeepT e b c) : KeepT e a c := fun g cs fr hg => k g cs fr (h g cs fr hg)
theorem KeepT.drew {e : TypeId} {a b : World} (h : KeepT e a b) : KeepT e a b.drew := h
theorem KeepT.drewN {e : TypeId} {a b : World} (h : KeepT e a b) (n : Nat) : KeepT e a (b.drewN n) := h
theorem KeepT.alloc {e : TypeId} {a b : World} (h : KeepT e a b) (o : Obj) : KeepT e a (b.alloc o) := fun g cs fr hg => blk_alloc (h g cs fr hg) o
theorem KeepT.below {e : TypeId} {a b c : World} (h : KeepT e a b) (hb : Below b.heap.size b c) : KeepT e a c := fun g cs fr hg => (hb.block g (blk_lt (h g cs fr hg))).trans (h g cs fr hg)
theorem KeepT.fr {e : TypeId} {a b c : World} (h : KeepT e a b) (hb : Fr (fun _ => False) b c) : KeepT e a c := fun g cs fr hg => (hb.block g (blk_lt (h g cs fr hg)) (fun h => h)).trans (h g cs fr hg)
theorem own_typ {W : World} {B : Nat} {e : TypeId} {s : Nat} {v : Value} {n : Nat} {xs : List Value} (h : W.ownsRow B e s v n xs) {g : Nat} {cs : Array Value} {t : TypeId} {fr : Nat × Nat} (hb : W.heap[g]? = some (.cells cs t fr)) (hne : e ≠ t) : some g ≠ v.ownBlock := by
  rcases h.2 with ⟨rfl, _⟩ | ⟨g', cap, cur, rfl, _, hh, _⟩
  · simp [Value.ownBlock]
  · intro hk
    simp [Value.ownBlock] at hk
    subst hk
    rw [hh] at hb
    injection hb with hb
    injection hb with _ ht
    exact hne ht
theorem KeepT.grown {e e' : TypeId} {a b c : World} (h : KeepT e a b) {B s : Nat} {v : Value} {n : Nat} {xs : List Value} (ho : b.ownsRow B e' s v n xs) (hg : b.grownBy c v.ownBlock) (hne : e' ≠ e) : KeepT e a c :=
  fun g cs fr hh => (hg.block g (blk_lt (h g cs fr hh)) (own_typ ho (h g cs fr hh) hne)).trans (h g cs fr hh)
theorem KeepT.setCell {e t : TypeId} {a b : World} (h : KeepT e a b) {p : Addr} {cs : Array Value} {fr : Nat × Nat} (hp : b.heap[p.block]? = some (.cells cs t fr)) (hne : t ≠ e) (u : Value) : KeepT e a (b.setCell p u) := fun g ds fs hg => by
  have h1 := h g ds fs hg
  refine blk_far h1 (fun he => ?_) u
  subst he
  rw [hp] at h1
  injection h1 with h1
  injection h1 with _ h2
  exact hne h2
theorem KeepT.own {e : TypeId} {w w' : World} (hk : KeepT e w w') {B s : Nat} {v : Value} {n : Nat} {xs : List Value} (h : w.ownsRow B e s v n xs) : w'.ownsRow B e s v n xs := by
  refine ⟨h.1, ?_⟩
  rcases h.2 with h0 | ⟨g, cap, cur, hv, hb, hh, rest⟩
  · exact .inl h0
  · exact .inr ⟨g, cap, cur, hv, hb, hk g cur (0, 0) hh, rest⟩

/-- What grows a row of the call's own turns nothing below the call. -/
theorem below_grown {W W' : World} {B : Nat} {e : TypeId} {s : Nat} {v : Value} {n : Nat} {xs : List Value} {w : World} (hb : Below B w W) (hg : W.grownBy W' v.ownBlock) (h : W.ownsRow B e s v n xs) (hB : B ≤ w.heap.size) : Below B w W' :=
  hb.trans ⟨hg.os, hg.tape, hg.output, hg.size, fun j hj => hg.block j (by have := hb.size; omega) (fun hk => by have := h.lt j hk.symm; omega)⟩
theorem blk_grown {W W' : World} {g : Nat} {cs : Array Value} {t : TypeId} {fr : Nat × Nat} (h : W.heap[g]? = some (.cells cs t fr)) {B : Nat} {e : TypeId} {s : Nat} {v : Value} {n : Nat} {xs : List Value} (ho : W.ownsRow B e s v n xs) (hg : W.grownBy W' v.ownBlock) (hne : e ≠ t) : W'.heap[g]? = some (.cells cs t fr) :=
  (hg.block g (blk_lt h) (own_typ ho h hne)).trans h
theorem below_alloc {a w : World} (h : Below a.heap.size a w) (o : Obj) : Below a.heap.size a (w.alloc o) := h.alloc h.size o
theorem below_step {a b c : World} (h : Below a.heap.size a b) (k : Below b.heap.size b c) : Below a.heap.size a c := h.trans (k.mono h.size)
theorem below_fr {a b c : World} (h : Below a.heap.size a b) (k : Fr (fun _ => False) b c) : Below a.heap.size a c := below_step h (k.below (fun _ h => h.elim))
theorem below_set {a w : World} (h : Below a.heap.size a w) {p : Addr} (hp : a.heap.size ≤ p.block) (u : Value) : Below a.heap.size a (w.setCell p u) := h.setCell hp u
theorem below_own {a b c : World} (h : Below a.heap.size a b) {B : Nat} {e : TypeId} {s : Nat} {v : Value} {n : Nat} {xs : List Value} (ho : b.ownsRow B e s v n xs) (hg : b.grownBy c v.ownBlock) (hB : a.heap.size ≤ B) : Below a.heap.size a c :=
  h.grown hg h.size (fun k hk => by have := ho.lt k hk; omega)
theorem below_grew {a b c : World} (h : Below a.heap.size a b) {row : Option Nat} (hg : b.grownBy c row) (hr : ∀ k, row = some k → a.heap.size ≤ k) : Below a.heap.size a c := h.grown hg h.size hr
theorem below_grown_at {a b c : World} (h : Below a.heap.size a b) {g : Nat} (hg : b.grownBy c (some g)) (hr : a.heap.size ≤ g) : Below a.heap.size a c :=
  h.grown hg h.size (fun k hk => by have hk' : g = k := Option.some.inj hk; omega)
theorem own_base {w : World} {B B' : Nat} {e : TypeId} {s : Nat} {v : Value} {n : Nat} {xs : List Value} (h : w.ownsRow B e s v n xs) (hB : B' ≤ B) : w.ownsRow B' e s v n xs := by
  refine ⟨h.1, ?_⟩
  rcases h.2 with h0 | ⟨g, cap, cur, hv, hb, rest⟩
  · exact .inl h0
  · exact .inr ⟨g, cap, cur, hv, by omega, rest⟩
/-- An empty row of the call's own. -/
theorem own_empty {w : World} {B b : Nat} {e : TypeId} {s : Nat} (h : w.heap[b]? = some (.cells #[] e (0, 0))) (hB : B ≤ b) : w.ownsRow B e s (.slice (some ⟨b, 0, none⟩) 0 0) 0 [] :=
  ⟨by simp, .inr ⟨b, 0, #[], rfl, hB, h, Nat.le_refl _, by decide, by simp, by simp⟩⟩
theorem own_empty_new {w : World} {B b : Nat} {e : TypeId} {s : Nat} (hb : w.heap.size = b) (hB : B ≤ b) : (w.alloc (.cells #[] e)).ownsRow B e s (.slice (some ⟨b, 0, none⟩) 0 0) 0 [] := by
  subst hb
  exact own_empty (blk_new w _) hB
end Go.Proofs.YtcefmhofidoloaaGreatDoor.App

/- How the program and the reference write a text, and a blob. -/
set_option linter.unusedVariables false
set_option linter.unusedSimpArgs false
namespace Go.Proofs.YtcefmhofidoloaaGreatDoor.Lex
open Go.RowKit Go.Proofs.YtcefmhofidoloaaGreatDoor.Base Go.Proofs.YtcefmhofidoloaaGreatDoor.App

theorem shaped_below {w w' : World} (h : w.ShapedOpen Tryz.prog) (hb : Below w.heap.size w w') : w'.ShapedOpen Tryz.prog := h.keptBut (hb.frame (fun _ => False)) (fun _ h => h.elim)
def litText (s : List UInt8) : List UInt8 := 39 :: (quotes s ++ [39])
def hexB (n : Nat) : UInt8 := if n < 10 then UInt8.ofNat (48 + n) else UInt8.ofNat (55 + n)
def hexs (l : List UInt8) : List UInt8 := l.flatMap fun c => [hexB (c.toNat / 16), hexB (c.toNat % 16)]
def litBlob (s : List UInt8) : List UInt8 := 88 :: 39 :: (hexs s ++ [39])

theorem count_small (s : ByteArray) : Lib.countB s ⟨#[39]⟩ ≤ s.size := by
  show Lib.count s.data.toList [39] ≤ _
  rw [Lib.count_one]
  exact List.count_le_length

set_option maxRecDepth 100000 in
set_option maxHeartbeats 1600000 in
theorem lit_text (s : ByteArray) (w : World) (hs : s.size ≤ 1048576) (hsh : w.ShapedOpen Tryz.prog) :
    Calls Tryz.prog 57 #[.agg #[.int .i64 3, .int .i64 0, .string s]] w fun e w' => e = .returned (.string ⟨(litText s.data.toList).toArray⟩) ∧ Below w.heap.size w w' := by
  have HSH := Asd.mk hsh
  have HQ := Asd.mk (replace_quotes s.data.toList)
  have HC := Asd.mk (count_small s)
  clear hsh
  go_enter Tryz.func57, Tryz.ntmps57
  go_wp2_with fail
  refine (vcheck_calls 3 (.inl rfl) s _).mono ?_
  rintro e w1 ⟨rfl, hb1⟩
  have HB0 := Asd.mk (below_alloc (Below.refl _ w) (.cells #[.int .i64 3, .int .i64 0, .string s] 56))
  have HX := Asd.mk (blk_below hb1 (blk_new w (.cells #[.int .i64 3, .int .i64 0, .string s] 56)))
  have HB1 : Asd (Below w.heap.size w w1) := Asd.mk (below_step HB0.out hb1)
  have HSH1 := Asd.mk (shaped_below HSH.out HB1.out)
  have x0 := (blk_cell HX.out 0).trans rfl
  have x1 := (blk_cell HX.out 1).trans rfl
  have x2 := (blk_cell HX.out 2).trans rfl
  clear hb1
  go_wp2_with fail
  refine (Tryz.strings_ReplaceAll_shaped s ⟨#[39]⟩ ⟨#[39, 39]⟩ _ HSH1.out (by omega) (by decide) (by have := HC.out; have e : (⟨#[39, 39]⟩ : ByteArray).size = 2 := rfl; rw [e]; omega)).mono ?_
  rintro e w2 ⟨rfl, hb2⟩
  have HB2 : Asd (Below w.heap.size w w2) := Asd.mk (below_step HB1.out hb2)
  clear hb2
  rw [show (⟨#[39]⟩ : ByteArray).data.toList = [39] from rfl, show (⟨#[39, 39]⟩ : ByteArray).data.toList = [39, 39] from rfl, HQ.out]
  have hql : (⟨(quotes s.data.toList).toArray⟩ : ByteArray).size ≤ 2097152 := by
    have h1 := quotes_len s.data.toList
    have h2 : s.data.toList.length = s.size := rfl
    have h3 : (⟨(quotes s.data.toList).toArray⟩ : ByteArray).size = (quotes s.data.toList).length := by simp [ByteArray.size]
    omega
  have HE : Asd ((⟨#[39]⟩ : ByteArray) ++ ⟨(quotes s.data.toList).toArray⟩ ++ ⟨#[39]⟩ = ⟨(litText s.data.toList).toArray⟩) := Asd.mk (by
    rw [show (⟨#[39]⟩ : ByteArray) = ⟨[39].toArray⟩ from rfl, str_cat, str_cat]
    rfl)
  generalize (⟨(quotes s.data.toList).toArray⟩ : ByteArray) = qs at hql HE ⊢
  go_wp2
  go_ret
  exact ⟨ret_eq (by rw [← HE.out]; rfl), HB2.out⟩

theorem hexs_snoc (l : List UInt8) (c : UInt8) : hexs (l ++ [c]) = hexs l ++ [hexB (c.toNat / 16), hexB (c.toNat % 16)] := by simp [hexs]
theorem take_snoc (s : ByteArray) (k : Nat) (h : k < s.size) : s.data.toList.take (k + 1) = s.data.toList.take k ++ [s[k]] := by
  rw [List.take_succ_eq_append_getElem (by simpa using h)]; rfl
def hexDigits : ByteArray := ⟨#[48, 49, 50, 51, 52, 53, 54, 55, 56, 57, 65, 66, 67, 68, 69, 70]⟩
theorem hex_at : ∀ n : Nat, (h : n < 16) → (⟨#[48, 49, 50, 51, 52, 53, 54, 55, 56, 57, 65, 66, 67, 68, 69, 70]⟩ : ByteArray)[n]'(h) = hexB n
  | 0, _ => rfl | 1, _ => rfl | 2, _ => rfl | 3, _ => rfl | 4, _ => rfl | 5, _ => rfl | 6, _ => rfl | 7, _ => rfl
  | 8, _ => rfl | 9, _ => rfl | 10, _ => rfl | 11, _ => rfl | 12, _ => rfl | 13, _ => rfl | 14, _ => rfl | 15, _ => rfl
  | n + 16, h => absurd h (by omega)
theorem hexs_len (l : List UInt8) : (hexs l).length = 2 * l.length := by
  induction l with
  | nil => rfl
  | cons c l ih =>
    simp only [hexs, List.flatMap_cons, List.length_append, List.length_cons, List.length_nil] at ih ⊢
    omega
theorem byteCells_len (l : List UInt8) : (Lib.byteCells l).length = l.length := by simp [Lib.byteCells]
theorem byteCells_snoc (l : List UInt8) (c : UInt8) : Lib.byteCells (l ++ [c]) = Lib.byteCells l ++ [.int .u8 c.toNat] := by simp [Lib.byteCells]
theorem bld_fresh (w : World) : Lib.IsBuilder 149 5 w.heap.size w.heap.size [] (w.alloc (.cells #[.pointer none, .slice none 0 0] 149)) :=
  .inl ⟨Nat.le_refl _, .slice none 0 0, blk_new _ _, World.ownsRow_nil _ _ _ _, by simp [Value.ownBlock]⟩

set_option maxRecDepth 100000 in
set_option maxHeartbeats 1600000 in
theorem lit_blob (s : ByteArray) (w : World) (hs : s.size ≤ 1048576) :
    Calls Tryz.prog 57 #[.agg #[.int .i64 4, .int .i64 0, .string s]] w fun e w' => e = .returned (.string ⟨(litBlob s.data.toList).toArray⟩) ∧ Below w.heap.size w w' := by
  go_enter Tryz.func57, Tryz.ntmps57
  go_wp2_with fail
  refine (vcheck_calls 4 (.inr rfl) s _).mono ?_
  rintro e w1 ⟨rfl, hb1⟩
  have HB0 := Asd.mk (below_alloc (Below.refl _ w) (.cells #[.int .i64 4, .int .i64 0, .string s] 56))
  have HX := Asd.mk (blk_below hb1 (blk_new w (.cells #[.int .i64 4, .int .i64 0, .string s] 56)))
  have HB1 : Asd (Below w.heap.size w w1) := Asd.mk (below_step HB0.out hb1)
  have x0 := (blk_cell HX.out 0).trans rfl
  have HBF := Asd.mk (bld_fresh w1)
  have HB2 : Asd (Below w.heap.size w (w1.alloc (.cells #[.pointer none, .slice none 0 0] 149))) := Asd.mk (below_alloc HB1.out _)
  have HX2 := Asd.mk (blk_alloc HX.out (.cells #[.pointer none, .slice none 0 0] 149))
  have HL2 : Asd (w1.heap.size ≤ (w1.alloc (.cells #[.pointer none, .slice none 0 0] 149)).heap.size) := Asd.mk (by simp)
  clear hb1
  go_upto_region 14 with fail
  generalize w1.alloc (.cells #[.pointer none, .slice none 0 0] 149) = w2 at HBF HB2 HX2 HL2 ⊢
  generalize hb : w1.heap.size = b at HBF HL2 ⊢
  have HBW : Asd (w.heap.size < b) := Asd.mk (by have := blk_lt HX.out; omega)
  clear x0 hb
  go_wp2_with fail
  refine (Tryz.Builder_WriteString b b [] ⟨#[88, 39]⟩ w2 HBF.out (by decide) HL2.out).mono ?_
  rintro e w3 ⟨rfl, hbd, hb3⟩
  have HBD3 := Asd.mk hbd
  have HB3 := Asd.mk hb3
  have x2 := (blk_cell ((hb3.block w.heap.size (by have := HBW.out; omega)).trans HX2.out) 2).trans rfl
  clear hbd hb3
  go_wp2
  go_loopw [34] (fun i wr => ∃ k : Nat, k ≤ s.size ∧ i = .int .i64 (k : Int) ∧ Asd (Lib.BuilderAt 149 5 b b (.pointer (some ⟨b, 0, none⟩)) (Lib.byteCells (88 :: 39 :: hexs (s.data.toList.take k))) wr) ∧ Asd (Below b w2 wr)) (fun i _ => s.size - (intOf i).toNat)
  case atStart => exact ⟨0, by omega, rfl, ⟨HBD3.out⟩, ⟨HB3.out⟩⟩
  case round =>
    obtain ⟨k, hk, rfl, HBD, HBR⟩ := hrel
    have x2 := (blk_cell ((HBR.out.block w.heap.size (by have := HBW.out; omega)).trans HX2.out) 2).trans rfl
    by_cases hlt : k < s.size
    · have hc := s[k].toNat_lt
      generalize hck : s[k] = c at hc
      go_wp2_with fail
      have HLK := Asd.mk (hexs_len (s.data.toList.take k))
      have htk : (s.data.toList.take k).length ≤ k := by rw [List.length_take]; omega
      refine (Tryz.Builder_WriteByte b b _ _ wr (.inr HBD.out) (by rw [byteCells_len]; simp only [List.length_cons]; have := HLK.out; omega) (by have := HL2.out; have := HBR.out.size; omega)).mono ?_
      rintro e w4 ⟨rfl, hbd, hb4⟩
      have HBD4 := Asd.mk hbd
      have HB4 : Asd (Below b w2 w4) := Asd.mk (HBR.out.trans hb4)
      rw [hex_at _ (by omega)] at HBD4
      clear hbd hb4
      go_wp2_with fail
      refine (Tryz.Builder_WriteByte b b _ _ w4 (.inr HBD4.out) (by rw [List.length_append, byteCells_len]; simp only [List.length_cons, List.length_nil]; have := HLK.out; omega) (by have := HL2.out; have := HB4.out.size; omega)).mono ?_
      rintro e w5 ⟨rfl, hbd, hb5⟩
      have HB5 : Asd (Below b w2 w5) := Asd.mk (HB4.out.trans hb5)
      rw [hex_at _ (by omega)] at hbd
      have HBD5 : Asd (Lib.BuilderAt 149 5 b b (.pointer (some ⟨b, 0, none⟩)) (Lib.byteCells (88 :: 39 :: hexs (s.data.toList.take (k + 1)))) w5) := Asd.mk (by
        rw [take_snoc s k hlt, hexs_snoc, hck]
        rw [show ((88 : UInt8) :: 39 :: (hexs (s.data.toList.take k) ++ [hexB (c.toNat / 16), hexB (c.toNat % 16)])) = (88 :: 39 :: hexs (s.data.toList.take k)) ++ [hexB (c.toNat / 16)] ++ [hexB (c.toNat % 16)] by simp, byteCells_snoc, byteCells_snoc]
        exact hbd)
      clear hbd hb5 htk hck
      go_wp2
      go_roundw
      case rel => exact ⟨k + 1, by omega, by go_num, HBD5, HB5⟩
      case measure => simp [intOf]; omega
    · obtain rfl : k = s.size := by omega
      have HLK := Asd.mk (hexs_len (s.data.toList.take s.size))
      have htk : (s.data.toList.take s.size).length ≤ s.size := by rw [List.length_take]; omega
      clear hlt
      go_wp2_with fail
      refine (Tryz.Builder_WriteByte b b _ _ wr (.inr HBD.out) (by rw [byteCells_len]; simp only [List.length_cons]; have := HLK.out; omega) (by have := HL2.out; have := HBR.out.size; omega)).mono ?_
      rintro e w4 ⟨rfl, hbd, hb4⟩
      have HB4 : Asd (Below b w2 w4) := Asd.mk (HBR.out.trans hb4)
      have HBD4 : Asd (Lib.BuilderAt 149 5 b b (.pointer (some ⟨b, 0, none⟩)) (Lib.byteCells (litBlob s.data.toList)) w4) := Asd.mk (by
        rw [show litBlob s.data.toList = (88 :: 39 :: hexs (s.data.toList.take s.size)) ++ [39] by rw [List.take_of_length_le (Nat.le_of_eq (show s.data.toList.length = s.size from rfl))]; simp [litBlob], byteCells_snoc]
        exact hbd)
      clear hbd hb4 htk HLK
      go_wp2_with fail
      refine (Tryz.Builder_String_any b b _ w4 (.inr HBD4.out) (by have := HL2.out; have := HB4.out.size; omega)).mono ?_
      rintro e w5 ⟨rfl, hb5⟩
      have HBE : Asd (Below w.heap.size w w5) := Asd.mk (HB2.out.trans ((HB4.out.trans hb5).mono (by have := HBW.out; omega)))
      clear hb5
      go_wp2
      go_ret
      exact ⟨rfl, HBE.out⟩
end Go.Proofs.YtcefmhofidoloaaGreatDoor.Lex

/- Slices of bytes: how they read, what they are as a text, what a row of the call's own holds. Any program. -/
set_option linter.unusedVariables false
namespace Go.Proofs.YtcefmhofidoloaaGreatDoor.Byt
open Go.RowKit Go.Proofs.YtcefmhofidoloaaGreatDoor.Base

def bcell (b : UInt8) : Value := .int .u8 (b.toNat : Int)
def bcells (xs : List UInt8) : List Value := xs.map bcell

/-- The slice at A, n long, reads as the bytes xs. -/
def IsBytes (w : World) (A : Option Addr) (n : Nat) (xs : List UInt8) : Prop :=
  xs.length = n ∧ n ≤ 140737488351232 ∧ (0 < n → ∃ b o, A = some ⟨b, o, none⟩ ∧ ∀ j, j < n → w.cell? ⟨b, o + j, none⟩ = some (bcell (xs.getD j 0)))

theorem IsBytes.drewN {w : World} {A : Option Addr} {n : Nat} {xs : List UInt8} (h : IsBytes w A n xs) (m : Nat) : IsBytes (w.drewN m) A n xs := h
theorem IsBytes.below {w w' : World} {A : Option Addr} {n : Nat} {xs : List UInt8} (h : IsBytes w A n xs) (hb : Below w.heap.size w w') : IsBytes w' A n xs := by
  refine ⟨h.1, h.2.1, fun hn => ?_⟩
  obtain ⟨b, o, rfl, hc⟩ := h.2.2 hn
  exact ⟨b, o, rfl, fun j hj => (hb.cell (World.block_lt_of_cell? w _ (hc j hj))).trans (hc j hj)⟩
theorem IsBytes.fr {w w' : World} {S : Nat → Prop} {A : Option Addr} {n : Nat} {xs : List UInt8} (h : IsBytes w A n xs) (hf : Fr S w w') (hs : ∀ a, A = some a → 0 < n → ¬ S a.block) : IsBytes w' A n xs := by
  refine ⟨h.1, h.2.1, fun hn => ?_⟩
  obtain ⟨b, o, rfl, hc⟩ := h.2.2 hn
  refine ⟨b, o, rfl, fun j hj => ?_⟩
  rw [← hc j hj]
  exact World.cell?_of_block (w := w) (a := ⟨b, o + j, none⟩) (hf.block b (World.block_lt_of_cell? w _ (hc j hj)) (hs _ rfl hn))

theorem addr_add (b o n : Nat) : ((⟨b, o, none⟩ : Addr).add n) = ⟨b, o + n, none⟩ := by unfold Addr.add; split <;> simp_all

theorem fold_push (xs : List UInt8) : ∀ s : ByteArray, (xs.map fun b => ((b.toNat : Nat) : Int)).foldl (fun (r : ByteArray) (n : Int) => r.push (UInt8.ofNat n.toNat)) s = ⟨s.data ++ xs.toArray⟩ := by
  induction xs with
  | nil => intro s; obtain ⟨d⟩ := s; simp
  | cons b xs ih =>
    intro s
    simp only [List.map_cons, List.foldl_cons]
    rw [ih]
    obtain ⟨d⟩ := s
    simp [ByteArray.push]

/-- 'string(b)'. -/
theorem run_string {P : Program} {w : World} (src dst e : TypeId) (hs : P.underlying src = some (.slice e)) (he : P.underlying e = some (.int .u8)) (hd : P.underlying dst = some .string) {A : Option Addr} {n : Nat} (c : Nat) {xs : List UInt8} (h : IsBytes w A n xs) :
    (convert src dst (.slice A n c)).run P w = .ok (.string ⟨xs.toArray⟩) w := by
  rw [run_convert_bytes_string w src dst e A n c hs he hd]
  cases A with
  | none =>
    have h0 : n = 0 := by
      rcases Nat.eq_zero_or_pos n with h0 | h0
      · exact h0
      · obtain ⟨_, _, h1, _⟩ := h.2.2 h0; cases h1
    have hx : xs = [] := List.length_eq_zero_iff.1 (h.1.trans h0)
    subst hx
    rfl
  | some a =>
    have hl : (loadCells a n).run P w = .ok ((xs.map fun b => ((b.toNat : Nat) : Int)).map (Value.int .u8)).toArray w := by
      rw [run_loadCells w a n (fun j => bcell (xs.getD j 0)) (fun j hj => by
        obtain ⟨b, o, h1, hc⟩ := h.2.2 (by omega)
        cases h1
        rw [addr_add]
        exact hc j hj)]
      congr 2
      apply List.ext_getElem?
      intro j
      have := h.1
      by_cases hj : j < n
      · simp [hj, List.getD, show j < xs.length by omega, bcell]
      · rw [List.getElem?_eq_none (by simp; omega), List.getElem?_eq_none (by simp; omega)]
    rw [run_bytesToString w a n c _ hl, fold_push]
    have e : ByteArray.empty.data ++ xs.toArray = xs.toArray := by show (#[] : Array UInt8) ++ xs.toArray = _; simp
    rw [e]

/-- A new block of bytes. -/
theorem IsBytes.new (w : World) (xs : List UInt8) (t : TypeId) (h : xs.length ≤ 140737488351232) : IsBytes (w.alloc (.cells (bcells xs).toArray t)) (some ⟨w.heap.size, 0, none⟩) xs.length xs := by
  refine ⟨rfl, h, fun _ => ⟨_, _, rfl, fun j hj => ?_⟩⟩
  rw [blk_cell (blk_new w _)]
  simp [bcells, List.getD, hj]

/-- What a row of the call's own reads as. -/
theorem of_own {w : World} {B : Nat} {t : TypeId} {v : Value} {n : Nat} {xs : List UInt8} (h : w.ownsRow B t 1 v n (bcells xs)) (hn : n ≤ 140737488351232) :
    ∃ A c, v = .slice A n c ∧ IsBytes w A n xs ∧ ∀ a, A = some a → B ≤ a.block ∧ a.block < w.heap.size := by
  have hl : xs.length = n := by have := h.1; simpa [bcells] using this
  rcases h with ⟨_, ⟨rfl, h0⟩ | ⟨g, cap, cur, rfl, hb, hh, hcap, _, hsz, ht⟩⟩
  · exact ⟨none, 0, by rw [h0], ⟨hl, hn, fun hp => by omega⟩, by simp⟩
  · refine ⟨_, cap, rfl, ⟨hl, hn, fun hp => ⟨g, 0, rfl, fun j hj => ?_⟩⟩, fun a ha => by cases ha; exact ⟨hb, blk_lt hh⟩⟩
    rw [Nat.zero_add, blk_cell hh]
    have : (cur.toList.take (n * 1))[j]? = (bcells xs)[j]? := by rw [ht]
    rw [List.getElem?_take, if_pos (by omega), Array.getElem?_toList] at this
    rw [this]
    simp [bcells, List.getD, show j < xs.length by omega]
end Go.Proofs.YtcefmhofidoloaaGreatDoor.Byt

/- letter, digit, run, lowered. -/
set_option linter.unusedVariables false
set_option linter.unusedSimpArgs false
namespace Go.Proofs.YtcefmhofidoloaaGreatDoor.Lex
open Go.RowKit Go.Proofs.YtcefmhofidoloaaGreatDoor.Base Go.Proofs.YtcefmhofidoloaaGreatDoor.App Go.Proofs.YtcefmhofidoloaaGreatDoor.Byt

theorem letN_t {n : Nat} (h : (97 ≤ n ∧ n ≤ 122) ∨ (65 ≤ n ∧ n ≤ 90) ∨ n = 95) : letN n = true := by simp [letN]; omega
theorem letN_f {n : Nat} (h : ¬ ((97 ≤ n ∧ n ≤ 122) ∨ (65 ≤ n ∧ n ≤ 90) ∨ n = 95)) : letN n = false := by simp [letN]; omega
set_option maxRecDepth 100000 in
theorem letter_calls (n : Nat) (hn : n < 256) (w : World) : Calls Tryz.prog 107 #[.int .u8 (n : Int)] w fun e w' => e = .returned (.bool (letN n)) ∧ w' = w := by
  rcases (show n < 65 ∨ (65 ≤ n ∧ n ≤ 90) ∨ (90 < n ∧ n < 95) ∨ n = 95 ∨ n = 96 ∨ (97 ≤ n ∧ n ≤ 122) ∨ 122 < n by omega) with h | h | h | rfl | rfl | h | h
  · have HR := Asd.mk (letN_f (n := n) (by omega))
    go_enter Tryz.func107, Tryz.ntmps107
    go_wp2
    go_ret
    exact ⟨ret_eq (by rw [HR.out]; first | rfl | (simp; done) | (simp; omega)), rfl⟩
  · have HR := Asd.mk (letN_t (n := n) (by omega))
    go_enter Tryz.func107, Tryz.ntmps107
    go_wp2
    go_ret
    exact ⟨ret_eq (by rw [HR.out]; first | rfl | (simp; done) | (simp; omega)), rfl⟩
  · have HR := Asd.mk (letN_f (n := n) (by omega))
    go_enter Tryz.func107, Tryz.ntmps107
    go_wp2
    go_ret
    exact ⟨ret_eq (by rw [HR.out]; first | rfl | (simp; done) | (simp; omega)), rfl⟩
  · go_enter Tryz.func107, Tryz.ntmps107
    go_wp2
    go_ret
    exact ⟨ret_eq rfl, rfl⟩
  · go_enter Tryz.func107, Tryz.ntmps107
    go_wp2
    go_ret
    exact ⟨ret_eq rfl, rfl⟩
  · have HR := Asd.mk (letN_t (n := n) (by omega))
    go_enter Tryz.func107, Tryz.ntmps107
    go_wp2
    go_ret
    exact ⟨ret_eq (by rw [HR.out]; first | rfl | (simp; done) | (simp; omega)), rfl⟩
  · have HR := Asd.mk (letN_f (n := n) (by omega))
    go_enter Tryz.func107, Tryz.ntmps107
    go_wp2
    go_ret
    exact ⟨ret_eq (by rw [HR.out]; first | rfl | (simp; done) | (simp; omega)), rfl⟩
theorem digit_calls (n : Nat) (hn : n < 256) (w : World) : Calls Tryz.prog 110 #[.int .u8 (n : Int)] w fun e w' => e = .returned (.bool (digN n)) ∧ w' = w := by
  rcases (show n < 48 ∨ (48 ≤ n ∧ n ≤ 57) ∨ 57 < n by omega) with h | h | h
  · have HR : Asd (digN n = false) := Asd.mk (by simp [digN]; omega)
    go_enter Tryz.func110, Tryz.ntmps110
    go_wp2
    go_ret
    exact ⟨ret_eq (by rw [HR.out]; first | rfl | (simp; done) | (simp; omega)), rfl⟩
  · have HR : Asd (digN n = true) := Asd.mk (by simp [digN]; omega)
    go_enter Tryz.func110, Tryz.ntmps110
    go_wp2
    go_ret
    exact ⟨ret_eq (by rw [HR.out]; first | rfl | (simp; done) | (simp; omega)), rfl⟩
  · have HR : Asd (digN n = false) := Asd.mk (by simp [digN]; omega)
    go_enter Tryz.func110, Tryz.ntmps110
    go_wp2
    go_ret
    exact ⟨ret_eq (by rw [HR.out]; first | rfl | (simp; done) | (simp; omega)), rfl⟩
theorem word_calls (n : Nat) (hn : n < 256) (w : World) : Calls Tryz.prog 109 #[.int .u8 (n : Int)] w fun e w' => e = .returned (.bool (letN n || digN n)) ∧ w' = w := by
  go_enter Tryz.func109, Tryz.ntmps109
  go_wp2_with fail
  refine (letter_calls n hn _).mono ?_
  rintro e w' ⟨rfl, rfl⟩
  cases hp : letN n with
  | true =>
    have HP := Asd.mk hp
    clear hp
    go_wp2
    go_ret
    exact ⟨ret_eq (by rw [HP.out]; rfl), rfl⟩
  | false =>
    go_wp2_with fail
    refine (digit_calls n hn _).mono ?_
    rintro e w' ⟨rfl, rfl⟩
    have HP := Asd.mk hp
    clear hp
    go_wp2
    go_ret
    exact ⟨ret_eq (by rw [HP.out]; rfl), rfl⟩
theorem drop_cons (s : ByteArray) (k : Nat) (h : k < s.size) : s.data.toList.drop k = s[k] :: s.data.toList.drop (k + 1) := by
  rw [List.drop_eq_getElem_cons (by simpa using h)]; rfl
end Go.Proofs.YtcefmhofidoloaaGreatDoor.Lex

/- errors.As at *api.Fault (turned from the kit's worked example ToyasAs). -/
set_option linter.unusedVariables false
set_option linter.unusedSimpArgs false
namespace Go.Proofs.YtcefmhofidoloaaGreatDoor.Lex
open Go.RowKit Go.Extern.Stop Go.Stop Go.Extern Go.Proofs.YtcefmhofidoloaaGreatDoor.Base

/-- errors.As(nil, target). -/
theorem as_nil (t : Value) (w : World) :
    Calls Tryz.prog 54 #[.nilIface, t] w fun e w' => e = .returned (.bool false) ∧ w' = w := by
  go_enter Tryz.func54, Tryz.ntmps54
  go_wp2
  go_ret
  exact ⟨rfl, rfl⟩

/-! ### CLOSED FACTS ON THE MODEL's ENTRIES FOR internal/reflectlite, at this program's types: 25: *p.E · 27: **p.E · 23: error · 45: reflectlite's rtype · 1: how many package-level variables the dump has -/
theorem tas_valueOf27 (t : Addr) (w : World) : (ReflectliteValue.unpack (.iface 103 (.pointer (some t)))).run Tryz.prog w
    = .ok (.agg #[.pointer (some ⟨9, 103, none⟩), .pointer (some ⟨w.heap.size, 0, none⟩), .int .u64 150]) (w.alloc (.cells #[.pointer (some t)] 103)) := by kernel_rfl
theorem tas_type27 (a : Addr) (w : World) : (ReflectliteValue.methodAny (ReflectliteValue.valueError "reflectlite.Value.Type" 0) (fun t _ _ _ => ReflectliteType.toType t) #[.agg #[.pointer (some ⟨9, 103, none⟩), .pointer (some a), .int .u64 150]]).run Tryz.prog w
    = .ok (.iface 211 (.agg #[.pointer (some ⟨9, 103, none⟩)])) w := by kernel_rfl
theorem tas_methodKind (h : Value) (w : World) : (Go.method 425 211 (.agg #[h]) "Kind").run Tryz.prog w = .ok (302, h) w := by kernel_rfl
theorem tas_kind27 (w : World) : ((ReflectliteType.abiMethod fun t => (fun a : Nat => Value.int IntKind.u8 (a : Int)) <$> Rtype.kind t) #[.pointer (some ⟨9, 103, none⟩)]).run Tryz.prog w = .ok (.int .u8 22) w := by kernel_rfl
theorem tas_kind25 (w : World) : ((ReflectliteType.abiMethod fun t => (fun a : Nat => Value.int IntKind.u8 (a : Int)) <$> Rtype.kind t) #[.pointer (some ⟨9, 93, none⟩)]).run Tryz.prog w = .ok (.int .u8 22) w := by kernel_rfl

/-! ### THE ENTRIES THAT READ OR WRITE MEMORY: laws with a premise on the cell (after Derived/Lib/ReflectliteSlice.lean's manner: each unfolding a lemma of its own, by rfl) -/
theorem rlm (z : Sem Value) (f : TypeId → Addr → Nat → Nat → Sem Value) (v : Value) :
    ReflectliteValue.method z f #[v] = (do match ← ReflectliteValue.parts v with | none => z | some (t, a, fl) => f t a fl (fl % 32)) := rfl
theorem tas_parts27 (a : Addr) (w : World) : (ReflectliteValue.parts (.agg #[.pointer (some ⟨9, 103, none⟩), .pointer (some a), .int .u64 150])).run Tryz.prog w = .ok (some (103, a, 150)) w := by kernel_rfl
/-- (Value).IsNil at the Value of a **p.E that is not nil. -/
theorem tas_isNil27 (a p : Addr) (W : World) (ha : W.cell? a = some (.pointer (some p))) :
    (ReflectliteValue.method (ReflectliteValue.valueError "reflectlite.Value.IsNil" 0) ReflectliteValue.isNil #[.agg #[.pointer (some ⟨9, 103, none⟩), .pointer (some a), .int .u64 150]]).run Tryz.prog W = .ok (.bool false) W := by
  rw [rlm]
  simp only [Sem.run_bind, tas_parts27, Result.andThen]
  simp [ReflectliteValue.isNil, loadVar, isAgg, underlying, Tryz.underlying103, ha, Result.andThen]

theorem tas_methodElem (h : Value) (w : World) : (Go.method 425 211 (.agg #[h]) "Elem").run Tryz.prog w = .ok (315, .agg #[h]) w := by kernel_rfl
theorem tas_methodImplements (h : Value) (w : World) : (Go.method 425 211 (.agg #[h]) "Implements").run Tryz.prog w = .ok (316, .agg #[h]) w := by kernel_rfl
theorem tas_methodAssignableTo (h : Value) (w : World) : (Go.method 425 211 (.agg #[h]) "AssignableTo").run Tryz.prog w = .ok (313, .agg #[h]) w := by kernel_rfl
theorem tas_elem27 (w : World) : (ReflectliteType.method ReflectliteType.elem #[.agg #[.pointer (some ⟨9, 103, none⟩)]]).run Tryz.prog w = .ok (.iface 211 (.agg #[.pointer (some ⟨9, 93, none⟩)])) w := by kernel_rfl
theorem tas_implements25 (w : World) : (ReflectliteType.relation "Implements" ReflectliteType.implements_ #[.agg #[.pointer (some ⟨9, 93, none⟩)], .iface 211 (.agg #[.pointer (some ⟨9, 42, none⟩)])]).run Tryz.prog w = .ok (.bool true) w := by kernel_rfl
theorem tas_typeOf25 (v : Value) (w : World) : (ReflectliteType.typeOf #[.iface 93 v]).run Tryz.prog w = .ok (.iface 211 (.agg #[.pointer (some ⟨9, 93, none⟩)])) w := by kernel_rfl
theorem tas_assignable25 (w : World) : (ReflectliteType.relation "AssignableTo" ReflectliteType.assignableTo #[.agg #[.pointer (some ⟨9, 93, none⟩)], .iface 211 (.agg #[.pointer (some ⟨9, 93, none⟩)])]).run Tryz.prog w = .ok (.bool true) w := by kernel_rfl
theorem tas_valueOf25 (e : Addr) (w : World) : (ReflectliteValue.unpack (.iface 93 (.pointer (some e)))).run Tryz.prog w
    = .ok (.agg #[.pointer (some ⟨9, 93, none⟩), .pointer (some ⟨w.heap.size, 0, none⟩), .int .u64 150]) (w.alloc (.cells #[.pointer (some e)] 93)) := by kernel_rfl

theorem tas_elemOf27 (w : World) : (Rtype.elem? 103).run Tryz.prog w = .ok (some 93) w := by kernel_rfl
theorem tas_mk25 (p : Addr) (w : World) : (ReflectliteValue.mk 93 p ReflectliteValue.flagAddr).run Tryz.prog w = .ok (.agg #[.pointer (some ⟨9, 93, none⟩), .pointer (some p), .int .u64 406]) w := by kernel_rfl
/-- (Value).Elem at the Value of a **p.E that is not nil: the Value of the *p.E variable that it points to, addressable. -/
theorem tas_elemV27 (a p : Addr) (W : World) (ha : W.cell? a = some (.pointer (some p))) :
    (ReflectliteValue.method (ReflectliteValue.valueError "reflectlite.Value.Elem" 0) ReflectliteValue.elem #[.agg #[.pointer (some ⟨9, 103, none⟩), .pointer (some a), .int .u64 150]]).run Tryz.prog W
      = .ok (.agg #[.pointer (some ⟨9, 93, none⟩), .pointer (some p), .int .u64 406]) W := by
  rw [rlm]
  simp only [Sem.run_bind, tas_parts27, Result.andThen]
  simp [ReflectliteValue.elem, loadVar, isAgg, underlying, Tryz.underlying103, ha, Result.andThen, tas_elemOf27, tas_mk25]
theorem rls (v x : Value) : ReflectliteValue.set #[v, x] = (do
    let (some (dst, a, fl), some (src, b, _)) := (← ReflectliteValue.parts v, ← ReflectliteValue.parts x)
      | unsupported (.noEntry "extern/(internal/reflectlite.Value).Set.zeroValue")
    if fl / ReflectliteValue.flagAddr % 2 == 0 then unsupported (.noEntry "extern/(internal/reflectlite.Value).Set.unaddressable")
    let val ← loadVar src b
    if ← Rtype.directlyAssignable dst src then storeVar dst a val
    else if ← Rtype.implements dst src then
      if (← Rtype.kind src) == 20 then
        match val with
        | .nilIface => unsupported (.noEntry "extern/reflectlite: a nil value of one interface type handed on as a value of another")
        | _ => storeVar dst a val
      else storeVar dst a (.iface src val)
    else panicString ("reflectlite.Set: value of type " ++ (← Rtype.spelt src) ++ " is not assignable to type " ++ (← Rtype.spelt dst))
    pure (.tuple #[])) := rfl
theorem tas_parts25a (a : Addr) (w : World) : (ReflectliteValue.parts (.agg #[.pointer (some ⟨9, 93, none⟩), .pointer (some a), .int .u64 406])).run Tryz.prog w = .ok (some (93, a, 406)) w := by kernel_rfl
theorem tas_parts25 (a : Addr) (w : World) : (ReflectliteValue.parts (.agg #[.pointer (some ⟨9, 93, none⟩), .pointer (some a), .int .u64 150])).run Tryz.prog w = .ok (some (93, a, 150)) w := by kernel_rfl
theorem tas_direct25 (w : World) : (Rtype.directlyAssignable 93 93).run Tryz.prog w = .ok true w := by kernel_rfl
theorem tas_size25 (w : World) : (sizeOf 93).run Tryz.prog w = .ok 1 w := by kernel_rfl
/-- (Value).Set: the *p.E variable at 'ta' gets what the Value's own variable 'b' holds. -/
theorem tas_set25 (ta b e : Addr) (old : Value) (W : World) (hb : W.cell? b = some (.pointer (some e))) (ht : W.cell? ta = some old) (hf : W.frozen? ta = false) :
    (ReflectliteValue.set #[.agg #[.pointer (some ⟨9, 93, none⟩), .pointer (some ta), .int .u64 406], .agg #[.pointer (some ⟨9, 93, none⟩), .pointer (some b), .int .u64 150]]).run Tryz.prog W
      = .ok (.tuple #[]) (W.setCell ta (.pointer (some e))) := by
  rw [rls]
  simp only [Sem.run_bind, tas_parts25a, tas_parts25, Result.andThen]
  simp [ReflectliteValue.flagAddr, loadVar, isAgg, underlying, Tryz.underlying93, hb, Result.andThen, tas_direct25, storeVar, Value.cells, storeCells, Addr.add]
  rw [run_store Tryz.prog W ta _ _ (by rfl)]
  simp [ht, hf]

set_option maxRecDepth 100000 in
set_option maxHeartbeats 4000000 in
theorem as_hit (e t : Addr) (old : Value) (w : World) (hg : w.cell? ⟨0, 0, none⟩ = some (.iface 211 (.agg #[.pointer (some ⟨9, 42, none⟩)]))) (ht0 : w.cell? t = some old) (hf0 : w.frozen? t = false) :
    Calls Tryz.prog 54 #[.iface 93 (.pointer (some e)), .iface 103 (.pointer (some t))] w fun ev w' => ev = .returned (.bool true) ∧ w' = ((((w.alloc (.cells #[.pointer (some t)] 103)).alloc (.cells #[.pointer (some ⟨9, 103, none⟩), .pointer (some ⟨w.heap.size, 0, none⟩), .int .u64 150] 170)).alloc (.cells #[.pointer (some ⟨9, 103, none⟩), .pointer (some ⟨w.heap.size, 0, none⟩), .int .u64 150] 170)).alloc (.cells #[.pointer (some e)] 93)).setCell t (.pointer (some e)) := by
  have h6 := @run_callFunc_extern Tryz.prog 122 _ (fun args => ReflectliteValue.unpack (args.getD 0 (.tuple #[]))) Tryz.func122 (by kernel_rfl) (by kernel_rfl) (by kernel_rfl) (by kernel_rfl)
  have h7 := @run_callFunc_extern Tryz.prog 123 _ (ReflectliteValue.methodAny (ReflectliteValue.valueError "reflectlite.Value.Type" 0) (fun t _ _ _ => ReflectliteType.toType t)) Tryz.func123 (by kernel_rfl) (by kernel_rfl) (by kernel_rfl) (by kernel_rfl)
  have h8 := @run_callFunc_extern Tryz.prog 124 _ (ReflectliteValue.method (ReflectliteValue.valueError "reflectlite.Value.IsNil" 0) ReflectliteValue.isNil) Tryz.func124 (by kernel_rfl) (by kernel_rfl) (by kernel_rfl) (by kernel_rfl)
  have h27 := @run_callFunc_extern Tryz.prog 302 _ (ReflectliteType.abiMethod fun t => do pure (.int .u8 (← Rtype.kind t))) Tryz.func302 (by kernel_rfl) (by kernel_rfl) (by kernel_rfl) (by kernel_rfl)
  have h37 := @run_callFunc_extern Tryz.prog 315 _ (ReflectliteType.method ReflectliteType.elem) Tryz.func315 (by kernel_rfl) (by kernel_rfl) (by kernel_rfl) (by kernel_rfl)
  have h38 := @run_callFunc_extern Tryz.prog 316 _ (ReflectliteType.relation "Implements" ReflectliteType.implements_) Tryz.func316 (by kernel_rfl) (by kernel_rfl) (by kernel_rfl) (by kernel_rfl)
  have h10 := @run_callFunc_extern Tryz.prog 178 _ ReflectliteType.typeOf Tryz.func178 (by kernel_rfl) (by kernel_rfl) (by kernel_rfl) (by kernel_rfl)
  have h35 := @run_callFunc_extern Tryz.prog 313 _ (ReflectliteType.relation "AssignableTo" ReflectliteType.assignableTo) Tryz.func313 (by kernel_rfl) (by kernel_rfl) (by kernel_rfl) (by kernel_rfl)
  have h11 := @run_callFunc_extern Tryz.prog 179 _ (ReflectliteValue.method (ReflectliteValue.valueError "reflectlite.Value.Elem" 0) ReflectliteValue.elem) Tryz.func179 (by kernel_rfl) (by kernel_rfl) (by kernel_rfl) (by kernel_rfl)
  have h12 := @run_callFunc_extern Tryz.prog 180 _ ReflectliteValue.set Tryz.func180 (by kernel_rfl) (by kernel_rfl) (by kernel_rfl) (by kernel_rfl)
  have tO := tas_typeOf25
  have mA := tas_methodAssignableTo
  have a25 := tas_assignable25
  have v25 := tas_valueOf25
  have f6 := tas_valueOf27
  have f7 := tas_type27
  have mK := tas_methodKind
  have mE := tas_methodElem
  have mI := tas_methodImplements
  have k27 := tas_kind27
  have k25 := tas_kind25
  have e27 := tas_elem27
  have i25 := tas_implements25
  have n8 := tas_isNil27 ⟨w.heap.size, 0, none⟩ t ((w.alloc (.cells #[.pointer (some t)] 103)).alloc (.cells #[.pointer (some ⟨9, 103, none⟩), .pointer (some ⟨w.heap.size, 0, none⟩), .int .u64 150] 170)) (by simp)
  have hlt : 0 < w.heap.size := by
    rcases Nat.eq_zero_or_pos w.heap.size with h0 | h
    · simp [World.cell?, h0] at hg
    · exact h
  have hg2 : ((w.alloc (.cells #[.pointer (some t)] 103)).alloc (.cells #[.pointer (some ⟨9, 103, none⟩), .pointer (some ⟨w.heap.size, 0, none⟩), .int .u64 150] 170)).cell? ⟨0, 0, none⟩ = some (.iface 211 (.agg #[.pointer (some ⟨9, 42, none⟩)])) := by
    rw [World.cell?_alloc_lt _ _ ⟨0, 0, none⟩ (by simp), World.cell?_alloc_lt _ _ ⟨0, 0, none⟩ hlt]; exact hg
  have htl : t.block < w.heap.size := by
    rcases Nat.lt_or_ge t.block w.heap.size with h | h
    · exact h
    · simp [World.cell?, Array.getElem?_eq_none h] at ht0
  have el := tas_elemV27 ⟨w.heap.size, 0, none⟩ t (((w.alloc (.cells #[.pointer (some t)] 103)).alloc (.cells #[.pointer (some ⟨9, 103, none⟩), .pointer (some ⟨w.heap.size, 0, none⟩), .int .u64 150] 170)).alloc (.cells #[.pointer (some ⟨9, 103, none⟩), .pointer (some ⟨w.heap.size, 0, none⟩), .int .u64 150] 170)) (by rw [World.cell?_alloc_lt _ _ ⟨w.heap.size, 0, none⟩ (by simp; omega)]; simp)
  have st := tas_set25 t ⟨w.heap.size + 1 + 1 + 1, 0, none⟩ e old ((((w.alloc (.cells #[.pointer (some t)] 103)).alloc (.cells #[.pointer (some ⟨9, 103, none⟩), .pointer (some ⟨w.heap.size, 0, none⟩), .int .u64 150] 170)).alloc (.cells #[.pointer (some ⟨9, 103, none⟩), .pointer (some ⟨w.heap.size, 0, none⟩), .int .u64 150] 170)).alloc (.cells #[.pointer (some e)] 93))
    (by rw [World.cell?_alloc_at _ _ _ _ (by simp)]; rfl)
    (by rw [World.cell?_alloc_lt _ _ t (by simp; omega), World.cell?_alloc_lt _ _ t (by simp; omega), World.cell?_alloc_lt _ _ t (by simp; omega), World.cell?_alloc_lt _ _ t htl]; exact ht0)
    (by rw [World.frozen?_alloc_old _ _ t (by simp; omega), World.frozen?_alloc_old _ _ t (by simp; omega), World.frozen?_alloc_old _ _ t (by simp; omega), World.frozen?_alloc_old _ _ t (Nat.ne_of_lt htl)]; exact hf0)
  go_enter Tryz.func54, Tryz.ntmps54
  go_wp2
  refine wp_loop_rounds 1 ?_
  rw [rounds_succ]
  go_wp2
  go_ret
  exact ⟨rfl, rfl⟩
end Go.Proofs.YtcefmhofidoloaaGreatDoor.Lex
