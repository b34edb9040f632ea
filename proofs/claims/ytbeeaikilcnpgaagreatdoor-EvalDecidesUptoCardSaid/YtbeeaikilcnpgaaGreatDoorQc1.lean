/- Texts put together: Base, Shelf, Tok, App, Bytes, Hx, ExD, Litp, Eqs, Kw, Val, BldB, Wk, Bld, Lit, Lx1, Lx3, Lx6, Lx7, Lx5, Lx8, Lx9, Lx2, Lx4, Lx10, Lx11, Lx12, Num, Rlit. -/
import Derived.Below
import Derived.WalkKit
import Derived.ProofKit
import Derived.Laws.IdiomCopy
import Derived.Deep.Draws
import Derived.Shelf.Strings.Builder1
import Derived.Shelf.Small.Utf8
import Derived.Shelf.Small.Strs
import Derived.Shelf.Small.Wraps
import Derived.Shelf.Strings.BuilderF
import Derived.Shelf.Strings.BuilderK
import Derived.Shelf.Strconv.Itoa0
import Derived.Shelf.Strconv.Itoa1
import Derived.Shelf.LaysM
import Derived.Shelf.Strconv.Itoa2
import Derived.Shelf.Strconv.Itoa3
import Derived.Shelf.Strconv.ParseIntEmpty
import Derived.Shelf.Strconv.Clone
import Derived.Shelf.Strconv.SyntaxError
import Derived.Shelf.LaysC
import Derived.Shelf.Strconv.ToError
import Derived.Shelf.Strconv.Lower
import Derived.Shelf.Strconv.ParseUint10
import Derived.Shelf.Strconv.ParseUint10Empty
import Derived.Shelf.Strconv.ParseUint10Any
import Derived.Shelf.Strconv.ParseInt10
import Derived.Shelf.Strconv.RangeError
import Derived.Shelf.Strconv.ToErrorRange
import Derived.Shelf.Strconv.ParseUintEmpty
import Derived.Shelf.Strconv.ParseUint10b64
import Derived.Shelf.Strconv.ParseUint10b32
import Derived.Shelf.Strconv.ParseUint10b16
import Derived.Shelf.Strconv.ParseUint10b8
import Derived.Shelf.Strconv.ParseUint10At
import Derived.Shelf.Strconv.ParseInt10At64
import Derived.Shelf.Strconv.ParseInt10At32
import Derived.Shelf.Strconv.ParseInt10At16
import Derived.Shelf.Strconv.ParseInt10At8
import Derived.Shelf.Strconv.ParseInt10All
import Derived.Shelf.Strconv.ParseIntPublic10
import Derived.Shelf.Strconv.ErrVarParseInt
import Derived.Ground.MpProg
import Derived.Shelf.Pu.ParseUintPublic10
import Derived.Shelf.Pu.ErrVarParseUint
import Derived.Shelf.Strings.Search1
import Derived.Shelf.Strings.Search2
import Derived.Shelf.Strings.Search3
import Derived.Shelf.Strings.Cut
import Derived.Shelf.Strings.Shaped
import Derived.Shelf.Strings.Prefix
import Derived.Shelf.Strings.Runes
import Derived.Shelf.Strings.IndexAny
import Derived.Shelf.Strings.AsciiSet
import Derived.Shelf.Strings.IndexAnyAll
import Derived.Shelf.Bits.Mul64
import Derived.Shelf.Strings.BuilderCap
import Derived.Shelf.Slices.Turned
import Derived.Ground.Names2Prog
import Derived.Shelf.Slices.SearchI
import Derived.Test.YtbeeaikilcnpgaaGreatDoorProg
import Derived.Deep.AppendLies
import Derived.Laws.AppendOwn
import Derived.Laws.OwnMore
import Derived.Laws.BytesString
import Derived.Laws.Cells
import Derived.Lib.Replace
import Derived.Lib.IndexLaws
import Derived.Laws.StructEq
import Derived.KernelRfl
import Derived.OwnWalk
import Derived.RegionTactic
import Derived.ChangeAlike
import Derived.Deep.QuietTactic
import Derived.BigQuiet
import Derived.Deep.RegionWith
import Derived.WalkSpells
import Derived.WalkLawsBesides
import Derived.Outline
import Derived.StillTailTactics
import Derived.WalkMore
import Derived.Deep.Cut
import Derived.Deep.CutBlock
import Derived.Deep.DeepCutAuto
import Derived.Deep.RegionHeld3
import Derived.Laws.ResultCell
import Derived.Recover
import Derived.Defers
import Derived.OpenShut
import Derived.ShutString
import Derived.ChangeOld
import Derived.SizedLaws
import Derived.Lib.AppendIntMem
import Derived.Lib.ConvBytes
import Derived.Lib.ItoaNum
set_option linter.unusedVariables false
set_option linter.unusedSimpArgs false
set_option maxHeartbeats 25600000
namespace Go.Proofs.YtbeeaikilcnpgaaGreatDoor.Base
open Go.RowKit
structure Fr (S : Nat → Prop) (w w' : World) : Prop where
  os : w'.os = w.os
  tape : w'.tape = w.tape
  output : w'.output = w.output
  size : w.heap.size ≤ w'.heap.size
  block : ∀ k, k < w.heap.size → ¬ S k → w'.heap[k]? = w.heap[k]?

theorem Fr.refl (S : Nat → Prop) (w : World) : Fr S w w := ⟨rfl, rfl, rfl, Nat.le_refl _, fun _ _ _ => rfl⟩
theorem Fr.trans {S T U : Nat → Prop} {a b c : World} (h : Fr S a b) (k : Fr T b c) (hs : ∀ k, S k → k < a.heap.size → U k) (ht : ∀ k, T k → k < a.heap.size → U k) : Fr U a c :=
  ⟨k.os.trans h.os, k.tape.trans h.tape, k.output.trans h.output, Nat.le_trans h.size k.size, fun i hi hu => (k.block i (Nat.lt_of_lt_of_le hi h.size) (fun h' => hu (ht i h' hi))).trans (h.block i hi (fun h' => hu (hs i h' hi)))⟩
theorem Fr.mono {S T : Nat → Prop} {a b : World} (h : Fr S a b) (hs : ∀ k, S k → k < a.heap.size → T k) : Fr T a b :=
  ⟨h.os, h.tape, h.output, h.size, fun i hi hu => h.block i hi (fun h' => hu (hs i h' hi))⟩
theorem Fr.below {S : Nat → Prop} {a b : World} (h : Fr S a b) (hs : ∀ k, S k → a.heap.size ≤ k) : Below a.heap.size a b :=
  ⟨h.os, h.tape, h.output, h.size, fun i hi => h.block i hi (fun h' => by have := hs i h'; omega)⟩
theorem Fr.of_below {S : Nat → Prop} {a b : World} (h : Below a.heap.size a b) : Fr S a b :=
  ⟨h.os, h.tape, h.output, h.size, fun i hi _ => h.block i hi⟩
theorem Fr.of_grown {S : Nat → Prop} {a b : World} {row : Option Nat} (h : a.grownBy b row) (hs : ∀ k, row = some k → S k) : Fr S a b :=
  ⟨h.os, h.tape, h.output, h.size, fun i hi hu => h.block i hi (fun h' => hu (hs i h'.symm))⟩
theorem Fr.setCell {S : Nat → Prop} {a b : World} (h : Fr S a b) {p : Addr} (hp : S p.block) (u : Value) : Fr S a (b.setCell p u) :=
  ⟨h.os, h.tape, h.output, by simpa [World.setCell] using h.size, fun i hi hu => (Below.heap_setCell b p u i (fun e => hu (e ▸ hp))).trans (h.block i hi hu)⟩
theorem Fr.drewN {S : Nat → Prop} {a b : World} (h : Fr S a b) (n : Nat) : Fr S a (b.drewN n) := ⟨h.os, h.tape, h.output, h.size, h.block⟩
theorem Fr.drew {S : Nat → Prop} {a b : World} (h : Fr S a b) : Fr S a b.drew := ⟨h.os, h.tape, h.output, h.size, h.block⟩
theorem Fr.alloc {S : Nat → Prop} {a b : World} (h : Fr S a b) (o : Obj) : Fr S a (b.alloc o) :=
  ⟨h.os, h.tape, h.output, Nat.le_trans h.size (by simp), fun i hi hu => (Below.heap_alloc b o i (by have := h.size; omega)).trans (h.block i hi hu)⟩

def putCells (cur : Array Value) : Nat → List Value → Array Value
  | _, [] => cur
  | o, v :: vs => putCells (cur.setIfInBounds o v) (o + 1) vs
theorem setCells_heap {b : Nat} {t : TypeId} {fr : Nat × Nat} : ∀ (vs : List Value) {cur : Array Value} (o : Nat) {w : World}, w.heap[b]? = some (.cells cur t fr) → (w.setCells b o vs).heap[b]? = some (.cells (putCells cur o vs) t fr)
  | [], _, _, _, h => h
  | v :: vs, cur, o, w, h => by
    show ((w.setCell ⟨b, o, none⟩ v).setCells b (o + 1) vs).heap[b]? = _
    refine setCells_heap vs (o + 1) (cur := cur.setIfInBounds o v) ?_
    simp [World.setCell, Array.getElem?_modify, h]
theorem blk_cell {W : World} {g : Nat} {cs : Array Value} {t : TypeId} {fr : Nat × Nat} (h : W.heap[g]? = some (.cells cs t fr)) (j : Nat) : W.cell? ⟨g, j, none⟩ = cs[j]? := by simp [World.cell?, h]
theorem blk_frozen {W : World} {g : Nat} {cs : Array Value} {t : TypeId} (h : W.heap[g]? = some (.cells cs t (0, 0))) (j : Nat) : W.frozen? ⟨g, j, none⟩ = false := by simp [World.frozen?, h]
theorem blk_lt {W : World} {g : Nat} {o : Obj} (h : W.heap[g]? = some o) : g < W.heap.size := (Array.getElem?_eq_some_iff.1 h).1
theorem blk_set {W : World} {g : Nat} {cs : Array Value} {t : TypeId} {fr : Nat × Nat} (h : W.heap[g]? = some (.cells cs t fr)) (j : Nat) (v : Value) : (W.setCell ⟨g, j, none⟩ v).heap[g]? = some (.cells (cs.setIfInBounds j v) t fr) := by
  simp [World.setCell, Array.getElem?_modify, h]
theorem blk_far {W : World} {g : Nat} {o : Obj} (h : W.heap[g]? = some o) {p : Addr} (hp : g ≠ p.block) (v : Value) : (W.setCell p v).heap[g]? = some o := by
  rw [Below.heap_setCell _ _ _ _ hp]; exact h
theorem blk_alloc {W : World} {g : Nat} {o : Obj} (h : W.heap[g]? = some o) (o' : Obj) : (W.alloc o').heap[g]? = some o := by
  rw [Below.heap_alloc _ _ _ (blk_lt h)]; exact h
theorem blk_new (W : World) (o : Obj) : (W.alloc o).heap[W.heap.size]? = some o := by
  show (W.heap.push o)[W.heap.size]? = _; simp
theorem blk_fr {S : Nat → Prop} {W W' : World} {g : Nat} {o : Obj} (h : W.heap[g]? = some o) (hf : Fr S W W') (hs : ¬ S g) : W'.heap[g]? = some o :=
  (hf.block g (blk_lt h) hs).trans h
structure Asd (p : Prop) : Prop where mk :: (out : p)
theorem ret_eq {v v' : Value} (h : v = v') : Ending.returned v = Ending.returned v' := by rw [h]
end Go.Proofs.YtbeeaikilcnpgaaGreatDoor.Base

namespace Go.Proofs
open Go.Shelf
def Tryz.lays169_ren : Go.Shelf.Ren := ⟨fun | 169 => 92 | n => n, fun | 70 => 122 | 9 => 9 | 0 => 0 | 72 => 124 | 37 => 81 | 127 => 140 | 3 => 3 | 5 => 5 | n => n, fun | n => n⟩
theorem Tryz.lays169 : Go.Proofs.Lays.n169 Tryz.prog Tryz.lays169_ren := {
  mixed := by kernel_rfl
  f169 := Tryz.func92.trans (congrArg some (by kernel_rfl))
  t0 := Tryz.underlying0
  a0 := Tryz.isAgg0
  z0 := Tryz.sizeOf0
  v0 := Tryz.zeroValue0
  t3 := Tryz.underlying3
  a3 := Tryz.isAgg3
  z3 := Tryz.sizeOf3
  v3 := Tryz.zeroValue3
  t9 := Tryz.underlying9
  a9 := Tryz.isAgg9
  z9 := Tryz.sizeOf9
  v9 := Tryz.zeroValue9
  t37 := Tryz.underlying81
  a37 := Tryz.isAgg81
  z37 := Tryz.sizeOf81
  v37 := Tryz.zeroValue81
  t70 := Tryz.underlying122
  a70 := Tryz.isAgg122
  z70 := Tryz.sizeOf122
  v70 := Tryz.zeroValue122
  t72 := Tryz.underlying124
  a72 := Tryz.isAgg124
  z72 := Tryz.sizeOf124
  v72 := Tryz.zeroValue124
  t127 := Tryz.underlying140
  a127 := Tryz.isAgg140
  z127 := Tryz.sizeOf140
  v127 := Tryz.zeroValue140 }
theorem Tryz.Builder_Extra_169 : Builder.Extra Tryz.prog Tryz.lays169_ren := {
  sizeBuilder := by kernel_rfl
  liesBuilder := by kernel_rfl
  t5 := Tryz.underlying5
  a5 := Tryz.isAgg5
  z5 := Tryz.sizeOf5
  v5 := Tryz.zeroValue5
  infoByte := by kernel_rfl
  cellsByte := by kernel_rfl
  sizeByte := by kernel_rfl
  neB5 := by decide }
open Go.RowKit in
theorem Tryz.Builder_String_any (B b : Nat) (l : List UInt8) (w : World) (h : Lib.IsBuilder 124 5 B b (Lib.byteCells l) w) (hBw : B ≤ w.heap.size) :
    Calls Tryz.prog 92 #[.pointer (some ⟨b, 0, none⟩)] w fun e w' => e = .returned (.string ⟨l.toArray⟩) ∧ Below B w w' := Any.Builder_String_any Tryz.lays169 Tryz.Builder_Extra_169 B b l w h hBw
def Tryz.lays106_ren : Go.Shelf.Ren := ⟨fun | 106 => 65 | 213 => 88 | 265 => 108 | n => n, fun | 9 => 9 | 3 => 3 | n => n, fun | n => n⟩
theorem Tryz.lays106 : Go.Proofs.Lays.n106 Tryz.prog Tryz.lays106_ren := {
  mixed := by kernel_rfl
  f106 := Tryz.func65.trans (congrArg some (by kernel_rfl))
  f213 := Tryz.func88.trans (congrArg some (by kernel_rfl))
  f265 := Tryz.func108.trans (congrArg some (by kernel_rfl))
  t3 := Tryz.underlying3
  a3 := Tryz.isAgg3
  z3 := Tryz.sizeOf3
  v3 := Tryz.zeroValue3
  t9 := Tryz.underlying9
  a9 := Tryz.isAgg9
  z9 := Tryz.sizeOf9
  v9 := Tryz.zeroValue9 }
open Go.RowKit in
theorem Tryz.strings_Compare (a b : ByteArray) (w : World) :
    Calls Tryz.prog 65 #[.string a, .string b] w fun e w' => e = .returned (.int .i64 (Lib.compareBytes a.data.toList b.data.toList)) ∧ w' = w := Any.strings_Compare Tryz.lays106 a b w
def Tryz.lays137_ren : Go.Shelf.Ren := ⟨fun | 137 => 56 | 217 => 71 | 266 => 93 | n => n, fun | 9 => 9 | 5 => 5 | 3 => 3 | n => n, fun | n => n⟩
theorem Tryz.lays137 : Go.Proofs.Lays.n137 Tryz.prog Tryz.lays137_ren := {
  mixed := by kernel_rfl
  f137 := Tryz.func56.trans (congrArg some (by kernel_rfl))
  f217 := Tryz.func71.trans (congrArg some (by kernel_rfl))
  f266 := Tryz.func93.trans (congrArg some (by kernel_rfl))
  t3 := Tryz.underlying3
  a3 := Tryz.isAgg3
  z3 := Tryz.sizeOf3
  v3 := Tryz.zeroValue3
  t5 := Tryz.underlying5
  a5 := Tryz.isAgg5
  z5 := Tryz.sizeOf5
  v5 := Tryz.zeroValue5
  t9 := Tryz.underlying9
  a9 := Tryz.isAgg9
  z9 := Tryz.sizeOf9
  v9 := Tryz.zeroValue9 }
open Go.RowKit in
theorem Tryz.strings_IndexByte (s : ByteArray) (c : Int) (w : World) :
    Calls Tryz.prog 56 #[.string s, .int .u8 c] w fun e w' => e = .returned (.int .i64 (Lib.indexByte s.data.toList c.toNat.toUInt8)) ∧ w' = w := Any.strings_IndexByte Tryz.lays137 s c w
def Tryz.laysC245_ren : Go.Shelf.Ren := ⟨fun | 245 => 98 | 279 => 113 | 280 => 114 | 281 => 115 | 282 => 116 | 316 => 133 | 171 => 135 | 205 => 134 | 243 => 143 | 246 => 148 | 283 => 150 | 284 => 151 | 285 => 152 | 286 => 153 | 129 => 156 | 317 => 155 | 318 => 157 | 319 => 158 | 320 => 159 | 337 => 160 | 338 => 161 | n => n, fun | 9 => 9 | 3 => 3 | 75 => 62 | 167 => 141 | 4 => 4 | 168 => 142 | 210 => 160 | 37 => 81 | 0 => 0 | 127 => 140 | 145 => 171 | 143 => 169 | 2 => 2 | 171 => 178 | 53 => 37 | 5 => 5 | 173 => 181 | 212 => 184 | 51 => 174 | 20 => 20 | 213 => 185 | 46 => 139 | 232 => 188 | 233 => 189 | 80 => 126 | n => n, fun | 15 => 1 | 16 => 2 | 17 => 3 | 18 => 4 | 19 => 5 | n => n⟩
theorem Tryz.laysC245 : Go.Proofs.LaysC.n245 Tryz.prog Tryz.laysC245_ren := {
  mixed := by kernel_rfl
  f129 := Tryz.func156.trans (congrArg some (by kernel_rfl))
  f171 := Tryz.func135.trans (congrArg some (by kernel_rfl))
  f205 := Tryz.func134.trans (congrArg some (by kernel_rfl))
  f243 := Tryz.func143.trans (congrArg some (by kernel_rfl))
  f245 := Tryz.func98.trans (congrArg some (by kernel_rfl))
  f246 := Tryz.func148.trans (congrArg some (by kernel_rfl))
  f279 := Tryz.func113.trans (congrArg some (by kernel_rfl))
  f280 := Tryz.func114.trans (congrArg some (by kernel_rfl))
  f281 := Tryz.func115.trans (congrArg some (by kernel_rfl))
  f282 := Tryz.func116.trans (congrArg some (by kernel_rfl))
  f283 := Tryz.func150.trans (congrArg some (by kernel_rfl))
  f284 := Tryz.func151.trans (congrArg some (by kernel_rfl))
  f285 := Tryz.func152.trans (congrArg some (by kernel_rfl))
  f286 := Tryz.func153.trans (congrArg some (by kernel_rfl))
  f316 := Tryz.func133.trans (congrArg some (by kernel_rfl))
  f317 := Tryz.func155.trans (congrArg some (by kernel_rfl))
  f318 := Tryz.func157.trans (congrArg some (by kernel_rfl))
  f319 := Tryz.func158.trans (congrArg some (by kernel_rfl))
  f320 := Tryz.func159.trans (congrArg some (by kernel_rfl))
  f337 := Tryz.func160.trans (congrArg some (by kernel_rfl))
  f338 := Tryz.func161.trans (congrArg some (by kernel_rfl))
  t0 := Tryz.underlying0
  a0 := Tryz.isAgg0
  z0 := Tryz.sizeOf0
  v0 := Tryz.zeroValue0
  t2 := Tryz.underlying2
  a2 := Tryz.isAgg2
  z2 := Tryz.sizeOf2
  v2 := Tryz.zeroValue2
  t3 := Tryz.underlying3
  a3 := Tryz.isAgg3
  z3 := Tryz.sizeOf3
  v3 := Tryz.zeroValue3
  t4 := Tryz.underlying4
  a4 := Tryz.isAgg4
  z4 := Tryz.sizeOf4
  v4 := Tryz.zeroValue4
  t5 := Tryz.underlying5
  a5 := Tryz.isAgg5
  z5 := Tryz.sizeOf5
  v5 := Tryz.zeroValue5
  t9 := Tryz.underlying9
  a9 := Tryz.isAgg9
  z9 := Tryz.sizeOf9
  v9 := Tryz.zeroValue9
  t20 := Tryz.underlying20
  a20 := Tryz.isAgg20
  z20 := Tryz.sizeOf20
  v20 := Tryz.zeroValue20
  t37 := Tryz.underlying81
  a37 := Tryz.isAgg81
  z37 := Tryz.sizeOf81
  v37 := Tryz.zeroValue81
  t46 := Tryz.underlying139
  a46 := Tryz.isAgg139
  z46 := Tryz.sizeOf139
  v46 := Tryz.zeroValue139
  t51 := Tryz.underlying174
  a51 := Tryz.isAgg174
  z51 := Tryz.sizeOf174
  v51 := Tryz.zeroValue174
  t53 := Tryz.underlying37
  a53 := Tryz.isAgg37
  z53 := Tryz.sizeOf37
  v53 := Tryz.zeroValue37
  t75 := Tryz.underlying62
  a75 := Tryz.isAgg62
  z75 := Tryz.sizeOf62
  v75 := Tryz.zeroValue62
  t127 := Tryz.underlying140
  a127 := Tryz.isAgg140
  z127 := Tryz.sizeOf140
  v127 := Tryz.zeroValue140
  t143 := Tryz.underlying169
  a143 := Tryz.isAgg169
  z143 := Tryz.sizeOf169
  v143 := Tryz.zeroValue169
  t145 := Tryz.underlying171
  a145 := Tryz.isAgg171
  z145 := Tryz.sizeOf171
  v145 := Tryz.zeroValue171
  t167 := Tryz.underlying141
  a167 := Tryz.isAgg141
  z167 := Tryz.sizeOf141
  v167 := Tryz.zeroValue141
  t168 := Tryz.underlying142
  a168 := Tryz.isAgg142
  z168 := Tryz.sizeOf142
  v168 := Tryz.zeroValue142
  t171 := Tryz.underlying178
  a171 := Tryz.isAgg178
  z171 := Tryz.sizeOf178
  v171 := Tryz.zeroValue178
  t173 := Tryz.underlying181
  a173 := Tryz.isAgg181
  z173 := Tryz.sizeOf181
  v173 := Tryz.zeroValue181
  t210 := Tryz.underlying160
  a210 := Tryz.isAgg160
  z210 := Tryz.sizeOf160
  v210 := Tryz.zeroValue160
  t212 := Tryz.underlying184
  a212 := Tryz.isAgg184
  z212 := Tryz.sizeOf184
  v212 := Tryz.zeroValue184
  t213 := Tryz.underlying185
  a213 := Tryz.isAgg185
  z213 := Tryz.sizeOf185
  t232 := Tryz.underlying188
  a232 := Tryz.isAgg188
  z232 := Tryz.sizeOf188
  v232 := Tryz.zeroValue188
  t233 := Tryz.underlying189
  a233 := Tryz.isAgg189
  z233 := Tryz.sizeOf189
  v233 := Tryz.zeroValue189
  g15 := by kernel_rfl
  g16 := by kernel_rfl
  g17 := by kernel_rfl
  g18 := by kernel_rfl
  g19 := by kernel_rfl
  t80 := Tryz.underlying126
  a80 := Tryz.isAgg126
  z80 := Tryz.sizeOf126
  v80 := Tryz.zeroValue126
  i0 := by kernel_rfl
  i2 := by kernel_rfl
  i3 := by kernel_rfl
  i4 := by kernel_rfl
  i5 := by kernel_rfl
  i9 := by kernel_rfl
  i20 := by kernel_rfl
  i37 := by kernel_rfl
  i46 := by kernel_rfl
  i51 := by kernel_rfl
  i53 := by kernel_rfl
  i75 := by kernel_rfl
  i80 := by kernel_rfl
  i127 := by kernel_rfl
  i143 := by kernel_rfl
  i145 := by kernel_rfl
  i167 := by kernel_rfl
  i168 := by kernel_rfl
  i171 := by kernel_rfl
  i173 := by kernel_rfl
  i210 := by kernel_rfl
  i212 := by kernel_rfl
  i232 := by kernel_rfl
  i233 := by kernel_rfl
  m15 := by kernel_rfl
  m16 := by kernel_rfl
  m17 := by kernel_rfl
  m18 := by kernel_rfl
  m19 := by kernel_rfl
  c0 := by kernel_rfl
  c2 := by kernel_rfl
  c3 := by kernel_rfl
  c4 := by kernel_rfl
  c5 := by kernel_rfl
  c9 := by kernel_rfl
  c20 := by kernel_rfl
  c37 := by kernel_rfl
  c46 := by kernel_rfl
  c51 := by kernel_rfl
  c53 := by kernel_rfl
  c75 := by kernel_rfl
  c80 := by kernel_rfl
  c127 := by kernel_rfl
  c143 := by kernel_rfl
  c145 := by kernel_rfl
  c167 := by kernel_rfl
  c168 := by kernel_rfl
  c171 := by kernel_rfl
  c173 := by kernel_rfl
  c210 := by kernel_rfl
  c212 := by kernel_rfl
  c213 := by kernel_rfl
  c232 := by kernel_rfl
  c233 := by kernel_rfl }
open Go.RowKit in
theorem Tryz.strconv_toError_syntax (fn s : ByteArray) (base bits : Int) (ev : Value) (w : World) (hlim : s.size ≤ 281474976710656) (hv : w.cell? ⟨1, 0, none⟩ = some ev) (hev : ev = .nilIface ∨ ∃ te pe, ev = .iface te pe) :
    Calls Tryz.prog 98 #[.string fn, .string s, .int .i64 base, .int .i64 bits, .iface 141 (.int .i64 2)] w fun e w' => ∃ N, e = .returned (.iface 142 (.pointer (some ⟨N, 0, none⟩))) ∧ w.heap.size ≤ N ∧ w'.heap[N]? = some (.cells #[.string fn, .string s, ev] 160 (0, 0)) ∧ Below w.heap.size w w' := Any.strconv_toError_syntax Tryz.laysC245 fn s base bits ev w hlim hv hev
def Tryz.lays321_ren : Go.Shelf.Ren := ⟨fun | 321 => 127 | n => n, fun | 5 => 5 | n => n, fun | n => n⟩
theorem Tryz.lays321 : Go.Proofs.Lays.n321 Tryz.prog Tryz.lays321_ren := {
  mixed := by kernel_rfl
  f321 := Tryz.func127.trans (congrArg some (by kernel_rfl))
  t5 := Tryz.underlying5
  a5 := Tryz.isAgg5
  z5 := Tryz.sizeOf5
  v5 := Tryz.zeroValue5 }
open Go.RowKit in
theorem Tryz.internal_strconv_lower (c : Int) (w : World) :
    Calls Tryz.prog 127 #[.int .u8 c] w fun e w' => e = .returned (.int .u8 (bits .or .u8 c 32)) ∧ w' = w := Any.internal_strconv_lower Tryz.lays321 c w
def Tryz.laysC174_ren : Go.Shelf.Ren := ⟨fun | 174 => 78 | 247 => 97 | 245 => 98 | 287 => 111 | 279 => 113 | 280 => 114 | 281 => 115 | 282 => 116 | 321 => 127 | 322 => 128 | 316 => 133 | 171 => 135 | 205 => 134 | 243 => 143 | 246 => 148 | 283 => 150 | 284 => 151 | 285 => 152 | 286 => 153 | 129 => 156 | 317 => 155 | 318 => 157 | 319 => 158 | 320 => 159 | 337 => 160 | 338 => 161 | n => n, fun | 9 => 9 | 3 => 3 | 2 => 2 | 75 => 62 | 85 => 109 | 4 => 4 | 167 => 141 | 5 => 5 | 53 => 37 | 175 => 129 | 46 => 139 | 168 => 142 | 37 => 81 | 0 => 0 | 210 => 160 | 21 => 21 | 127 => 140 | 145 => 171 | 143 => 169 | 171 => 178 | 173 => 181 | 212 => 184 | 51 => 174 | 20 => 20 | 213 => 185 | 232 => 188 | 233 => 189 | 80 => 126 | n => n, fun | 15 => 1 | 16 => 2 | 17 => 3 | 18 => 4 | 19 => 5 | n => n⟩
theorem Tryz.laysC174 : Go.Proofs.LaysC.n174 Tryz.prog Tryz.laysC174_ren := {
  mixed := by kernel_rfl
  f129 := Tryz.func156.trans (congrArg some (by kernel_rfl))
  f171 := Tryz.func135.trans (congrArg some (by kernel_rfl))
  f174 := Tryz.func78.trans (congrArg some (by kernel_rfl))
  f205 := Tryz.func134.trans (congrArg some (by kernel_rfl))
  f243 := Tryz.func143.trans (congrArg some (by kernel_rfl))
  f245 := Tryz.func98.trans (congrArg some (by kernel_rfl))
  f246 := Tryz.func148.trans (congrArg some (by kernel_rfl))
  f247 := Tryz.func97.trans (congrArg some (by kernel_rfl))
  f279 := Tryz.func113.trans (congrArg some (by kernel_rfl))
  f280 := Tryz.func114.trans (congrArg some (by kernel_rfl))
  f281 := Tryz.func115.trans (congrArg some (by kernel_rfl))
  f282 := Tryz.func116.trans (congrArg some (by kernel_rfl))
  f283 := Tryz.func150.trans (congrArg some (by kernel_rfl))
  f284 := Tryz.func151.trans (congrArg some (by kernel_rfl))
  f285 := Tryz.func152.trans (congrArg some (by kernel_rfl))
  f286 := Tryz.func153.trans (congrArg some (by kernel_rfl))
  f287 := Tryz.func111.trans (congrArg some (by kernel_rfl))
  f316 := Tryz.func133.trans (congrArg some (by kernel_rfl))
  f317 := Tryz.func155.trans (congrArg some (by kernel_rfl))
  f318 := Tryz.func157.trans (congrArg some (by kernel_rfl))
  f319 := Tryz.func158.trans (congrArg some (by kernel_rfl))
  f320 := Tryz.func159.trans (congrArg some (by kernel_rfl))
  f321 := Tryz.func127.trans (congrArg some (by kernel_rfl))
  f322 := Tryz.func128.trans (congrArg some (by kernel_rfl))
  f337 := Tryz.func160.trans (congrArg some (by kernel_rfl))
  f338 := Tryz.func161.trans (congrArg some (by kernel_rfl))
  t0 := Tryz.underlying0
  a0 := Tryz.isAgg0
  z0 := Tryz.sizeOf0
  v0 := Tryz.zeroValue0
  t2 := Tryz.underlying2
  a2 := Tryz.isAgg2
  z2 := Tryz.sizeOf2
  v2 := Tryz.zeroValue2
  t3 := Tryz.underlying3
  a3 := Tryz.isAgg3
  z3 := Tryz.sizeOf3
  v3 := Tryz.zeroValue3
  t4 := Tryz.underlying4
  a4 := Tryz.isAgg4
  z4 := Tryz.sizeOf4
  v4 := Tryz.zeroValue4
  t5 := Tryz.underlying5
  a5 := Tryz.isAgg5
  z5 := Tryz.sizeOf5
  v5 := Tryz.zeroValue5
  t9 := Tryz.underlying9
  a9 := Tryz.isAgg9
  z9 := Tryz.sizeOf9
  v9 := Tryz.zeroValue9
  t20 := Tryz.underlying20
  a20 := Tryz.isAgg20
  z20 := Tryz.sizeOf20
  v20 := Tryz.zeroValue20
  t21 := Tryz.underlying21
  a21 := Tryz.isAgg21
  z21 := Tryz.sizeOf21
  v21 := Tryz.zeroValue21
  t37 := Tryz.underlying81
  a37 := Tryz.isAgg81
  z37 := Tryz.sizeOf81
  v37 := Tryz.zeroValue81
  t46 := Tryz.underlying139
  a46 := Tryz.isAgg139
  z46 := Tryz.sizeOf139
  v46 := Tryz.zeroValue139
  t51 := Tryz.underlying174
  a51 := Tryz.isAgg174
  z51 := Tryz.sizeOf174
  v51 := Tryz.zeroValue174
  t53 := Tryz.underlying37
  a53 := Tryz.isAgg37
  z53 := Tryz.sizeOf37
  v53 := Tryz.zeroValue37
  t75 := Tryz.underlying62
  a75 := Tryz.isAgg62
  z75 := Tryz.sizeOf62
  v75 := Tryz.zeroValue62
  t85 := Tryz.underlying109
  a85 := Tryz.isAgg109
  z85 := Tryz.sizeOf109
  v85 := Tryz.zeroValue109
  t127 := Tryz.underlying140
  a127 := Tryz.isAgg140
  z127 := Tryz.sizeOf140
  v127 := Tryz.zeroValue140
  t143 := Tryz.underlying169
  a143 := Tryz.isAgg169
  z143 := Tryz.sizeOf169
  v143 := Tryz.zeroValue169
  t145 := Tryz.underlying171
  a145 := Tryz.isAgg171
  z145 := Tryz.sizeOf171
  v145 := Tryz.zeroValue171
  t167 := Tryz.underlying141
  a167 := Tryz.isAgg141
  z167 := Tryz.sizeOf141
  v167 := Tryz.zeroValue141
  t168 := Tryz.underlying142
  a168 := Tryz.isAgg142
  z168 := Tryz.sizeOf142
  v168 := Tryz.zeroValue142
  t171 := Tryz.underlying178
  a171 := Tryz.isAgg178
  z171 := Tryz.sizeOf178
  v171 := Tryz.zeroValue178
  t173 := Tryz.underlying181
  a173 := Tryz.isAgg181
  z173 := Tryz.sizeOf181
  v173 := Tryz.zeroValue181
  t175 := Tryz.underlying129
  a175 := Tryz.isAgg129
  z175 := Tryz.sizeOf129
  v175 := Tryz.zeroValue129
  t210 := Tryz.underlying160
  a210 := Tryz.isAgg160
  z210 := Tryz.sizeOf160
  v210 := Tryz.zeroValue160
  t212 := Tryz.underlying184
  a212 := Tryz.isAgg184
  z212 := Tryz.sizeOf184
  v212 := Tryz.zeroValue184
  t213 := Tryz.underlying185
  a213 := Tryz.isAgg185
  z213 := Tryz.sizeOf185
  t232 := Tryz.underlying188
  a232 := Tryz.isAgg188
  z232 := Tryz.sizeOf188
  v232 := Tryz.zeroValue188
  t233 := Tryz.underlying189
  a233 := Tryz.isAgg189
  z233 := Tryz.sizeOf189
  v233 := Tryz.zeroValue189
  g15 := by kernel_rfl
  g16 := by kernel_rfl
  g17 := by kernel_rfl
  g18 := by kernel_rfl
  g19 := by kernel_rfl
  t80 := Tryz.underlying126
  a80 := Tryz.isAgg126
  z80 := Tryz.sizeOf126
  v80 := Tryz.zeroValue126
  i0 := by kernel_rfl
  i2 := by kernel_rfl
  i3 := by kernel_rfl
  i4 := by kernel_rfl
  i5 := by kernel_rfl
  i9 := by kernel_rfl
  i20 := by kernel_rfl
  i21 := by kernel_rfl
  i37 := by kernel_rfl
  i46 := by kernel_rfl
  i51 := by kernel_rfl
  i53 := by kernel_rfl
  i75 := by kernel_rfl
  i80 := by kernel_rfl
  i85 := by kernel_rfl
  i127 := by kernel_rfl
  i143 := by kernel_rfl
  i145 := by kernel_rfl
  i167 := by kernel_rfl
  i168 := by kernel_rfl
  i171 := by kernel_rfl
  i173 := by kernel_rfl
  i175 := by kernel_rfl
  i210 := by kernel_rfl
  i212 := by kernel_rfl
  i232 := by kernel_rfl
  i233 := by kernel_rfl
  m15 := by kernel_rfl
  m16 := by kernel_rfl
  m17 := by kernel_rfl
  m18 := by kernel_rfl
  m19 := by kernel_rfl
  c0 := by kernel_rfl
  c2 := by kernel_rfl
  c3 := by kernel_rfl
  c4 := by kernel_rfl
  c5 := by kernel_rfl
  c9 := by kernel_rfl
  c20 := by kernel_rfl
  c21 := by kernel_rfl
  c37 := by kernel_rfl
  c46 := by kernel_rfl
  c51 := by kernel_rfl
  c53 := by kernel_rfl
  c75 := by kernel_rfl
  c80 := by kernel_rfl
  c85 := by kernel_rfl
  c127 := by kernel_rfl
  c143 := by kernel_rfl
  c145 := by kernel_rfl
  c167 := by kernel_rfl
  c168 := by kernel_rfl
  c171 := by kernel_rfl
  c173 := by kernel_rfl
  c175 := by kernel_rfl
  c210 := by kernel_rfl
  c212 := by kernel_rfl
  c213 := by kernel_rfl
  c232 := by kernel_rfl
  c233 := by kernel_rfl }
open Go.RowKit in
theorem Tryz.strconv_ParseInt_10_at64_ok (s : ByteArray) (hmax : s.size ≤ 9223372036854775806) (v : Int) (h : Lib.parseIntB 64 s.data.toList = .ok v) (w : World) :
    Calls Tryz.prog 78 #[.string s, .int .i64 10, .int .i64 64] w fun e w' => e = .returned (.tuple #[.int .i64 v, .nilIface]) ∧ (w' = w ∨ ∃ t, w' = Lib.bytesWorld w 5 t) := Any.strconv_ParseInt_10_at64_ok Tryz.laysC174 s hmax v h w
open Go.RowKit in
theorem Tryz.strconv_ParseInt_10_at64_range (s : ByteArray) (hlim : s.size ≤ 281474976710656) (h : Lib.parseIntB 64 s.data.toList = .range) (ev : Value) (w : World) (hv : w.cell? ⟨2, 0, none⟩ = some ev) (hev : ev = .nilIface ∨ ∃ te pe, ev = .iface te pe) :
    Calls Tryz.prog 78 #[.string s, .int .i64 10, .int .i64 64] w fun e w' => ∃ N, e = .returned (.tuple #[.int .i64 (Lib.intSat 64 s.data.toList), .iface 142 (.pointer (some ⟨N, 0, none⟩))]) ∧ w.heap.size ≤ N ∧ w'.heap[N]? = some (.cells #[.string ⟨#[80, 97, 114, 115, 101, 73, 110, 116]⟩, .string s, ev] 160 (0, 0)) ∧ Below w.heap.size w w' := Any.strconv_ParseInt_10_at64_range Tryz.laysC174 s hlim h ev w hv hev
def Tryz.laysM144_ren : Go.Shelf.Ren := ⟨fun | 144 => 149 | 143 => 154 | 219 => 126 | 217 => 71 | 225 => 139 | 224 => 140 | 267 => 141 | 266 => 93 | 314 => 147 | n => n, fun | 9 => 9 | 4 => 4 | 3 => 3 | 5 => 5 | 46 => 139 | 146 => 175 | 51 => 174 | n => n, fun | 1 => 0 | n => n⟩
theorem Tryz.laysM144 : Go.Proofs.LaysM.n144 Tryz.prog Tryz.laysM144_ren := {
  mixed := by kernel_rfl
  f143 := Tryz.func154.trans (congrArg some (by kernel_rfl))
  f144 := Tryz.func149.trans (congrArg some (by kernel_rfl))
  f217 := Tryz.func71.trans (congrArg some (by kernel_rfl))
  f219 := Tryz.func126.trans (congrArg some (by kernel_rfl))
  f224 := Tryz.func140.trans (congrArg some (by kernel_rfl))
  f225 := Tryz.func139.trans (congrArg some (by kernel_rfl))
  f266 := Tryz.func93.trans (congrArg some (by kernel_rfl))
  f267 := Tryz.func141.trans (congrArg some (by kernel_rfl))
  f314 := Tryz.func147.trans (congrArg some (by kernel_rfl))
  t3 := Tryz.underlying3
  a3 := Tryz.isAgg3
  z3 := Tryz.sizeOf3
  v3 := Tryz.zeroValue3
  t4 := Tryz.underlying4
  a4 := Tryz.isAgg4
  z4 := Tryz.sizeOf4
  v4 := Tryz.zeroValue4
  t5 := Tryz.underlying5
  a5 := Tryz.isAgg5
  z5 := Tryz.sizeOf5
  v5 := Tryz.zeroValue5
  t9 := Tryz.underlying9
  a9 := Tryz.isAgg9
  z9 := Tryz.sizeOf9
  v9 := Tryz.zeroValue9
  t46 := Tryz.underlying139
  a46 := Tryz.isAgg139
  z46 := Tryz.sizeOf139
  v46 := Tryz.zeroValue139
  t51 := Tryz.underlying174
  a51 := Tryz.isAgg174
  z51 := Tryz.sizeOf174
  v51 := Tryz.zeroValue174
  t146 := Tryz.underlying175
  a146 := Tryz.isAgg175
  z146 := Tryz.sizeOf175
  v146 := Tryz.zeroValue175
  g1 := by kernel_rfl
  i3 := by kernel_rfl
  i4 := by kernel_rfl
  i5 := by kernel_rfl
  i9 := by kernel_rfl
  i46 := by kernel_rfl
  i51 := by kernel_rfl
  i146 := by kernel_rfl
  m1 := by kernel_rfl
  s1_3 := fun w h => Go.Proofs.cell_of_shapedOpen_int (zero := #[.int .i64 0]) (t := 3) h (of_decide_eq_true (by kernel_rfl)) (by kernel_rfl) rfl (by kernel_rfl) (by kernel_rfl) Tryz.underlying3 }
open Go.RowKit Go.Lib in
theorem Tryz.strings_Contains_shaped (s sub : ByteArray) (w : World) (h : w.ShapedOpen Tryz.prog) (hs : s.size < 4294967281) :
    Calls Tryz.prog 149 #[.string s, .string sub] w fun e w' => e = .returned (.bool (Lib.contains s.data.toList sub.data.toList)) ∧ w' = w := Any.strings_Contains_shaped Tryz.laysM144 s sub w h hs
def Tryz.laysM145_ren : Go.Shelf.Ren := ⟨fun | 145 => 94 | 220 => 110 | 219 => 126 | 217 => 71 | 225 => 139 | 224 => 140 | 267 => 141 | 266 => 93 | 314 => 147 | n => n, fun | 9 => 9 | 4 => 4 | 59 => 127 | 3 => 3 | 5 => 5 | 46 => 139 | 146 => 175 | 51 => 174 | n => n, fun | 1 => 0 | n => n⟩
theorem Tryz.laysM145 : Go.Proofs.LaysM.n145 Tryz.prog Tryz.laysM145_ren := {
  mixed := by kernel_rfl
  f145 := Tryz.func94.trans (congrArg some (by kernel_rfl))
  f217 := Tryz.func71.trans (congrArg some (by kernel_rfl))
  f219 := Tryz.func126.trans (congrArg some (by kernel_rfl))
  f220 := Tryz.func110.trans (congrArg some (by kernel_rfl))
  f224 := Tryz.func140.trans (congrArg some (by kernel_rfl))
  f225 := Tryz.func139.trans (congrArg some (by kernel_rfl))
  f266 := Tryz.func93.trans (congrArg some (by kernel_rfl))
  f267 := Tryz.func141.trans (congrArg some (by kernel_rfl))
  f314 := Tryz.func147.trans (congrArg some (by kernel_rfl))
  t3 := Tryz.underlying3
  a3 := Tryz.isAgg3
  z3 := Tryz.sizeOf3
  v3 := Tryz.zeroValue3
  t4 := Tryz.underlying4
  a4 := Tryz.isAgg4
  z4 := Tryz.sizeOf4
  v4 := Tryz.zeroValue4
  t5 := Tryz.underlying5
  a5 := Tryz.isAgg5
  z5 := Tryz.sizeOf5
  v5 := Tryz.zeroValue5
  t9 := Tryz.underlying9
  a9 := Tryz.isAgg9
  z9 := Tryz.sizeOf9
  v9 := Tryz.zeroValue9
  t46 := Tryz.underlying139
  a46 := Tryz.isAgg139
  z46 := Tryz.sizeOf139
  v46 := Tryz.zeroValue139
  t51 := Tryz.underlying174
  a51 := Tryz.isAgg174
  z51 := Tryz.sizeOf174
  v51 := Tryz.zeroValue174
  t59 := Tryz.underlying127
  a59 := Tryz.isAgg127
  z59 := Tryz.sizeOf127
  v59 := Tryz.zeroValue127
  t146 := Tryz.underlying175
  a146 := Tryz.isAgg175
  z146 := Tryz.sizeOf175
  v146 := Tryz.zeroValue175
  g1 := by kernel_rfl
  i3 := by kernel_rfl
  i4 := by kernel_rfl
  i5 := by kernel_rfl
  i9 := by kernel_rfl
  i46 := by kernel_rfl
  i51 := by kernel_rfl
  i59 := by kernel_rfl
  i146 := by kernel_rfl
  m1 := by kernel_rfl
  s1_3 := fun w h => Go.Proofs.cell_of_shapedOpen_int (zero := #[.int .i64 0]) (t := 3) h (of_decide_eq_true (by kernel_rfl)) (by kernel_rfl) rfl (by kernel_rfl) (by kernel_rfl) Tryz.underlying3 }
open Go.RowKit Go.Lib in
theorem Tryz.strings_Cut_shaped (s sep : ByteArray) (w : World) (h : w.ShapedOpen Tryz.prog) (hs : s.size < 4294967281) :
    Calls Tryz.prog 94 #[.string s, .string sep] w fun e w' => e = .returned (.tuple #[.string ⟨(Lib.cut s.data.toList sep.data.toList).1.toArray⟩, .string ⟨(Lib.cut s.data.toList sep.data.toList).2.1.toArray⟩, .bool (Lib.cut s.data.toList sep.data.toList).2.2]) ∧ ∃ n, w' = w.drewN n := Any.strings_Cut_shaped Tryz.laysM145 s sep w h hs
def Tryz.lays99_ren : Go.Shelf.Ren := ⟨fun | 99 => 55 | 206 => 70 | n => n, fun | 9 => 9 | 4 => 4 | 3 => 3 | n => n, fun | n => n⟩
theorem Tryz.lays99 : Go.Proofs.Lays.n99 Tryz.prog Tryz.lays99_ren := {
  mixed := by kernel_rfl
  f99 := Tryz.func55.trans (congrArg some (by kernel_rfl))
  f206 := Tryz.func70.trans (congrArg some (by kernel_rfl))
  t3 := Tryz.underlying3
  a3 := Tryz.isAgg3
  z3 := Tryz.sizeOf3
  v3 := Tryz.zeroValue3
  t4 := Tryz.underlying4
  a4 := Tryz.isAgg4
  z4 := Tryz.sizeOf4
  v4 := Tryz.zeroValue4
  t9 := Tryz.underlying9
  a9 := Tryz.isAgg9
  z9 := Tryz.sizeOf9
  v9 := Tryz.zeroValue9 }
open Go.RowKit Go.Lib in
theorem Tryz.strings_HasPrefix (s p : ByteArray) (w : World) :
    Calls Tryz.prog 55 #[.string s, .string p] w fun e w' => e = .returned (.bool (Lib.hasPrefix s.data.toList p.data.toList)) ∧ w' = w := Any.strings_HasPrefix Tryz.lays99 s p w
def Tryz.lays153_ren : Go.Shelf.Ren := ⟨fun | 153 => 112 | 152 => 129 | 226 => 130 | 227 => 131 | 228 => 132 | 137 => 56 | 119 => 142 | 224 => 140 | 225 => 139 | 217 => 71 | 266 => 93 | n => n, fun | 9 => 9 | 3 => 3 | 4 => 4 | 5 => 5 | 21 => 21 | 117 => 157 | 116 => 156 | 0 => 0 | 46 => 139 | 124 => 168 | n => n, fun | n => n⟩
theorem Tryz.lays153 : Go.Proofs.Lays.n153 Tryz.prog Tryz.lays153_ren := {
  mixed := by kernel_rfl
  f119 := Tryz.func142.trans (congrArg some (by kernel_rfl))
  f137 := Tryz.func56.trans (congrArg some (by kernel_rfl))
  f152 := Tryz.func129.trans (congrArg some (by kernel_rfl))
  f153 := Tryz.func112.trans (congrArg some (by kernel_rfl))
  f217 := Tryz.func71.trans (congrArg some (by kernel_rfl))
  f224 := Tryz.func140.trans (congrArg some (by kernel_rfl))
  f225 := Tryz.func139.trans (congrArg some (by kernel_rfl))
  f226 := Tryz.func130.trans (congrArg some (by kernel_rfl))
  f227 := Tryz.func131.trans (congrArg some (by kernel_rfl))
  f228 := Tryz.func132.trans (congrArg some (by kernel_rfl))
  f266 := Tryz.func93.trans (congrArg some (by kernel_rfl))
  t0 := Tryz.underlying0
  a0 := Tryz.isAgg0
  z0 := Tryz.sizeOf0
  v0 := Tryz.zeroValue0
  t3 := Tryz.underlying3
  a3 := Tryz.isAgg3
  z3 := Tryz.sizeOf3
  v3 := Tryz.zeroValue3
  t4 := Tryz.underlying4
  a4 := Tryz.isAgg4
  z4 := Tryz.sizeOf4
  v4 := Tryz.zeroValue4
  t5 := Tryz.underlying5
  a5 := Tryz.isAgg5
  z5 := Tryz.sizeOf5
  v5 := Tryz.zeroValue5
  t9 := Tryz.underlying9
  a9 := Tryz.isAgg9
  z9 := Tryz.sizeOf9
  v9 := Tryz.zeroValue9
  t21 := Tryz.underlying21
  a21 := Tryz.isAgg21
  z21 := Tryz.sizeOf21
  v21 := Tryz.zeroValue21
  t46 := Tryz.underlying139
  a46 := Tryz.isAgg139
  z46 := Tryz.sizeOf139
  v46 := Tryz.zeroValue139
  t116 := Tryz.underlying156
  a116 := Tryz.isAgg156
  z116 := Tryz.sizeOf156
  t117 := Tryz.underlying157
  a117 := Tryz.isAgg157
  z117 := Tryz.sizeOf157
  v117 := Tryz.zeroValue157
  t124 := Tryz.underlying168
  a124 := Tryz.isAgg168
  z124 := Tryz.sizeOf168
  v124 := Tryz.zeroValue168 }
open Go.RowKit Go.Lib in
theorem Tryz.strings_IndexAny_short (s chars : ByteArray) (w : World) (h2 : 2 ≤ chars.size) (h8 : s.size ≤ 8) (hascii : ∀ (j : Nat) b, s.data.toList[j]? = some b → b.toNat < 128) :
    Calls Tryz.prog 112 #[.string s, .string chars] w fun e w' => e = .returned (.int .i64 (Lib.indexAny s.data.toList chars.data.toList)) ∧ ∃ pos, w' = w.iter s pos := Any.strings_IndexAny_short Tryz.lays153 s chars w h2 h8 hascii
def Tryz.lays264_ren : Go.Shelf.Ren := ⟨fun | 264 => 89 | n => n, fun | 53 => 37 | 46 => 139 | n => n, fun | n => n⟩
theorem Tryz.lays264 : Go.Proofs.Lays.n264 Tryz.prog Tryz.lays264_ren := {
  mixed := by kernel_rfl
  f264 := Tryz.func89.trans (congrArg some (by kernel_rfl))
  t46 := Tryz.underlying139
  a46 := Tryz.isAgg139
  z46 := Tryz.sizeOf139
  v46 := Tryz.zeroValue139
  t53 := Tryz.underlying37
  a53 := Tryz.isAgg37
  z53 := Tryz.sizeOf37
  v53 := Tryz.zeroValue37 }
open Go.RowKit Go.Lib in
theorem Tryz.bits_Mul64 (x y : Nat) (hx : x < 18446744073709551616) (hy : y < 18446744073709551616) (w : World) :
    Calls Tryz.prog 89 #[.int .u64 x, .int .u64 y] w fun e w' => e = .returned (.tuple #[.int .u64 ((x * y / 18446744073709551616 : Nat) : Int), .int .u64 ((x * y % 18446744073709551616 : Nat) : Int)]) ∧ w' = w := Any.bits_Mul64 Tryz.lays264 x y hx hy w
def Tryz.lays109_ren : Go.Shelf.Ren := ⟨fun | 109 => 144 | n => n, fun | 31 => 58 | 9 => 9 | 3 => 3 | 0 => 0 | 4 => 4 | n => n, fun | n => n⟩
theorem Tryz.lays109 : Go.Proofs.Lays.n109 Tryz.prog Tryz.lays109_ren := {
  mixed := by kernel_rfl
  f109 := Tryz.func144.trans (congrArg some (by kernel_rfl))
  t0 := Tryz.underlying0
  a0 := Tryz.isAgg0
  z0 := Tryz.sizeOf0
  v0 := Tryz.zeroValue0
  t3 := Tryz.underlying3
  a3 := Tryz.isAgg3
  z3 := Tryz.sizeOf3
  v3 := Tryz.zeroValue3
  t4 := Tryz.underlying4
  a4 := Tryz.isAgg4
  z4 := Tryz.sizeOf4
  v4 := Tryz.zeroValue4
  t9 := Tryz.underlying9
  a9 := Tryz.isAgg9
  z9 := Tryz.sizeOf9
  v9 := Tryz.zeroValue9
  t31 := Tryz.underlying58
  a31 := Tryz.isAgg58
  z31 := Tryz.sizeOf58
  v31 := Tryz.zeroValue58 }
open Go.Lib in
theorem Tryz.slices_Index_string (b off n c : Nat) (zs : List ByteArray) (x : ByteArray) (w : World) (hz : n ≤ zs.length) (hbig : n ≤ 9223372036854775807) (hc : ∀ j, j < zs.length → w.cell? ⟨b, off + j, none⟩ = some (.string (zs.getD j ByteArray.empty))) :
    Calls Tryz.prog 144 #[.slice (some ⟨b, off, none⟩) n c, .string x] w fun e w' => e = .returned (.int .i64 (Lib.idxOfS (zs.take n) x)) ∧ w' = w := Any.slices_Index_string Tryz.lays109 b off n c zs x w hz hbig hc
end Go.Proofs

namespace Go.Proofs.YtbeeaikilcnpgaaGreatDoor.Lex
open Go.RowKit Go.Proofs.YtbeeaikilcnpgaaGreatDoor.Base
def letN (n : Nat) : Bool := decide (97 ≤ n ∧ n ≤ 122) || decide (65 ≤ n ∧ n ≤ 90) || decide (n = 95)
def digN (n : Nat) : Bool := decide (48 ≤ n ∧ n ≤ 57)
def isLet (c : UInt8) : Bool := letN c.toNat
def isDig (c : UInt8) : Bool := digN c.toNat
def isWrd (c : UInt8) : Bool := isLet c || isDig c
def runP (p : UInt8 → Bool) : List UInt8 → Nat
  | [] => 0
  | c :: r => if p c then runP p r + 1 else 0
theorem runP_le (p : UInt8 → Bool) : ∀ l, runP p l ≤ l.length
  | [] => Nat.le_refl _
  | c :: r => by
    have := runP_le p r
    simp only [runP, List.length_cons]
    split <;> omega
def lowB (c : UInt8) : UInt8 := if 65 ≤ c.toNat ∧ c.toNat ≤ 90 then UInt8.ofNat (c.toNat + 32) else c
def textP : List UInt8 → Option (List UInt8 × Nat)
  | [] => none
  | c :: r =>
    if c = 39 then
      match r with
      | [] => some ([], 1)
      | d :: r' => if d = 39 then (textP r').map (fun x => (39 :: x.1, x.2 + 2)) else some ([], 1)
    else (textP r).map (fun x => (c :: x.1, x.2 + 1))
def hexV (c : UInt8) : Option Nat :=
  if digN c.toNat then some (c.toNat - 48)
  else if 97 ≤ c.toNat ∧ c.toNat ≤ 102 then some (c.toNat - 87)
  else if 65 ≤ c.toNat ∧ c.toNat ≤ 70 then some (c.toNat - 55) else none
def hexPair (a b : UInt8) : Option Nat := (hexV a).bind fun x => (hexV b).map fun y => 16 * x + y
def unhex : List UInt8 → Option (List UInt8)
  | [] => some []
  | [_] => none
  | a :: b :: r => (hexPair a b).bind fun x => (unhex r).map fun l => UInt8.ofNat x :: l
def blobP (l : List UInt8) : Option (List UInt8 × Nat) :=
  if 39 ∈ l then (unhex (l.takeWhile (· != 39))).map fun x => (x, (l.takeWhile (· != 39)).length + 2) else none
def symP : List UInt8 → Nat
  | [] => 0
  | c :: r =>
    if (c = 60 ∧ r.head? = some 62) ∨ (c = 60 ∧ r.head? = some 61) ∨ (c = 62 ∧ r.head? = some 61) ∨ (c = 124 ∧ r.head? = some 124) then 2
    else if c ∈ [40, 41, 44, 46, 42, 61, 60, 62, 43, 45, 47, 37, 59] then 1 else 0
structure Tk where
  kind : Nat
  text : List UInt8
  num : Int
def numP (l : List UInt8) : Option Int := match Lib.parseIntB 64 l with | .ok v => some v | _ => none
def tokP : List UInt8 → Option (Tk × Nat)
  | [] => none
  | c :: r =>
    if (c = 120 ∨ c = 88) ∧ r.head? = some 39 then (blobP r.tail).map fun x => (⟨4, x.1, 0⟩, x.2 + 1)
    else if isLet c then some (⟨1, ((c :: r).take (runP isWrd (c :: r))).map lowB, 0⟩, runP isWrd (c :: r))
    else if isDig c then (numP ((c :: r).take (runP isDig (c :: r)))).map fun v => (⟨2, [], v⟩, runP isDig (c :: r))
    else if c = 39 then (textP r).map fun x => (⟨3, x.1, 0⟩, x.2 + 1)
    else if symP (c :: r) = 0 then none
    else some (⟨5, (c :: r).take (symP (c :: r)), 0⟩, symP (c :: r))
def toksP : Nat → Nat → List UInt8 → Except Nat (List (Tk × Nat))
  | 0, _, _ => .ok []
  | f + 1, k, s =>
    match s with
    | [] => .ok []
    | c :: r =>
      if c = 32 ∨ c = 9 ∨ c = 10 ∨ c = 13 then toksP f (k + 1) r
      else if c = 45 ∧ r.head? = some 45 then
        (if 10 ∈ (c :: r) then toksP f (k + ((c :: r).takeWhile (· != 10)).length) ((c :: r).dropWhile (· != 10)) else .ok [])
      else
        match tokP (c :: r) with
        | none => .error k
        | some (t, n) => (toksP f (k + n) ((c :: r).drop n)).map ((t, k) :: ·)

theorem textP_le : ∀ (n : Nat) (l : List UInt8), l.length ≤ n → ∀ x, textP l = some x → 1 ≤ x.2 ∧ x.2 ≤ l.length
  | _, [], _, x, h => by simp [textP] at h
  | 0, c :: r, hn, x, h => by simp at hn
  | n + 1, c :: r, hn, x, h => by
    simp only [List.length_cons] at hn ⊢
    rw [textP.eq_def] at h
    simp only at h
    split at h
    · match r, h with
      | [], h => simp at h; subst h; exact ⟨Nat.le_refl _, by simp⟩
      | d :: r', h =>
        simp only at h
        split at h
        · obtain ⟨y, hy, rfl⟩ := Option.map_eq_some_iff.mp h
          have := textP_le n r' (by simp only [List.length_cons] at hn; omega) y hy
          simp only [List.length_cons]
          omega
        · simp at h; subst h; exact ⟨Nat.le_refl _, by simp⟩
    · obtain ⟨y, hy, rfl⟩ := Option.map_eq_some_iff.mp h
      have := textP_le n r (by omega) y hy
      simp only
      omega
theorem dropWhile_ne (a : UInt8) : ∀ l : List UInt8, a ∈ l → l.dropWhile (· != a) ≠ []
  | [], h => by simp at h
  | c :: r, h => by
    rw [List.dropWhile_cons]
    split
    · rename_i hc
      exact dropWhile_ne a r (by
        rcases List.mem_cons.mp h with rfl | h
        · simp at hc
        · exact h)
    · simp
theorem blobP_le {l : List UInt8} {x : List UInt8 × Nat} (h : blobP l = some x) : x.2 ≤ l.length + 1 := by
  unfold blobP at h
  split at h
  · rename_i hm
    obtain ⟨y, hy, rfl⟩ := Option.map_eq_some_iff.mp h
    simp only
    have h1 : l.takeWhile (· != 39) ++ l.dropWhile (· != 39) = l := List.takeWhile_append_dropWhile
    have h2 : l.dropWhile (· != 39) ≠ [] := dropWhile_ne 39 l hm
    have h4 := congrArg List.length h1
    rw [List.length_append] at h4
    have : (l.dropWhile (· != 39)).length ≠ 0 := by simpa using h2
    omega
  · cases h
theorem tokP_le {l : List UInt8} {x : Tk × Nat} (h : tokP l = some x) : 1 ≤ x.2 ∧ x.2 ≤ l.length := by
  match l, h with
  | c :: r, h =>
    rw [tokP.eq_2] at h
    split at h
    · rename_i hc
      obtain ⟨y, hy, rfl⟩ := Option.map_eq_some_iff.mp h
      have := blobP_le hy
      have hr : r ≠ [] := by rintro rfl; simp at hc
      have : r.length = r.tail.length + 1 := by
        cases r with
        | nil => exact absurd rfl hr
        | cons a b => simp
      simp only [List.length_cons]
      omega
    · split at h
      · rename_i hl
        injection h with h
        subst h
        refine ⟨?_, runP_le _ _⟩
        simp [runP, isWrd, hl]
      · split at h
        · rename_i hl
          obtain ⟨y, hy, rfl⟩ := Option.map_eq_some_iff.mp h
          refine ⟨?_, runP_le _ _⟩
          simp [runP, hl]
        · split at h
          · obtain ⟨y, hy, rfl⟩ := Option.map_eq_some_iff.mp h
            have := textP_le _ _ (Nat.le_refl _) y hy
            simp only [List.length_cons]
            omega
          · split at h
            · cases h
            · rename_i h0
              injection h with h
              subst h
              refine ⟨by simp only; omega, ?_⟩
              simp only [symP, List.length_cons] at h0 ⊢
              split
              · rename_i h5
                have hr : r ≠ [] := by rintro rfl; simp at h5
                have : 0 < r.length := List.length_pos_iff.mpr hr
                omega
              · split
                · omega
                · omega
end Go.Proofs.YtbeeaikilcnpgaaGreatDoor.Lex

namespace Go.Proofs.YtbeeaikilcnpgaaGreatDoor.App
open Go.RowKit Go.Proofs.YtbeeaikilcnpgaaGreatDoor.Base
structure RowT (P : Program) (t e : TypeId) (size bytes : Nat) : Prop where
  ht : P.underlying t = some (.slice e)
  hi : ∃ i z, P.info? e = some i ∧ i.zero = some z ∧ i.size = size ∧ i.bytes = bytes ∧ z.cells.size = size
  pos : 0 < size

structure Feeds (w : World) (A : Option Addr) (m c size : Nat) (news : List Value) : Prop where
  len : news.length = m * size
  got : ∀ a, A = some a → ∀ j u, news[j]? = some u → w.cell? (a.add j) = some u
  zero : A = none → m = 0 ∧ c = 0
  one : ∀ u ∈ news, u.oneCell' = true

theorem Feeds.drew {w : World} {A : Option Addr} {m c size : Nat} {news : List Value} (h : Feeds w A m c size news) : Feeds w.drew A m c size news := ⟨h.len, h.got, h.zero, h.one⟩
theorem Feeds.of_block {w : World} {B : Nat} {cs : Array Value} {t : TypeId} {fr : Nat × Nat} (hb : w.heap[B]? = some (.cells cs t fr)) {m c size : Nat} (hl : cs.toList.length = m * size) (h1 : ∀ u ∈ cs.toList, u.oneCell' = true) : Feeds w (some ⟨B, 0, none⟩) m c size cs.toList :=
  ⟨hl, fun a ha => by cases ha; exact World.news_of_block hb, (fun h => by cases h), h1⟩
theorem Feeds.below {w w' : World} {A : Option Addr} {m c size : Nat} {news : List Value} (h : Feeds w A m c size news) (hb : Below w.heap.size w w') : Feeds w' A m c size news :=
  ⟨h.len, fun a ha j u hu => (hb.cell (by have h1 := World.block_lt_of_cell? w _ (h.got a ha j u hu); exact h1)).trans (h.got a ha j u hu), h.zero, h.one⟩

theorem own_form {w : World} {B : Nat} {e : TypeId} {s : Nat} {v : Value} {n : Nat} {xs : List Value} (h : w.ownsRow B e s v n xs) : ∃ A c, v = .slice A n c := by
  rcases h.2 with ⟨rfl, rfl⟩ | ⟨g, cap, cur, rfl, _⟩
  · exact ⟨_, _, rfl⟩
  · exact ⟨_, _, rfl⟩

theorem run_src {P : Program} (w : World) {t ty e : TypeId} {size bytes : Nat} (ht : RowT P t e size bytes) {base : Nat}
    {v : Value} {n : Nat} {xs : List Value} (hown : w.ownsRow base e size v n xs) {A : Option Addr} {m c : Nat} {news : List Value} (hs : Feeds w A m c size news)
    (h63 : n + m ≤ maxLen) (hbytes : (n + m) * bytes ≤ 140737488355328) (hbase : base ≤ w.heap.size) :
    ∃ A' c' w', (Builtin.append_ #[t, t] ty #[v, .slice A m c]).run P w = .ok (.slice A' (n + m) c') w' ∧ w'.ownsRow base e size (.slice A' (n + m) c') (n + m) (xs ++ news) ∧ w.grownBy w' v.ownBlock := by
  obtain ⟨i, z, hi, hz, hsz, hby, hzs⟩ := ht.hi
  cases A with
  | none =>
    obtain ⟨rfl, rfl⟩ := hs.zero rfl
    have hn : news = [] := List.length_eq_zero_iff.1 (by have := hs.len; omega)
    subst hn
    obtain ⟨A', c', rfl⟩ := own_form hown
    refine ⟨A', c', w, ?_, by simpa using hown, ⟨rfl, rfl, rfl, Nat.le_refl _, fun _ _ _ => rfl⟩⟩
    exact run_append_owned_none (P := P) (w := w) base t ty e i size ht.ht hi _ n xs hown
  | some a =>
    obtain ⟨v', w', hr, h2, h3, _⟩ := run_append_own (P := P) w base t ty e i z size bytes ht.ht hi hz hsz hby hzs ht.pos v n xs hown a m c news hs.len (hs.got a rfl) hs.one h63 hbytes hbase
    obtain ⟨A', c', rfl⟩ := own_form h2
    exact ⟨A', c', w', hr, h2, h3⟩

theorem wp_src {P : Program} {w : World} {o : Oper} {a : Act} {K : Act → World → Prop} {Q : Exit → Act → World → Prop} (s x : Operand) (t : TypeId)
    (ho : o.op = .call { callee := .builtin .append, args := #[s, x], argTypes := #[t, t] })
    {e : TypeId} {size bytes : Nat} (ht : RowT P t e size bytes) {base : Nat} (v : Value) {n : Nat} {xs : List Value} (hv : a.eval s = v) (hown : w.ownsRow base e size v n xs)
    (A : Option Addr) (m c : Nat) {news : List Value} (hx : a.eval x = .slice A m c) (hs : Feeds w A m c size news)
    (h63 : n + m ≤ maxLen) (hbytes : (n + m) * bytes ≤ 140737488355328) (hbase : base ≤ w.heap.size)
    (h : ∀ A' c' w', w'.ownsRow base e size (.slice A' (n + m) c') (n + m) (xs ++ news) → w.grownBy w' v.ownBlock → K (a.put o.dst (.slice A' (n + m) c')) w') : o.wp P a w K Q := by
  obtain ⟨A', c', w', hr, h2, h3⟩ := run_src (P := P) w (ty := o.type) ht hown hs h63 hbytes hbase
  unfold Oper.wp execOp
  simp only [ho, resolve, invoke, builtin, Sem.run_bind, Sem.run_pure, Result.andThen_ok, List.map_toArray, List.map_cons, List.map_nil, hv, hx, hr]
  exact h A' c' w' h2 h3

theorem wpList_src {P : Program} {w : World} {ops : Array Oper} {rest : List Oper} {o : Oper} {a : Act} {Q : Exit → Act → World → Prop} (hgd : o.guard = none) (s x : Operand) (t : TypeId)
    (ho : o.op = .call { callee := .builtin .append, args := #[s, x], argTypes := #[t, t] })
    {e : TypeId} {size bytes : Nat} (ht : RowT P t e size bytes) {base : Nat} (v : Value) {n : Nat} {xs : List Value} (hv : a.eval s = v) (hown : w.ownsRow base e size v n xs)
    (A : Option Addr) (m c : Nat) {news : List Value} (hx : a.eval x = .slice A m c) (hs : Feeds w A m c size news)
    (h63 : n + m ≤ maxLen) (hbytes : (n + m) * bytes ≤ 140737488355328) (hbase : base ≤ w.heap.size)
    (h : ∀ A' c' w', w'.ownsRow base e size (.slice A' (n + m) c') (n + m) (xs ++ news) → w.grownBy w' v.ownBlock → wpList P ops Q rest (a.put o.dst (.slice A' (n + m) c')) w') : wpList P ops Q (o :: rest) a w :=
  wpList_plain hgd fun _ hK => wp_src s x t ho ht v hv hown A m c hx hs h63 hbytes hbase fun A' c' w' h2 h3 => hK _ _ (h A' c' w' h2 h3)

theorem step_src {P : Program} {w : World} {ops : Array Oper} {o : Oper} {a : Act} {K : Act → World → Prop} {Q : Exit → Act → World → Prop} {E : Prop} (hgd : o.guard = none) (s x : Operand) (t : TypeId)
    (ho : o.op = .call { callee := .builtin .append, args := #[s, x], argTypes := #[t, t] })
    {e : TypeId} {size bytes : Nat} (ht : RowT P t e size bytes) {base : Nat} (v : Value) {n : Nat} {xs : List Value} (hv : a.eval s = v) (hown : w.ownsRow base e size v n xs)
    (A : Option Addr) (m c : Nat) {news : List Value} (hx : a.eval x = .slice A m c) (hs : Feeds w A m c size news)
    (h63 : n + m ≤ maxLen) (hbytes : (n + m) * bytes ≤ 140737488355328) (hbase : base ≤ w.heap.size)
    (h : ∀ A' c' w', w'.ownsRow base e size (.slice A' (n + m) c') (n + m) (xs ++ news) → w.grownBy w' v.ownBlock → K (a.put o.dst (.slice A' (n + m) c')) w') :
    if Region.wanted o (yielded ops a.tmps) = true then Oper.wp P o a w K Q else E := by
  have hw : Region.wanted o (yielded ops a.tmps) = true := by simp [Region.wanted, hgd]
  rw [if_pos hw]
  exact wp_src s x t ho ht v hv hown A m c hx hs h63 hbytes hbase h

def KeepT (e : TypeId) (w w' : World) : Prop := ∀ (g : Nat) (cs : Array Value) (fr : Nat × Nat), w.heap[g]? = some (Obj.cells cs e fr) → w'.heap[g]? = some (Obj.cells cs e fr)
theorem KeepT.refl (e : TypeId) (w : World) : KeepT e w w := fun _ _ _ h => h
theorem KeepT.trans {e : TypeId} {a b c : World} (h : KeepT e a b) (k : KeepT e b c) : KeepT e a c := fun g cs fr hg => k g cs fr (h g cs fr hg)
theorem KeepT.drew {e : TypeId} {a b : World} (h : KeepT e a b) : KeepT e a b.drew := h
theorem KeepT.drewN {e : TypeId} {a b : World} (h : KeepT e a b) (n : Nat) : KeepT e a (b.drewN n) := h
theorem KeepT.alloc {e : TypeId} {a b : World} (h : KeepT e a b) (o : Obj) : KeepT e a (b.alloc o) := fun g cs fr hg => blk_alloc (h g cs fr hg) o
theorem KeepT.below {e : TypeId} {a b c : World} (h : KeepT e a b) (hb : Below b.heap.size b c) : KeepT e a c := fun g cs fr hg => (hb.block g (blk_lt (h g cs fr hg))).trans (h g cs fr hg)
theorem KeepT.fr {e : TypeId} {a b c : World} (h : KeepT e a b) (hb : Fr (fun _ => False) b c) : KeepT e a c := fun g cs fr hg => (hb.block g (blk_lt (h g cs fr hg)) (fun h => h)).trans (h g cs fr hg)
theorem own_typ {W : World} {B : Nat} {e : TypeId} {s : Nat} {v : Value} {n : Nat} {xs : List Value} (h : W.ownsRow B e s v n xs) {g : Nat} {cs : Array Value} {t : TypeId} {fr : Nat × Nat} (hb : W.heap[g]? = some (.cells cs t fr)) (hne : e ≠ t) : some g ≠ v.ownBlock := by
  rcases h.2 with ⟨rfl, _⟩ | ⟨g', cap, cur, rfl, _, hh, _⟩
  · simp [Value.ownBlock]
  · intro hk
    simp [Value.ownBlock] at hk
    subst hk
    rw [hh] at hb
    injection hb with hb
    injection hb with _ ht
    exact hne ht
theorem KeepT.grown {e e' : TypeId} {a b c : World} (h : KeepT e a b) {B s : Nat} {v : Value} {n : Nat} {xs : List Value} (ho : b.ownsRow B e' s v n xs) (hg : b.grownBy c v.ownBlock) (hne : e' ≠ e) : KeepT e a c :=
  fun g cs fr hh => (hg.block g (blk_lt (h g cs fr hh)) (own_typ ho (h g cs fr hh) hne)).trans (h g cs fr hh)
theorem KeepT.setCell {e t : TypeId} {a b : World} (h : KeepT e a b) {p : Addr} {cs : Array Value} {fr : Nat × Nat} (hp : b.heap[p.block]? = some (.cells cs t fr)) (hne : t ≠ e) (u : Value) : KeepT e a (b.setCell p u) := fun g ds fs hg => by
  have h1 := h g ds fs hg
  refine blk_far h1 (fun he => ?_) u
  subst he
  rw [hp] at h1
  injection h1 with h1
  injection h1 with _ h2
  exact hne h2
theorem KeepT.own {e : TypeId} {w w' : World} (hk : KeepT e w w') {B s : Nat} {v : Value} {n : Nat} {xs : List Value} (h : w.ownsRow B e s v n xs) : w'.ownsRow B e s v n xs := by
  refine ⟨h.1, ?_⟩
  rcases h.2 with h0 | ⟨g, cap, cur, hv, hb, hh, rest⟩
  · exact .inl h0
  · exact .inr ⟨g, cap, cur, hv, hb, hk g cur (0, 0) hh, rest⟩

theorem below_alloc {a w : World} (h : Below a.heap.size a w) (o : Obj) : Below a.heap.size a (w.alloc o) := h.alloc h.size o
theorem below_step {a b c : World} (h : Below a.heap.size a b) (k : Below b.heap.size b c) : Below a.heap.size a c := h.trans (k.mono h.size)
theorem below_set {a w : World} (h : Below a.heap.size a w) {p : Addr} (hp : a.heap.size ≤ p.block) (u : Value) : Below a.heap.size a (w.setCell p u) := h.setCell hp u
theorem below_own {a b c : World} (h : Below a.heap.size a b) {B : Nat} {e : TypeId} {s : Nat} {v : Value} {n : Nat} {xs : List Value} (ho : b.ownsRow B e s v n xs) (hg : b.grownBy c v.ownBlock) (hB : a.heap.size ≤ B) : Below a.heap.size a c :=
  h.grown hg h.size (fun k hk => by have := ho.lt k hk; omega)
end Go.Proofs.YtbeeaikilcnpgaaGreatDoor.App

namespace Go.Proofs.YtbeeaikilcnpgaaGreatDoor.Byt
open Go.RowKit Go.Proofs.YtbeeaikilcnpgaaGreatDoor.Base
def bcell (b : UInt8) : Value := .int .u8 (b.toNat : Int)
def bcells (xs : List UInt8) : List Value := xs.map bcell

def IsBytes (w : World) (A : Option Addr) (n : Nat) (xs : List UInt8) : Prop :=
  xs.length = n ∧ n ≤ 140737488351232 ∧ (0 < n → ∃ b o, A = some ⟨b, o, none⟩ ∧ ∀ j, j < n → w.cell? ⟨b, o + j, none⟩ = some (bcell (xs.getD j 0)))

theorem IsBytes.drewN {w : World} {A : Option Addr} {n : Nat} {xs : List UInt8} (h : IsBytes w A n xs) (m : Nat) : IsBytes (w.drewN m) A n xs := h
theorem IsBytes.below {w w' : World} {A : Option Addr} {n : Nat} {xs : List UInt8} (h : IsBytes w A n xs) (hb : Below w.heap.size w w') : IsBytes w' A n xs := by
  refine ⟨h.1, h.2.1, fun hn => ?_⟩
  obtain ⟨b, o, rfl, hc⟩ := h.2.2 hn
  exact ⟨b, o, rfl, fun j hj => (hb.cell (World.block_lt_of_cell? w _ (hc j hj))).trans (hc j hj)⟩
theorem IsBytes.fr {w w' : World} {S : Nat → Prop} {A : Option Addr} {n : Nat} {xs : List UInt8} (h : IsBytes w A n xs) (hf : Fr S w w') (hs : ∀ a, A = some a → 0 < n → ¬ S a.block) : IsBytes w' A n xs := by
  refine ⟨h.1, h.2.1, fun hn => ?_⟩
  obtain ⟨b, o, rfl, hc⟩ := h.2.2 hn
  refine ⟨b, o, rfl, fun j hj => ?_⟩
  rw [← hc j hj]
  exact World.cell?_of_block (w := w) (a := ⟨b, o + j, none⟩) (hf.block b (World.block_lt_of_cell? w _ (hc j hj)) (hs _ rfl hn))

theorem addr_add (b o n : Nat) : ((⟨b, o, none⟩ : Addr).add n) = ⟨b, o + n, none⟩ := by unfold Addr.add; split <;> simp_all

theorem fold_push (xs : List UInt8) : ∀ s : ByteArray, (xs.map fun b => ((b.toNat : Nat) : Int)).foldl (fun (r : ByteArray) (n : Int) => r.push (UInt8.ofNat n.toNat)) s = ⟨s.data ++ xs.toArray⟩ := by
  induction xs with
  | nil => intro s; obtain ⟨d⟩ := s; simp
  | cons b xs ih =>
    intro s
    simp only [List.map_cons, List.foldl_cons]
    rw [ih]
    obtain ⟨d⟩ := s
    simp [ByteArray.push]

theorem run_string {P : Program} {w : World} (src dst e : TypeId) (hs : P.underlying src = some (.slice e)) (he : P.underlying e = some (.int .u8)) (hd : P.underlying dst = some .string) {A : Option Addr} {n : Nat} (c : Nat) {xs : List UInt8} (h : IsBytes w A n xs) :
    (convert src dst (.slice A n c)).run P w = .ok (.string ⟨xs.toArray⟩) w := by
  rw [run_convert_bytes_string w src dst e A n c hs he hd]
  cases A with
  | none =>
    have h0 : n = 0 := by
      rcases Nat.eq_zero_or_pos n with h0 | h0
      · exact h0
      · obtain ⟨_, _, h1, _⟩ := h.2.2 h0; cases h1
    have hx : xs = [] := List.length_eq_zero_iff.1 (h.1.trans h0)
    subst hx
    rfl
  | some a =>
    have hl : (loadCells a n).run P w = .ok ((xs.map fun b => ((b.toNat : Nat) : Int)).map (Value.int .u8)).toArray w := by
      rw [run_loadCells w a n (fun j => bcell (xs.getD j 0)) (fun j hj => by
        obtain ⟨b, o, h1, hc⟩ := h.2.2 (by omega)
        cases h1
        rw [addr_add]
        exact hc j hj)]
      congr 2
      apply List.ext_getElem?
      intro j
      have := h.1
      by_cases hj : j < n
      · simp [hj, List.getD, show j < xs.length by omega, bcell]
      · rw [List.getElem?_eq_none (by simp; omega), List.getElem?_eq_none (by simp; omega)]
    rw [run_bytesToString w a n c _ hl, fold_push]
    have e : ByteArray.empty.data ++ xs.toArray = xs.toArray := by show (#[] : Array UInt8) ++ xs.toArray = _; simp
    rw [e]

theorem IsBytes.new (w : World) (xs : List UInt8) (t : TypeId) (h : xs.length ≤ 140737488351232) : IsBytes (w.alloc (.cells (bcells xs).toArray t)) (some ⟨w.heap.size, 0, none⟩) xs.length xs := by
  refine ⟨rfl, h, fun _ => ⟨_, _, rfl, fun j hj => ?_⟩⟩
  rw [blk_cell (blk_new w _)]
  simp [bcells, List.getD, hj]

theorem of_own {w : World} {B : Nat} {t : TypeId} {v : Value} {n : Nat} {xs : List UInt8} (h : w.ownsRow B t 1 v n (bcells xs)) (hn : n ≤ 140737488351232) :
    ∃ A c, v = .slice A n c ∧ IsBytes w A n xs ∧ ∀ a, A = some a → B ≤ a.block ∧ a.block < w.heap.size := by
  have hl : xs.length = n := by have := h.1; simpa [bcells] using this
  rcases h with ⟨_, ⟨rfl, h0⟩ | ⟨g, cap, cur, rfl, hb, hh, hcap, _, hsz, ht⟩⟩
  · exact ⟨none, 0, by rw [h0], ⟨hl, hn, fun hp => by omega⟩, by simp⟩
  · refine ⟨_, cap, rfl, ⟨hl, hn, fun hp => ⟨g, 0, rfl, fun j hj => ?_⟩⟩, fun a ha => by cases ha; exact ⟨hb, blk_lt hh⟩⟩
    rw [Nat.zero_add, blk_cell hh]
    have : (cur.toList.take (n * 1))[j]? = (bcells xs)[j]? := by rw [ht]
    rw [List.getElem?_take, if_pos (by omega), Array.getElem?_toList] at this
    rw [this]
    simp [bcells, List.getD, show j < xs.length by omega]
end Go.Proofs.YtbeeaikilcnpgaaGreatDoor.Byt

namespace Go.Proofs.YtbeeaikilcnpgaaGreatDoor.Exp
structure Vl where
  kind : Int
  int : Int
  text : List UInt8
inductive Ex where
  | mk (kind op : Int) (v : Vl) (table name : List UInt8) (col ty : Int) (args : List Ex)
def Ex.kind : Ex → Int | .mk k _ _ _ _ _ _ _ => k
def Ex.op : Ex → Int | .mk _ o _ _ _ _ _ _ => o
def Ex.v : Ex → Vl | .mk _ _ v _ _ _ _ _ => v
def Ex.table : Ex → List UInt8 | .mk _ _ _ t _ _ _ _ => t
def Ex.name : Ex → List UInt8 | .mk _ _ _ _ n _ _ _ => n
def Ex.col : Ex → Int | .mk _ _ _ _ _ c _ _ => c
def Ex.ty : Ex → Int | .mk _ _ _ _ _ _ t _ => t
def Ex.args : Ex → List Ex | .mk _ _ _ _ _ _ _ a => a
def vNull : Vl := ⟨0, 0, []⟩
def litE (v : Vl) : Ex := .mk 1 0 v [] [] 0 0 []
def colE (t n : List UInt8) : Ex := .mk 2 0 vNull t n 0 0 []
def unE (o : Int) (a : Ex) : Ex := .mk 3 o vNull [] [] 0 0 [a]
def pairE (o : Int) (a b : Ex) : Ex := .mk 4 o vNull [] [] 0 0 [a, b]
def nullE (o : Int) (a : Ex) : Ex := .mk 7 o vNull [] [] 0 0 [a]
def callE (k o : Int) (l : List Ex) : Ex := .mk k o vNull [] [] 0 0 l

def opn (k : Nat) : Nat := if k = 5 then 3 else if k = 6 then 2 else 1
end Go.Proofs.YtbeeaikilcnpgaaGreatDoor.Exp

namespace Go.Proofs.YtbeeaikilcnpgaaGreatDoor.Exp
open Go.Proofs.YtbeeaikilcnpgaaGreatDoor.Lex
abbrev Toks := List (Tk × Nat)
abbrev Res (α : Type) := Except (Nat × Int) (α × Nat)
def stopAt (l : Toks) (i : Nat) : Nat := match l[i]? with
  | some x => x.2
  | none => match l.getLast? with
    | some x => x.2 + 1
    | none => 0
def isT (l : Toks) (i : Nat) (k : Nat) (s : List UInt8) : Bool := match l[i]? with
  | some x => x.1.kind == k && x.1.text == s
  | none => false
def mustT (l : Toks) (i : Nat) (k : Nat) (s : List UInt8) : Except (Nat × Int) Nat := if isT l i k s then .ok (i + 1) else .error (stopAt l i, 20)
abbrev Sg := Nat × List UInt8 × Int
def operT : List Sg → Toks → Nat → Option Int
  | [], _, _ => none
  | x :: r, l, i => if isT l i x.1 x.2.1 then some x.2.2 else operT r l i
def sgOr : List Sg := [(1, [111, 114], 3)]
def sgAnd : List Sg := [(1, [97, 110, 100], 4)]
def sgCat : List Sg := [(5, [124, 124], 16)]
def sgSum : List Sg := [(5, [43], 11), (5, [45], 12)]
def sgProd : List Sg := [(5, [42], 13), (5, [47], 14), (5, [37], 15)]
def sgTest : List Sg := [(5, [61], 5), (5, [60, 62], 6), (5, [60], 7), (5, [60, 61], 8), (5, [62], 9), (5, [62, 61], 10)]
def chainL (ops : List Sg) (f : Nat → Res Ex) (l : Toks) : Nat → Ex → Nat → Res Ex
  | 0, e, i => .ok (e, i)
  | n + 1, e, i => match operT ops l i with
    | none => .ok (e, i)
    | some o => match f (i + 1) with
      | .error x => .error x
      | .ok (x, j) => chainL ops f l n (pairE o e x) j
def chainP (ops : List Sg) (f : Nat → Res Ex) (l : Toks) (i : Nat) : Res Ex := match f i with
  | .error x => .error x
  | .ok (e, j) => chainL ops f l (l.length - j) e j
def funT (s : List UInt8) : Option (Int × Int × Nat) :=
  if s = [108, 101, 110, 103, 116, 104] then some (5, 1, 1)
  else if s = [97, 98, 115] then some (5, 2, 1)
  else if s = [117, 112, 112, 101, 114] then some (5, 3, 1)
  else if s = [108, 111, 119, 101, 114] then some (5, 4, 1)
  else if s = [115, 117, 98, 115, 116, 114] then some (5, 5, 3)
  else if s = [99, 111, 97, 108, 101, 115, 99, 101] then some (5, 6, 2)
  else if s = [99, 111, 117, 110, 116] then some (6, 1, 1)
  else if s = [115, 117, 109] then some (6, 2, 1)
  else if s = [109, 105, 110] then some (6, 3, 1)
  else if s = [109, 97, 120] then some (6, 4, 1)
  else none
structure PF where
  or : Nat → Res Ex
  not : Nat → Res Ex
  sign : Nat → Res Ex
section
variable (nm : List UInt8 → Bool) (l : Toks) (sub : Option PF)
def nameT (i : Nat) : Res (List UInt8) := match l[i]? with
  | some x => if x.1.kind = 1 ∧ nm x.1.text = true then .ok (x.1.text, i + 1) else .error (stopAt l i, 20)
  | none => .error (stopAt l i, 20)
def argsL (p : PF) : Nat → List Ex → Nat → Res (List Ex)
  | 0, es, i => .ok (es, i)
  | n + 1, es, i => match mustT l i 5 [44] with
    | .error x => .error x
    | .ok j => match p.or j with
      | .error x => .error x
      | .ok (e, k) => argsL p n (es ++ [e]) k
def argsP (p : PF) (n : Nat) (i : Nat) : Res (List Ex) := match p.or i with
  | .error x => .error x
  | .ok (e, j) => argsL l p (n - 1) [e] j
def callP (f : Int × Int × Nat) (i : Nat) : Res Ex := match sub with
  | none => .error (stopAt l i, 21)
  | some p =>
    if f.1 = 6 ∧ f.2.1 = 1 ∧ isT l (i + 1) 5 [42] = true then
      match mustT l (i + 2) 5 [41] with
      | .error x => .error x
      | .ok j => .ok (callE f.1 f.2.1 [], j)
    else match argsP l p f.2.2 (i + 1) with
      | .error x => .error x
      | .ok (es, j) => match mustT l j 5 [41] with
        | .error x => .error x
        | .ok k => .ok (callE f.1 f.2.1 es, k)
def colP (i : Nat) : Res Ex := match nameT nm l i with
  | .error x => .error x
  | .ok (n, j) =>
    if isT l j 5 [46] then
      match nameT nm l (j + 1) with
      | .error x => .error x
      | .ok (m, k) => .ok (colE n m, k)
    else .ok (colE [] n, j)
def wordP (s : List UInt8) (i : Nat) : Res Ex :=
  if s = [110, 117, 108, 108] then .ok (litE vNull, i + 1)
  else if s = [116, 114, 117, 101] then .ok (litE ⟨1, 1, []⟩, i + 1)
  else if s = [102, 97, 108, 115, 101] then .ok (litE ⟨1, 0, []⟩, i + 1)
  else match funT s with
    | some f => if isT l (i + 1) 5 [40] then callP l sub f (i + 1) else colP nm l i
    | none => colP nm l i
def brackP (i : Nat) : Res Ex := match sub with
  | none => .error (stopAt l i, 21)
  | some p => match p.or (i + 1) with
    | .error x => .error x
    | .ok (e, j) => match mustT l j 5 [41] with
      | .error x => .error x
      | .ok k => .ok (e, k)
def itemP (i : Nat) : Res Ex := match l[i]? with
  | none => .error (stopAt l i, 20)
  | some x =>
    if x.1.kind = 2 then .ok (litE ⟨2, x.1.num, []⟩, i + 1)
    else if x.1.kind = 3 then .ok (litE ⟨3, 0, x.1.text⟩, i + 1)
    else if x.1.kind = 4 then .ok (litE ⟨4, 0, x.1.text⟩, i + 1)
    else if x.1.kind = 1 then wordP nm l sub x.1.text i
    else if isT l i 5 [40] then brackP l sub i
    else .error (stopAt l i, 20)
def signP (i : Nat) : Res Ex :=
  if isT l i 5 [45] then match sub with
    | none => .error (stopAt l i, 21)
    | some p => match p.sign (i + 1) with
      | .error x => .error x
      | .ok (e, j) => .ok (unE 1 e, j)
  else itemP nm l sub i
def prodP (i : Nat) : Res Ex := chainP sgProd (signP nm l sub) l i
def sumP (i : Nat) : Res Ex := chainP sgSum (prodP nm l sub) l i
def catP (i : Nat) : Res Ex := chainP sgCat (sumP nm l sub) l i
def testP (i : Nat) : Res Ex := match catP nm l sub i with
  | .error x => .error x
  | .ok (e, j) =>
    if isT l j 1 [105, 115] then
      match mustT l (if isT l (j + 1) 1 [110, 111, 116] then j + 2 else j + 1) 1 [110, 117, 108, 108] with
      | .error x => .error x
      | .ok k => .ok (nullE (if isT l (j + 1) 1 [110, 111, 116] then 1 else 0) e, k)
    else match operT sgTest l j with
      | none => .ok (e, j)
      | some o => match catP nm l sub (j + 1) with
        | .error x => .error x
        | .ok (x, k) => .ok (pairE o e x, k)
def notP (i : Nat) : Res Ex :=
  if isT l i 1 [110, 111, 116] then match sub with
    | none => .error (stopAt l i, 21)
    | some p => match p.not (i + 1) with
      | .error x => .error x
      | .ok (e, j) => .ok (unE 2 e, j)
  else testP nm l sub i
def andP (i : Nat) : Res Ex := chainP sgAnd (notP nm l sub) l i
def orP (i : Nat) : Res Ex := chainP sgOr (andP nm l sub) l i
def layerP : PF := ⟨orP nm l sub, notP nm l sub, signP nm l sub⟩
end
def readF (nm : List UInt8 → Bool) (l : Toks) : Nat → PF
  | 0 => layerP nm l none
  | k + 1 => layerP nm l (some (readF nm l k))
def subF (nm : List UInt8 → Bool) (l : Toks) : Nat → Option PF
  | 0 => none
  | k + 1 => some (readF nm l k)
theorem readF_eq (nm : List UInt8 → Bool) (l : Toks) : ∀ k, readF nm l k = layerP nm l (subF nm l k)
  | 0 => rfl
  | k + 1 => rfl

def Ahd (f : Nat → Res Ex) : Prop := ∀ i e j, f i = .ok (e, j) → i < j
theorem isT_lt {l : Toks} {i k : Nat} {s : List UInt8} (h : isT l i k s = true) : i < l.length := by
  unfold isT at h
  cases hx : l[i]? with
  | none => rw [hx] at h; cases h
  | some x => exact (List.getElem?_eq_some_iff.mp hx).1
theorem operT_lt {l : Toks} {i : Nat} : ∀ {ops : List Sg} {o : Int}, operT ops l i = some o → i < l.length
  | [], o, h => by cases h
  | x :: r, o, h => by
    rw [operT] at h
    split at h
    · rename_i hx; exact isT_lt hx
    · exact operT_lt h
theorem mustT_ok {l : Toks} {i k : Nat} {s : List UInt8} {j : Nat} (h : mustT l i k s = .ok j) : isT l i k s = true ∧ j = i + 1 := by
  unfold mustT at h
  split at h
  · rename_i hx; injection h with h; exact ⟨hx, h.symm⟩
  · cases h
theorem chainL_ge {ops : List Sg} {f : Nat → Res Ex} {l : Toks} (hf : Ahd f) : ∀ (n : Nat) (e : Ex) (i : Nat) (x : Ex) (j : Nat), chainL ops f l n e i = .ok (x, j) → i ≤ j
  | 0, e, i, x, j, h => by rw [chainL] at h; injection h with h; injection h with _ h; omega
  | n + 1, e, i, x, j, h => by
    rw [chainL] at h
    split at h
    · injection h with h; injection h with _ h; omega
    · split at h
      · cases h
      · rename_i y k hk
        have h1 := hf _ _ _ hk
        have h2 := chainL_ge hf n _ _ _ _ h
        omega
theorem chainP_ahd {ops : List Sg} {f : Nat → Res Ex} {l : Toks} (hf : Ahd f) : Ahd (chainP ops f l) := by
  intro i e j h
  unfold chainP at h
  split at h
  · cases h
  · rename_i y k hk
    have h1 := hf _ _ _ hk
    have h2 := chainL_ge hf _ _ _ _ _ h
    omega
structure Ahds (p : PF) : Prop where
  or : Ahd p.or
  not : Ahd p.not
  sign : Ahd p.sign
theorem argsL_ge {l : Toks} {p : PF} (hp : Ahds p) : ∀ (n : Nat) (es : List Ex) (i : Nat) (x : List Ex) (j : Nat), argsL l p n es i = .ok (x, j) → i ≤ j
  | 0, es, i, x, j, h => by rw [argsL] at h; injection h with h; injection h with _ h; omega
  | n + 1, es, i, x, j, h => by
    rw [argsL] at h
    split at h
    · cases h
    · rename_i a ha
      have h0 := (mustT_ok ha).2
      split at h
      · cases h
      · rename_i y k hk
        have h1 := hp.or _ _ _ hk
        have h2 := argsL_ge hp n _ _ _ _ h
        omega
theorem nameT_ok {nm : List UInt8 → Bool} {l : Toks} {i : Nat} {s : List UInt8} {j : Nat} (h : nameT nm l i = .ok (s, j)) : j = i + 1 := by
  unfold nameT at h
  split at h
  · split at h
    · injection h with h; injection h with _ h; omega
    · cases h
  · cases h
section
variable {nm : List UInt8 → Bool} {l : Toks} {sub : Option PF}
theorem callP_ahd (hs : ∀ p, sub = some p → Ahds p) (f : Int × Int × Nat) : Ahd (callP l sub f) := by
  intro i e j h
  unfold callP at h
  split at h
  · cases h
  · rename_i p
    have hp := hs p rfl
    split at h
    · split at h
      · cases h
      · rename_i a ha
        have := (mustT_ok ha).2
        injection h with h; injection h with _ h; omega
    · split at h
      · cases h
      · rename_i es k hk
        split at h
        · cases h
        · rename_i a ha
          have h0 := (mustT_ok ha).2
          injection h with h; injection h with _ h
          unfold argsP at hk
          split at hk
          · cases hk
          · rename_i y m hm
            have h1 := hp.or _ _ _ hm
            have h2 := argsL_ge hp _ _ _ _ _ hk
            omega
theorem colP_ahd : Ahd (colP nm l) := by
  intro i e j h
  unfold colP at h
  split at h
  · cases h
  · rename_i n k hk
    have h0 := nameT_ok hk
    split at h
    · split at h
      · cases h
      · rename_i m q hq
        have h1 := nameT_ok hq
        injection h with h; injection h with _ h; omega
    · injection h with h; injection h with _ h; omega
theorem wordP_ahd (hs : ∀ p, sub = some p → Ahds p) (s : List UInt8) : Ahd (wordP nm l sub s) := by
  intro i e j h
  unfold wordP at h
  split at h
  · injection h with h; injection h with _ h; omega
  · split at h
    · injection h with h; injection h with _ h; omega
    · split at h
      · injection h with h; injection h with _ h; omega
      · split at h
        · split at h
          · have := callP_ahd hs _ _ _ _ h; omega
          · exact colP_ahd _ _ _ h
        · exact colP_ahd _ _ _ h
theorem itemP_ahd (hs : ∀ p, sub = some p → Ahds p) : Ahd (itemP nm l sub) := by
  intro i e j h
  unfold itemP at h
  split at h
  · cases h
  · split at h
    · injection h with h; injection h with _ h; omega
    · split at h
      · injection h with h; injection h with _ h; omega
      · split at h
        · injection h with h; injection h with _ h; omega
        · split at h
          · exact wordP_ahd hs _ _ _ _ h
          · split at h
            · unfold brackP at h
              split at h
              · cases h
              · rename_i p
                split at h
                · cases h
                · rename_i y k hk
                  have h1 := (hs p rfl).or _ _ _ hk
                  split at h
                  · cases h
                  · rename_i a ha
                    have h2 := (mustT_ok ha).2
                    injection h with h; injection h with _ h; omega
            · cases h
theorem signP_ahd (hs : ∀ p, sub = some p → Ahds p) : Ahd (signP nm l sub) := by
  intro i e j h
  unfold signP at h
  split at h
  · split at h
    · cases h
    · rename_i p
      split at h
      · cases h
      · rename_i y k hk
        have h1 := (hs p rfl).sign _ _ _ hk
        injection h with h; injection h with _ h; omega
  · exact itemP_ahd hs _ _ _ h
theorem prodP_ahd (hs : ∀ p, sub = some p → Ahds p) : Ahd (prodP nm l sub) := chainP_ahd (signP_ahd hs)
theorem sumP_ahd (hs : ∀ p, sub = some p → Ahds p) : Ahd (sumP nm l sub) := chainP_ahd (prodP_ahd hs)
theorem catP_ahd (hs : ∀ p, sub = some p → Ahds p) : Ahd (catP nm l sub) := chainP_ahd (sumP_ahd hs)
theorem testP_ahd (hs : ∀ p, sub = some p → Ahds p) : Ahd (testP nm l sub) := by
  intro i e j h
  unfold testP at h
  split at h
  · cases h
  · rename_i y k hk
    have h1 := catP_ahd hs _ _ _ hk
    split at h
    · split at h
      · cases h
      · rename_i a ha
        have h2 := (mustT_ok ha).2
        injection h with h; injection h with _ h
        split at h2 <;> omega
    · split at h
      · injection h with h; injection h with _ h; omega
      · split at h
        · cases h
        · rename_i z m hm
          have h2 := catP_ahd hs _ _ _ hm
          injection h with h; injection h with _ h; omega
theorem notP_ahd (hs : ∀ p, sub = some p → Ahds p) : Ahd (notP nm l sub) := by
  intro i e j h
  unfold notP at h
  split at h
  · split at h
    · cases h
    · rename_i p
      split at h
      · cases h
      · rename_i y k hk
        have h1 := (hs p rfl).not _ _ _ hk
        injection h with h; injection h with _ h; omega
  · exact testP_ahd hs _ _ _ h
theorem andP_ahd (hs : ∀ p, sub = some p → Ahds p) : Ahd (andP nm l sub) := chainP_ahd (notP_ahd hs)
theorem orP_ahd (hs : ∀ p, sub = some p → Ahds p) : Ahd (orP nm l sub) := chainP_ahd (andP_ahd hs)
end
theorem readF_ahd (nm : List UInt8 → Bool) (l : Toks) : ∀ k, Ahds (readF nm l k)
  | 0 => ⟨orP_ahd (fun p h => by cases h), notP_ahd (fun p h => by cases h), signP_ahd (fun p h => by cases h)⟩
  | k + 1 => ⟨orP_ahd (fun p h => by cases h; exact readF_ahd nm l k), notP_ahd (fun p h => by cases h; exact readF_ahd nm l k), signP_ahd (fun p h => by cases h; exact readF_ahd nm l k)⟩
theorem subF_ahd (nm : List UInt8 → Bool) (l : Toks) (k : Nat) : ∀ p, subF nm l k = some p → Ahds p := by
  intro p h
  cases k with
  | zero => cases h
  | succ k => cases h; exact readF_ahd nm l k
end Go.Proofs.YtbeeaikilcnpgaaGreatDoor.Exp

namespace Go.Proofs.YtbeeaikilcnpgaaGreatDoor.Lex
def quote1 (c : UInt8) : List UInt8 := if c = 39 then [39, 39] else [c]
def quotes (l : List UInt8) : List UInt8 := l.flatMap quote1
theorem quotes_cons (c : UInt8) (l : List UInt8) : quotes (c :: l) = quote1 c ++ quotes l := rfl
theorem quotes_append (a b : List UInt8) : quotes (a ++ b) = quotes a ++ quotes b := by simp [quotes]
theorem quotes_len (s : List UInt8) : (quotes s).length ≤ 2 * s.length := by
  induction s with
  | nil => simp [quotes]
  | cons c s ih =>
    rw [quotes_cons, List.length_append, List.length_cons]
    have : (quote1 c).length ≤ 2 := by unfold quote1; split <;> simp
    omega
theorem str_cat (a b : List UInt8) : (⟨a.toArray⟩ : ByteArray) ++ (⟨b.toArray⟩ : ByteArray) = ⟨(a ++ b).toArray⟩ := by
  apply ByteArray.ext
  simp [ByteArray.data_append]
end Go.Proofs.YtbeeaikilcnpgaaGreatDoor.Lex

namespace Go.Proofs.YtbeeaikilcnpgaaGreatDoor.Eqs
open Go.RowKit
section
variable {P : Program} {d : Nat} {xs ys : Array Value} {f : Field} {fs : List Field} {a b : Value} {r s : Bool} {w : World}
theorem f_last (hn : (f.name == "_") = false) (ha : (part f.type xs f.offset).run P w = .ok a w) (hb : (part f.type ys f.offset).run P w = .ok b w) (he : (Op.equalIn d f.type a b).run P w = .ok r w) : (Op.eqFields d xs ys [f]).run P w = .ok r w := by
  have hn' : f.name ≠ "_" := by simpa using hn
  simp only [Op.eqFields, if_pos hn', Sem.run_bind, ha, hb, he, Result.andThen_ok]
  cases r <;> simp
theorem f_cons (hn : (f.name == "_") = false) (ha : (part f.type xs f.offset).run P w = .ok a w) (hb : (part f.type ys f.offset).run P w = .ok b w) (he : (Op.equalIn d f.type a b).run P w = .ok r w) (hr : (Op.eqFields d xs ys fs).run P w = .ok s w) : (Op.eqFields d xs ys (f :: fs)).run P w = .ok (r && s) w := by
  have hn' : f.name ≠ "_" := by simpa using hn
  rw [Op.eqFields]
  simp only [if_pos hn', Sem.run_bind, ha, hb, he, Result.andThen_ok]
  cases r
  · simp
  · simpa using hr
theorem s_of {t : TypeId} {fs : Array Field} (hu : P.underlying t = some (.struct fs)) (hp : P.stoodInHeld t = false) (h : (Op.eqFields d xs ys fs.toList).run P w = .ok r w) : (Op.equalIn (d + 1) t (.agg xs) (.agg ys)).run P w = .ok r w := by
  have hf : P.fieldsOf t = fs := by simp [Program.fieldsOf, hu]
  rw [run_equalIn_struct (P := P) w d t xs ys (by rw [hf]; exact hu) hp, hf]
  exact h
theorem op_eql {t : TypeId} (h : ∀ d, (Op.equalIn (d + 2) t (.agg xs) (.agg ys)).run P w = .ok r w) : (binOp .eql t (.agg xs) (.agg ys)).run P w = .ok (.bool r) w := by
  simp only [binOp]
  simp [Op.equal, Op.maxDepth, h 9998]
theorem op_neq {t : TypeId} (h : ∀ d, (Op.equalIn (d + 2) t (.agg xs) (.agg ys)).run P w = .ok r w) : (binOp .neq t (.agg xs) (.agg ys)).run P w = .ok (.bool (!r)) w := by
  simp only [binOp]
  simp [Op.equal, Op.maxDepth, h 9998]
end
end Go.Proofs.YtbeeaikilcnpgaaGreatDoor.Eqs

namespace Go.Proofs.YtbeeaikilcnpgaaGreatDoor.Lex
open Go.RowKit Go.Proofs.YtbeeaikilcnpgaaGreatDoor.Base
theorem nonempty (s : ByteArray) (h : 0 < s.size) : ¬ s.toList = [] := by
  intro h2
  have h3 : s.data.toList.length = s.size := rfl
  rw [← Lib.toList_data, h2] at h3
  simp only [List.length_nil] at h3
  omega


theorem of_list {s : ByteArray} {l : List UInt8} (h : s.toList = l) : s = ⟨l.toArray⟩ := by
  obtain ⟨⟨d⟩⟩ := s
  rw [Lib.toList_data] at h
  simp only at h
  rw [h]

theorem blk_below {W W' : World} {g : Nat} {o : Obj} (hb : Below W.heap.size W W') (h : W.heap[g]? = some o) : W'.heap[g]? = some o := (hb.block g (blk_lt h)).trans h
theorem val_in (d : Nat) (w : World) (x0 y0 : Int) (x1 y1 : Int) (x2 y2 : ByteArray) :
    (Op.equalIn (d + 2) 23 (.agg #[.int .i64 x0, .int .i64 x1, .string x2]) (.agg #[.int .i64 y0, .int .i64 y1, .string y2])).run Tryz.prog w = .ok (x0 == y0 && (x1 == y1 && (x2.toList == y2.toList))) w := by
  refine Eqs.s_of Tryz.underlying23 (by kernel_rfl) ?_
  refine Eqs.f_cons (by rfl) (by go_simp; rfl) (by go_simp; rfl) (by go_simp) ?_
  refine Eqs.f_cons (by rfl) (by go_simp; rfl) (by go_simp; rfl) (by go_simp) ?_
  exact Eqs.f_last (by rfl) (by go_simp; rfl) (by go_simp; rfl) (by go_simp)
end Go.Proofs.YtbeeaikilcnpgaaGreatDoor.Lex

namespace Go.Proofs
open Go.Shelf
def Tryz.lays167_ren : Go.Shelf.Ren := ⟨fun | 167 => 91 | 240 => 109 | 276 => 125 | n => n, fun | 0 => 0 | 4 => 4 | 5 => 5 | 9 => 9 | 20 => 20 | 37 => 81 | 70 => 122 | 72 => 124 | 75 => 62 | 164 => 150 | 80 => 126 | n => n, fun | n => n⟩
theorem Tryz.lays167 : Go.Proofs.Lays.n167 Tryz.prog Tryz.lays167_ren := {
  mixed := by kernel_rfl
  f167 := Tryz.func91.trans (congrArg some (by kernel_rfl))
  f240 := Tryz.func109.trans (congrArg some (by kernel_rfl))
  f276 := Tryz.func125.trans (congrArg some (by kernel_rfl))
  t0 := Tryz.underlying0
  a0 := Tryz.isAgg0
  z0 := Tryz.sizeOf0
  v0 := Tryz.zeroValue0
  t4 := Tryz.underlying4
  a4 := Tryz.isAgg4
  z4 := Tryz.sizeOf4
  v4 := Tryz.zeroValue4
  t5 := Tryz.underlying5
  a5 := Tryz.isAgg5
  z5 := Tryz.sizeOf5
  v5 := Tryz.zeroValue5
  t9 := Tryz.underlying9
  a9 := Tryz.isAgg9
  z9 := Tryz.sizeOf9
  v9 := Tryz.zeroValue9
  t20 := Tryz.underlying20
  a20 := Tryz.isAgg20
  z20 := Tryz.sizeOf20
  v20 := Tryz.zeroValue20
  t37 := Tryz.underlying81
  a37 := Tryz.isAgg81
  z37 := Tryz.sizeOf81
  v37 := Tryz.zeroValue81
  t70 := Tryz.underlying122
  a70 := Tryz.isAgg122
  z70 := Tryz.sizeOf122
  v70 := Tryz.zeroValue122
  t72 := Tryz.underlying124
  a72 := Tryz.isAgg124
  z72 := Tryz.sizeOf124
  v72 := Tryz.zeroValue124
  t75 := Tryz.underlying62
  a75 := Tryz.isAgg62
  z75 := Tryz.sizeOf62
  v75 := Tryz.zeroValue62
  t164 := Tryz.underlying150
  a164 := Tryz.isAgg150
  z164 := Tryz.sizeOf150
  v164 := Tryz.zeroValue150 }
theorem Tryz.Builder_Extra_167 : Builder.Extra Tryz.prog Tryz.lays167_ren := {
  sizeBuilder := by kernel_rfl
  liesBuilder := by kernel_rfl
  t5 := Tryz.underlying5
  a5 := Tryz.isAgg5
  z5 := Tryz.sizeOf5
  v5 := Tryz.zeroValue5
  infoByte := by kernel_rfl
  cellsByte := by kernel_rfl
  sizeByte := by kernel_rfl
  neB5 := by decide }
open Go.RowKit in
theorem Tryz.Builder_WriteByte (B b : Nat) (bs : List Value) (c : Int) (w : World) (h : Lib.IsBuilder 124 5 B b bs w) (hlen : bs.length + 1 ≤ 140737488355328) (hBw : B ≤ w.heap.size) :
    Calls Tryz.prog 91 #[.pointer (some ⟨b, 0, none⟩), .int .u8 c] w fun e w' => e = .returned .nilIface ∧ (Lib.BuilderAt 124 5 B b (.pointer (some ⟨b, 0, none⟩)) (bs ++ [.int .u8 c]) w' ∧ Below B w w') := Any.Builder_WriteByte Tryz.lays167 Tryz.Builder_Extra_167 B b bs c w h hlen hBw
end Go.Proofs



namespace Go.Proofs.YtbeeaikilcnpgaaGreatDoor.Lex
open Go.RowKit Go.Proofs.YtbeeaikilcnpgaaGreatDoor.Base Go.Proofs.YtbeeaikilcnpgaaGreatDoor.App
theorem shaped_below {w w' : World} (h : w.ShapedOpen Tryz.prog) (hb : Below w.heap.size w w') : w'.ShapedOpen Tryz.prog := h.keptBut (hb.frame (fun _ => False)) (fun _ h => h.elim)
def litText (s : List UInt8) : List UInt8 := 39 :: (quotes s ++ [39])
def hexB (n : Nat) : UInt8 := if n < 10 then UInt8.ofNat (48 + n) else UInt8.ofNat (55 + n)
def hexs (l : List UInt8) : List UInt8 := l.flatMap fun c => [hexB (c.toNat / 16), hexB (c.toNat % 16)]
def litBlob (s : List UInt8) : List UInt8 := 88 :: 39 :: (hexs s ++ [39])

theorem hexs_snoc (l : List UInt8) (c : UInt8) : hexs (l ++ [c]) = hexs l ++ [hexB (c.toNat / 16), hexB (c.toNat % 16)] := by simp [hexs]
theorem take_snoc (s : ByteArray) (k : Nat) (h : k < s.size) : s.data.toList.take (k + 1) = s.data.toList.take k ++ [s[k]] := by
  rw [List.take_succ_eq_append_getElem (by simpa using h)]; rfl
theorem hex_at : ∀ n : Nat, (h : n < 16) → (⟨#[48, 49, 50, 51, 52, 53, 54, 55, 56, 57, 65, 66, 67, 68, 69, 70]⟩ : ByteArray)[n]'(h) = hexB n
  | 0, _ => rfl | 1, _ => rfl | 2, _ => rfl | 3, _ => rfl | 4, _ => rfl | 5, _ => rfl | 6, _ => rfl | 7, _ => rfl
  | 8, _ => rfl | 9, _ => rfl | 10, _ => rfl | 11, _ => rfl | 12, _ => rfl | 13, _ => rfl | 14, _ => rfl | 15, _ => rfl
  | n + 16, h => absurd h (by omega)
theorem hexs_len (l : List UInt8) : (hexs l).length = 2 * l.length := by
  induction l with
  | nil => rfl
  | cons c l ih =>
    simp only [hexs, List.flatMap_cons, List.length_append, List.length_cons, List.length_nil] at ih ⊢
    omega
theorem byteCells_len (l : List UInt8) : (Lib.byteCells l).length = l.length := by simp [Lib.byteCells]
theorem byteCells_snoc (l : List UInt8) (c : UInt8) : Lib.byteCells (l ++ [c]) = Lib.byteCells l ++ [.int .u8 c.toNat] := by simp [Lib.byteCells]
theorem bld_fresh (w : World) : Lib.IsBuilder 124 5 w.heap.size w.heap.size [] (w.alloc (.cells #[.pointer none, .slice none 0 0] 124)) :=
  .inl ⟨Nat.le_refl _, .slice none 0 0, blk_new _ _, World.ownsRow_nil _ _ _ _, by simp [Value.ownBlock]⟩
end Go.Proofs.YtbeeaikilcnpgaaGreatDoor.Lex

namespace Go.Proofs.YtbeeaikilcnpgaaGreatDoor.Lex
open Go.RowKit Go.Proofs.YtbeeaikilcnpgaaGreatDoor.Base Go.Proofs.YtbeeaikilcnpgaaGreatDoor.App Go.Proofs.YtbeeaikilcnpgaaGreatDoor.Byt
theorem letN_t {n : Nat} (h : (97 ≤ n ∧ n ≤ 122) ∨ (65 ≤ n ∧ n ≤ 90) ∨ n = 95) : letN n = true := by simp [letN]; omega
theorem letN_f {n : Nat} (h : ¬ ((97 ≤ n ∧ n ≤ 122) ∨ (65 ≤ n ∧ n ≤ 90) ∨ n = 95)) : letN n = false := by simp [letN]; omega
set_option maxRecDepth 100000 in
theorem letter_calls (n : Nat) (hn : n < 256) (w : World) : Calls Tryz.prog 73 #[.int .u8 (n : Int)] w fun e w' => e = .returned (.bool (letN n)) ∧ w' = w := by
  rcases (show n < 65 ∨ (65 ≤ n ∧ n ≤ 90) ∨ (90 < n ∧ n < 95) ∨ n = 95 ∨ n = 96 ∨ (97 ≤ n ∧ n ≤ 122) ∨ 122 < n by omega) with h | h | h | rfl | rfl | h | h
  · have HR := Asd.mk (letN_f (n := n) (by omega))
    go_enter Tryz.func73, Tryz.ntmps73
    go_wp2
    go_ret
    exact ⟨ret_eq (by rw [HR.out]; first | rfl | (simp; done) | (simp; omega)), rfl⟩
  · have HR := Asd.mk (letN_t (n := n) (by omega))
    go_enter Tryz.func73, Tryz.ntmps73
    go_wp2
    go_ret
    exact ⟨ret_eq (by rw [HR.out]; first | rfl | (simp; done) | (simp; omega)), rfl⟩
  · have HR := Asd.mk (letN_f (n := n) (by omega))
    go_enter Tryz.func73, Tryz.ntmps73
    go_wp2
    go_ret
    exact ⟨ret_eq (by rw [HR.out]; first | rfl | (simp; done) | (simp; omega)), rfl⟩
  · go_enter Tryz.func73, Tryz.ntmps73
    go_wp2
    go_ret
    exact ⟨ret_eq rfl, rfl⟩
  · go_enter Tryz.func73, Tryz.ntmps73
    go_wp2
    go_ret
    exact ⟨ret_eq rfl, rfl⟩
  · have HR := Asd.mk (letN_t (n := n) (by omega))
    go_enter Tryz.func73, Tryz.ntmps73
    go_wp2
    go_ret
    exact ⟨ret_eq (by rw [HR.out]; first | rfl | (simp; done) | (simp; omega)), rfl⟩
  · have HR := Asd.mk (letN_f (n := n) (by omega))
    go_enter Tryz.func73, Tryz.ntmps73
    go_wp2
    go_ret
    exact ⟨ret_eq (by rw [HR.out]; first | rfl | (simp; done) | (simp; omega)), rfl⟩
theorem digit_calls (n : Nat) (hn : n < 256) (w : World) : Calls Tryz.prog 76 #[.int .u8 (n : Int)] w fun e w' => e = .returned (.bool (digN n)) ∧ w' = w := by
  rcases (show n < 48 ∨ (48 ≤ n ∧ n ≤ 57) ∨ 57 < n by omega) with h | h | h
  · have HR : Asd (digN n = false) := Asd.mk (by simp [digN]; omega)
    go_enter Tryz.func76, Tryz.ntmps76
    go_wp2
    go_ret
    exact ⟨ret_eq (by rw [HR.out]; first | rfl | (simp; done) | (simp; omega)), rfl⟩
  · have HR : Asd (digN n = true) := Asd.mk (by simp [digN]; omega)
    go_enter Tryz.func76, Tryz.ntmps76
    go_wp2
    go_ret
    exact ⟨ret_eq (by rw [HR.out]; first | rfl | (simp; done) | (simp; omega)), rfl⟩
  · have HR : Asd (digN n = false) := Asd.mk (by simp [digN]; omega)
    go_enter Tryz.func76, Tryz.ntmps76
    go_wp2
    go_ret
    exact ⟨ret_eq (by rw [HR.out]; first | rfl | (simp; done) | (simp; omega)), rfl⟩
theorem word_calls (n : Nat) (hn : n < 256) (w : World) : Calls Tryz.prog 75 #[.int .u8 (n : Int)] w fun e w' => e = .returned (.bool (letN n || digN n)) ∧ w' = w := by
  go_enter Tryz.func75, Tryz.ntmps75
  go_wp2_with fail
  refine (letter_calls n hn _).mono ?_
  rintro e w' ⟨rfl, rfl⟩
  cases hp : letN n with
  | true =>
    have HP := Asd.mk hp
    clear hp
    go_wp2
    go_ret
    exact ⟨ret_eq (by rw [HP.out]; rfl), rfl⟩
  | false =>
    go_wp2_with fail
    refine (digit_calls n hn _).mono ?_
    rintro e w' ⟨rfl, rfl⟩
    have HP := Asd.mk hp
    clear hp
    go_wp2
    go_ret
    exact ⟨ret_eq (by rw [HP.out]; rfl), rfl⟩
theorem drop_cons (s : ByteArray) (k : Nat) (h : k < s.size) : s.data.toList.drop k = s[k] :: s.data.toList.drop (k + 1) := by
  rw [List.drop_eq_getElem_cons (by simpa using h)]; rfl

def lowF (l : List UInt8) (k j : Nat) : UInt8 := if j < k then lowB (l.getD j 0) else l.getD j 0
def LowSt (w : World) (b : Nat) (l : List UInt8) (k : Nat) : Prop :=
  ∃ (cs : Array Value) (N : Nat), l.length ≤ N ∧ w.heap[b]? = some (.cells cs 5 (N, N + 1)) ∧ l.length ≤ cs.size ∧ ∀ j, j < l.length → cs[j]? = some (bcell (lowF l k j))
theorem LowSt.cell {w : World} {b : Nat} {l : List UInt8} {k : Nat} (h : LowSt w b l k) (j : Nat) (hj : j < l.length) : w.cell? ⟨b, j, none⟩ = some (bcell (lowF l k j)) ∧ w.frozen? ⟨b, j, none⟩ = false := by
  obtain ⟨cs, N, hN, hb, hs, hc⟩ := h
  refine ⟨(blk_cell hb j).trans (hc j hj), ?_⟩
  simp [World.frozen?, hb]
  omega
theorem LowSt.turn {w : World} {b : Nat} {l : List UInt8} {k : Nat} (h : LowSt w b l k) (hk : k < l.length) : LowSt (w.setCell ⟨b, k, none⟩ (bcell (lowB (l.getD k 0)))) b l (k + 1) := by
  obtain ⟨cs, N, hN, hb, hs, hc⟩ := h
  refine ⟨_, N, hN, blk_set hb k _, by simpa using hs, fun j hj => ?_⟩
  rw [Array.getElem?_setIfInBounds]
  split
  · rename_i e
    subst e
    rw [if_pos (by omega)]
    simp [lowF]
  · rw [hc j hj]
    congr 2
    unfold lowF
    split <;> split <;> first | rfl | omega
theorem LowSt.keep {w : World} {b : Nat} {l : List UInt8} {k : Nat} (h : LowSt w b l k) (hk : lowB (l.getD k 0) = l.getD k 0) : LowSt w b l (k + 1) := by
  obtain ⟨cs, N, hN, hb, hs, hc⟩ := h
  refine ⟨cs, N, hN, hb, hs, fun j hj => ?_⟩
  rw [hc j hj]
  congr 2
  unfold lowF
  split
  · split <;> first | rfl | omega
  · split
    · obtain rfl : j = k := by omega
      exact hk.symm
    · rfl
theorem LowSt.new (w : World) (s : ByteArray) : LowSt (Lib.bytesWorld w 5 s) w.heap.size s.data.toList 0 := by
  refine ⟨_, _, ?_, Lib.bytesWorld_at_new w 5 s, ?_, fun j hj => ?_⟩
  · simp [Lib.bytesCells]
  · simp [Lib.bytesCells]
  · have hj2 : j < s.data.size := by simpa using hj
    have hj3 : j < s.size := hj2
    simp [Lib.bytesCells, Array.getElem?_append, lowF, List.getD, hj2, hj3, bcell]
theorem LowSt.bytes {w : World} {b : Nat} {l : List UInt8} (h : LowSt w b l l.length) (hl : l.length ≤ 1048576) : IsBytes w (some ⟨b, 0, none⟩) l.length (l.map lowB) := by
  refine ⟨by simp, by omega, fun _ => ⟨b, 0, rfl, fun j hj => ?_⟩⟩
  rw [Nat.zero_add, (h.cell j hj).1]
  simp [lowF, hj, List.getD]
theorem below_bytes (w : World) (s : ByteArray) : Below w.heap.size w (Lib.bytesWorld w 5 s) := by
  have h : Below w.heap.size w (w.drew.alloc (.cells (Lib.bytesCells w 5 s) 5)) := below_alloc (Below.refl _ w).drew _
  refine ⟨h.1, h.2, h.3, ?_, fun k hk => Lib.bytesWorld_at_old w _ s k hk⟩
  rw [Lib.bytesWorld_size]
  omega
theorem up_low {n : Nat} (h0 : 65 ≤ n) (h1 : n ≤ 90) : ((n : Int) + 97 - 65) = ((n + 32 : Nat) : Int) := by
  omega

set_option maxRecDepth 100000 in
theorem lowered_calls (s : ByteArray) (w : World) (hs : s.size ≤ 1048576) :
    Calls Tryz.prog 77 #[.string s] w fun e w' => e = .returned (.string ⟨(s.data.toList.map lowB).toArray⟩) ∧ Below w.heap.size w w' := by
  have hcv := Lib.run_convert_string_bytes (P := Tryz.prog) w 9 81 5 s Tryz.underlying9 Tryz.underlying81 Tryz.underlying5
  have HS0 := Asd.mk (LowSt.new w s)
  have HB0 := Asd.mk (below_bytes w s)
  have HL : Asd (s.data.toList.length = s.size) := Asd.mk rfl
  generalize hb : w.heap.size = b at hcv HS0
  have HBB := Asd.mk hb
  clear hb
  generalize grownCap w s.size 0 5 = cap at hcv
  generalize Lib.bytesWorld w 5 s = W1 at hcv HS0 HB0
  go_enter Tryz.func77, Tryz.ntmps77
  go_wp2
  go_loopw [10] (fun v wr => ∃ k : Nat, k ≤ s.size ∧ v = .int .i64 (k : Int) ∧ Asd (LowSt wr b s.data.toList k) ∧ Asd (Below w.heap.size w wr)) (fun v _ => s.size - (intOf v).toNat)
  case atStart => exact ⟨0, by omega, rfl, HS0, HB0⟩
  case round =>
    obtain ⟨k, hk, rfl, HS, HB⟩ := hrel
    by_cases hlt : k < s.size
    · have hkl : k < s.data.toList.length := hlt
      obtain ⟨q0, z0⟩ := HS.out.cell k hkl
      have HE : Asd (lowF s.data.toList k k = s.data.toList.getD k 0) := Asd.mk (by simp [lowF])
      rw [HE.out] at q0
      have HT := Asd.mk (HS.out.turn hkl)
      have HK := Asd.mk (HS.out.keep (k := k))
      generalize s.data.toList.getD k 0 = c at q0 HT HK
      have hc := c.toNat_lt
      simp only [bcell] at q0
      by_cases hup : 65 ≤ c.toNat ∧ c.toNat ≤ 90
      · have HW := Asd.mk (up_low hup.1 hup.2)
        have HLB : Asd (bcell (lowB c) = .int .u8 ((c.toNat + 32 : Nat) : Int)) := Asd.mk (by
          rw [lowB, if_pos hup, bcell, UInt8.toNat_ofNat']
          congr 2
          omega)
        rw [HLB.out] at HT
        have HB2 := Asd.mk (HB.out.setCell (p := ⟨b, k, none⟩) (Nat.le_of_eq HBB.out) (.int .u8 ((c.toNat + 32 : Nat) : Int)))
        rw [← HW.out] at HT HB2
        clear HK
        go_wp2
        go_roundw
        case rel => exact ⟨k + 1, by omega, by go_num, HT, HB2⟩
        case measure => simp [intOf]; omega
      · have HK2 := Asd.mk (HK.out (by rw [lowB, if_neg hup]))
        clear HT HK
        by_cases h65 : c.toNat < 65
        · clear hup
          go_wp2
          go_roundw
          case rel => exact ⟨k + 1, by omega, by go_num, HK2, HB⟩
          case measure => simp [intOf]; omega
        · have h91 : 90 < c.toNat := by omega
          have h65' : 65 ≤ c.toNat := by omega
          clear hup h65
          go_wp2
          go_roundw
          case rel => exact ⟨k + 1, by omega, by go_num, HK2, HB⟩
          case measure => simp [intOf]; omega
    · obtain rfl : k = s.size := by omega
      have hib := HS.out.bytes (by rw [HL.out]; exact hs)
      rw [HL.out] at hib
      have hcv := run_string (P := Tryz.prog) 81 9 5 Tryz.underlying81 Tryz.underlying5 Tryz.underlying9 cap hib
      generalize hrr : (⟨(s.data.toList.map lowB).toArray⟩ : ByteArray) = rr at hcv
      have HRR := Asd.mk hrr
      clear hrr hlt hib
      go_wp2
      go_ret
      exact ⟨ret_eq (by rw [HRR.out]; rfl), by rw [← HBB.out]; exact HB.out⟩

structure LexW (w : World) : Prop where
  shaped : w.ShapedOpen Tryz.prog
  syn : ∃ t p, w.cell? ⟨1, 0, none⟩ = some (.iface t p)
  rng : ∃ t p, w.cell? ⟨2, 0, none⟩ = some (.iface t p)
theorem LexW.below {w w' : World} (h : LexW w) (hb : Below w.heap.size w w') : LexW w' := by
  obtain ⟨t, p, h1⟩ := h.syn
  obtain ⟨t', p', h2⟩ := h.rng
  exact ⟨shaped_below h.shaped hb, ⟨t, p, (hb.cell (World.block_lt_of_cell? w _ h1)).trans h1⟩, ⟨t', p', (hb.cell (World.block_lt_of_cell? w _ h2)).trans h2⟩⟩

def hexT (l : List UInt8) : Option Nat := l.foldl (fun a c => a.bind fun n => (hexV c).map fun v => 16 * n + v) (some 0)
def Hexed (l : List UInt8) (w : World) (e : Ending) (w' : World) : Prop :=
  Below w.heap.size w w' ∧ match hexT l with
  | some n => e = .returned (.tuple #[.int .u64 (n : Int), .nilIface])
  | none => e = .returned (.tuple #[.int .u64 0, .iface 141 (.int .i64 2)])
set_option maxRecDepth 100000 in
theorem low_up (n : Nat) (h : n < 256) : bits .or .u8 (n : Int) 32 = ((n ||| 32 : Nat) : Int) := by
  have : ∀ m : Fin 256, bits .or .u8 ((m.val : Nat) : Int) 32 = ((m.val ||| 32 : Nat) : Int) := by decide
  exact this ⟨n, h⟩
set_option maxRecDepth 100000 in
theorem or32 (n : Nat) (h : n < 256) : (n ||| 32) < 256 ∧ ((97 ≤ (n ||| 32) ∧ (n ||| 32) ≤ 102) → (65 ≤ n ∧ n ≤ 70 ∧ (n ||| 32) = n + 32) ∨ (97 ≤ n ∧ n ≤ 102 ∧ (n ||| 32) = n)) ∧ (¬ (97 ≤ (n ||| 32) ∧ (n ||| 32) ≤ 102) → ¬ (65 ≤ n ∧ n ≤ 70) ∧ ¬ (97 ≤ n ∧ n ≤ 102)) := by
  have : ∀ m : Fin 256, (m.val ||| 32) < 256 ∧ ((97 ≤ (m.val ||| 32) ∧ (m.val ||| 32) ≤ 102) → (65 ≤ m.val ∧ m.val ≤ 70 ∧ (m.val ||| 32) = m.val + 32) ∨ (97 ≤ m.val ∧ m.val ≤ 102 ∧ (m.val ||| 32) = m.val)) ∧ (¬ (97 ≤ (m.val ||| 32) ∧ (m.val ||| 32) ≤ 102) → ¬ (65 ≤ m.val ∧ m.val ≤ 70) ∧ ¬ (97 ≤ m.val ∧ m.val ≤ 102)) := by decide
  exact this ⟨n, h⟩

theorem hexV_dig {c : UInt8} (h : 48 ≤ c.toNat ∧ c.toNat ≤ 57) : hexV c = some (c.toNat - 48) := by
  rw [hexV, if_pos (by simp [digN]; exact h)]
theorem hexV_let {c : UInt8} {m : Nat} (h : ¬ (48 ≤ c.toNat ∧ c.toNat ≤ 57)) (hm : (c.toNat ||| 32) = m) (h2 : 97 ≤ m ∧ m ≤ 102) : hexV c = some (m - 87) := by
  rw [hexV, if_neg (by simp [digN]; omega)]
  subst hm
  rcases (or32 c.toNat c.toNat_lt).2.1 h2 with ⟨a, b, e⟩ | ⟨a, b, e⟩
  · rw [if_neg (by omega), if_pos ⟨a, b⟩, e]
    congr 1
  · rw [if_pos ⟨a, b⟩, e]
theorem hexV_no {c : UInt8} {m : Nat} (h : ¬ (48 ≤ c.toNat ∧ c.toNat ≤ 57)) (hm : (c.toNat ||| 32) = m) (h2 : ¬ (97 ≤ m ∧ m ≤ 102)) : hexV c = none := by
  rw [hexV, if_neg (by simp [digN]; omega)]
  subst hm
  have := (or32 c.toNat c.toNat_lt).2.2 h2
  rw [if_neg this.2, if_neg this.1]
theorem hexT_none (l : List UInt8) : l.foldl (fun a c => a.bind fun n => (hexV c).map fun v => 16 * n + v) none = none := by
  induction l with
  | nil => rfl
  | cons c l ih => simpa using ih
theorem hexV_lt {c : UInt8} {v : Nat} (h : hexV c = some v) : v < 16 := by
  unfold hexV at h
  have := c.toNat_lt
  split at h
  · rename_i hd
    simp [digN] at hd
    injection h with h; omega
  · split at h
    · injection h with h; omega
    · split at h
      · injection h with h; omega
      · cases h
theorem hexT_go {l : List UInt8} {k n : Nat} (h : hexT (l.take k) = some n) {c : UInt8} {v : Nat} (hc : l.drop k = c :: l.drop (k + 1)) (hv : hexV c = some v) : hexT (l.take (k + 1)) = some (16 * n + v) := by
  have hk : k < l.length := by
    have := congrArg List.length hc
    simp at this
    omega
  have hl : l.take (k + 1) = l.take k ++ [c] := by
    rw [List.take_succ_eq_append_getElem hk]
    rw [List.drop_eq_getElem_cons hk] at hc
    injection hc with hc
    rw [hc]
  unfold hexT at h ⊢
  rw [hl, List.foldl_append, h]
  simp [hv]
theorem hexT_stop {l : List UInt8} {k n : Nat} (h : hexT (l.take k) = some n) {c : UInt8} (hc : l.drop k = c :: l.drop (k + 1)) (hv : hexV c = none) : hexT l = none := by
  have hl : l = l.take k ++ c :: l.drop (k + 1) := by rw [← hc]; exact (List.take_append_drop k l).symm
  unfold hexT at h ⊢
  rw [hl, List.foldl_append, List.foldl_cons, h]
  simp only [Option.bind_some, hv, Option.map_none]
  exact hexT_none _
theorem hexed_some {l : List UInt8} {n : Nat} {w w' : World} {e : Ending} (hx : hexT l = some n) (he : e = .returned (.tuple #[.int .u64 (n : Int), .nilIface])) (hb : Below w.heap.size w w') : Hexed l w e w' := ⟨hb, by rw [hx]; exact he⟩
theorem hexed_none {l : List UInt8} {w w' : World} {e : Ending} (hx : hexT l = none) (he : e = .returned (.tuple #[.int .u64 0, .iface 141 (.int .i64 2)])) (hb : Below w.heap.size w w') : Hexed l w e w' := ⟨hb, by rw [hx]; exact he⟩

theorem getD_at (s : ByteArray) (k : Nat) (h : k < s.size) : lowF s.data.toList 0 k = s[k] := by
  show (if k < 0 then _ else s.data.toList.getD k 0) = _
  rw [if_neg (by omega), List.getD_eq_getElem?_getD, List.getElem?_eq_getElem (by simpa using h)]
  rfl
set_option maxRecDepth 100000 in
theorem hex_calls (s : ByteArray) (w : World) (h2 : s.size = 2) :
    Calls Tryz.prog 111 #[.string s, .int .i64 16, .int .i64 8] w fun e w' => Hexed s.data.toList w e w' := by
  have hcv := Lib.run_convert_string_bytes (P := Tryz.prog) w 9 81 5 s Tryz.underlying9 Tryz.underlying81 Tryz.underlying5
  have HS0 := Asd.mk (LowSt.new w s)
  have HB0 := Asd.mk (below_bytes w s)
  have HL : Asd (s.data.toList.length = s.size) := Asd.mk rfl
  have hne : s.toList.isEmpty = false := by
    have := nonempty s (by omega)
    cases h : s.toList with
    | nil => exact absurd h this
    | cons a b => rfl
  generalize hb : w.heap.size = b at hcv HS0
  have HBB := Asd.mk hb
  clear hb
  generalize grownCap w s.size 0 5 = cap at hcv
  generalize Lib.bytesWorld w 5 s = W1 at hcv HS0 HB0
  rw [h2] at hcv
  go_enter Tryz.func111, Tryz.ntmps111
  go_wp2
  generalize hK : (1152921504606846976 : Int) = K
  have HK : Asd ((16 : Int) ≤ K) := Asd.mk (by rw [← hK]; decide)
  clear hK
  go_loopw [12, 13, 101] (fun v12 v13 v wr => ∃ (k n : Nat), k ≤ 2 ∧ v12 = .bool false ∧ v13 = .int .u64 (n : Int) ∧ v = .int .i64 (k : Int) ∧ Asd (hexT (s.data.toList.take k) = some n) ∧ Asd (n < 16 ^ k) ∧ Asd (LowSt wr b s.data.toList 0) ∧ Asd (Below b w wr)) (fun _ _ v _ => 2 - (intOf v).toNat)
  case atStart => exact ⟨0, 0, by omega, rfl, rfl, rfl, ⟨rfl⟩, ⟨by decide⟩, HS0, by rw [← HBB.out]; exact HB0⟩
  case round =>
    obtain ⟨k, n, hk, rfl, rfl, rfl, HX, HLT, HS, HB⟩ := hrel
    by_cases hlt : k < 2
    · have hks : k < s.size := by omega
      obtain ⟨q0, z0⟩ := HS.out.cell k (by rw [HL.out]; exact hks)
      have HD := Asd.mk (drop_cons s k hks)
      have HE : Asd (lowF s.data.toList 0 k = s[k]) := Asd.mk (getD_at s k hks)
      rw [HE.out] at q0
      generalize s[k] = c at q0 HD
      have hc := c.toNat_lt
      simp only [bcell] at q0
      have HLO := Asd.mk (low_up c.toNat hc)
      have h32 := or32 c.toNat hc
      have HLTN : Asd (n < 16) := Asd.mk (by
        have := HLT.out
        obtain rfl | rfl : k = 0 ∨ k = 1 := by omega
        · omega
        · simpa using this)
      have HPW : Asd (∀ v, v < 16 → 16 * n + v < 16 ^ (k + 1)) := Asd.mk fun v hv => by
        have := HLT.out
        rw [Nat.pow_succ]
        omega
      have hn16 := HLTN.out
      have hcut : (n : Int) < K := by have := HK.out; omega
      by_cases hdig : 48 ≤ c.toNat ∧ c.toNat ≤ 57
      · obtain ⟨d1, d2⟩ := hdig
        have HV := hexV_dig ⟨d1, d2⟩
        have HGO := Asd.mk (hexT_go HX.out HD.out HV)
        have HLT2 := Asd.mk (HPW.out (c.toNat - 48) (by omega))
        have e1 : ((c.toNat : Int) - 48) = ((c.toNat - 48 : Nat) : Int) := by omega
        have hd16 : c.toNat - 48 < 16 := by omega
        clear HV h32 HLO
        go_wp2
        go_roundw
        case rel => exact ⟨k + 1, _, by omega, rfl, by first | rfl | go_num | (go_num; omega), by first | rfl | go_num, HGO, HLT2, HS, HB⟩
        case measure => simp [intOf]; omega
      · generalize hm : c.toNat ||| 32 = m at HLO h32
        have HVL : Asd (97 ≤ m ∧ m ≤ 102 → hexV c = some (m - 87)) := Asd.mk (hexV_let hdig hm)
        have HNO : Asd (¬ (97 ≤ m ∧ m ≤ 102) → hexT s.data.toList = none) := Asd.mk fun h => hexT_stop HX.out HD.out (hexV_no hdig hm h)
        have h48 : c.toNat < 48 → m < 97 := fun h => by
          have := h32.1
          rw [← hm]
          have : c.toNat ||| 32 < 64 := Nat.or_lt_two_pow (n := 6) (by omega) (by omega)
          omega
        have hm256 := h32.1
        clear h32
        by_cases hlo : c.toNat < 48
        · have hm97 := h48 hlo
          have HNO := Asd.mk (HNO.out (by omega))
          clear hdig h48 HVL hm
          go_wp2_with fail
          refine (Tryz.internal_strconv_lower (c.toNat : Int) _).mono ?_
          rintro e w' ⟨rfl, rfl⟩
          rw [HLO.out]
          go_wp2
          refine bodyPost_ret (results_tmp2 rfl _ _ _) rfl ?_
          exact hexed_none HNO.out rfl (by rw [HBB.out]; exact HB.out)
        · have hhi : 57 < c.toNat := by omega
          clear hdig h48 hlo
          by_cases h95 : c.toNat = 95
          · obtain rfl : m = 127 := by rw [← hm, h95]; rfl
            have HNO := Asd.mk (HNO.out (by omega))
            clear hm HVL
            go_wp2_with fail
            refine (Tryz.internal_strconv_lower 95 _).mono ?_
            rintro e w' ⟨rfl, rfl⟩
            rw [show bits .or .u8 95 32 = 127 by decide]
            go_wp2_with fail
            refine (Tryz.internal_strconv_lower 95 _).mono ?_
            rintro e w' ⟨rfl, rfl⟩
            rw [show bits .or .u8 95 32 = 127 by decide]
            go_wp2
            refine bodyPost_ret (results_tmp2 rfl _ _ _) rfl ?_
            exact hexed_none HNO.out rfl (by rw [HBB.out]; exact HB.out)
          · clear hm
            by_cases ha : m < 97
            · have HNO := Asd.mk (HNO.out (by omega))
              clear HVL
              go_wp2_with fail
              refine (Tryz.internal_strconv_lower (c.toNat : Int) _).mono ?_
              rintro e w' ⟨rfl, rfl⟩
              rw [HLO.out]
              go_wp2
              refine bodyPost_ret (results_tmp2 rfl _ _ _) rfl ?_
              exact hexed_none HNO.out rfl (by rw [HBB.out]; exact HB.out)
            · have ha' : 97 ≤ m := by omega
              clear ha
              by_cases hb : m ≤ 122
              · by_cases hc6 : m ≤ 102
                · have HGO := Asd.mk (hexT_go HX.out HD.out (HVL.out ⟨ha', hc6⟩))
                  have HLT2 := Asd.mk (HPW.out (m - 87) (by omega))
                  have e1 : ((m : Int) - 97 + 10) = ((m - 87 : Nat) : Int) := by omega
                  have hd16 : m - 87 < 16 := by omega
                  clear HVL HNO
                  go_wp2_with fail
                  refine (Tryz.internal_strconv_lower (c.toNat : Int) _).mono ?_
                  rintro e w' ⟨rfl, rfl⟩
                  rw [HLO.out]
                  go_wp2_with fail
                  refine (Tryz.internal_strconv_lower (c.toNat : Int) _).mono ?_
                  rintro e w' ⟨rfl, rfl⟩
                  rw [HLO.out]
                  go_wp2_with fail
                  refine (Tryz.internal_strconv_lower (c.toNat : Int) _).mono ?_
                  rintro e w' ⟨rfl, rfl⟩
                  rw [HLO.out]
                  go_wp2
                  go_roundw
                  case rel => exact ⟨k + 1, _, by omega, rfl, by first | rfl | go_num | (go_num; omega), by first | rfl | go_num, HGO, HLT2, HS, HB⟩
                  case measure => simp [intOf]; omega
                · have hc6' : 102 < m := by omega
                  have HNO := Asd.mk (HNO.out (by omega))
                  clear HVL hc6
                  go_wp2_with fail
                  refine (Tryz.internal_strconv_lower (c.toNat : Int) _).mono ?_
                  rintro e w' ⟨rfl, rfl⟩
                  rw [HLO.out]
                  go_wp2_with fail
                  refine (Tryz.internal_strconv_lower (c.toNat : Int) _).mono ?_
                  rintro e w' ⟨rfl, rfl⟩
                  rw [HLO.out]
                  go_wp2_with fail
                  refine (Tryz.internal_strconv_lower (c.toNat : Int) _).mono ?_
                  rintro e w' ⟨rfl, rfl⟩
                  rw [HLO.out]
                  go_wp2
                  refine bodyPost_ret (results_tmp2 rfl _ _ _) rfl ?_
                  exact hexed_none HNO.out rfl (by rw [HBB.out]; exact HB.out)
              · have hb' : 122 < m := by omega
                have HNO := Asd.mk (HNO.out (by omega))
                clear HVL hb
                go_wp2_with fail
                refine (Tryz.internal_strconv_lower (c.toNat : Int) _).mono ?_
                rintro e w' ⟨rfl, rfl⟩
                rw [HLO.out]
                go_wp2_with fail
                refine (Tryz.internal_strconv_lower (c.toNat : Int) _).mono ?_
                rintro e w' ⟨rfl, rfl⟩
                rw [HLO.out]
                go_wp2
                refine bodyPost_ret (results_tmp2 rfl _ _ _) rfl ?_
                exact hexed_none HNO.out rfl (by rw [HBB.out]; exact HB.out)
    · obtain rfl : k = 2 := by omega
      have HX2 : Asd (hexT s.data.toList = some n) := Asd.mk (by
        have := HX.out
        rwa [List.take_of_length_le (by rw [HL.out, h2]; exact Nat.le_refl _)] at this)
      clear hlt
      go_wp2
      refine bodyPost_ret (results_tmp2 rfl _ _ _) rfl ?_
      exact hexed_some HX2.out rfl (by rw [HBB.out]; exact HB.out)

theorem pre2 (l : List UInt8) (a b : UInt8) : Lib.hasPrefix l [a, b] = true ↔ ∃ r, l = a :: b :: r := by
  unfold Lib.hasPrefix
  match l with
  | [] => simp [List.isPrefixOf]
  | [x] => simp [List.isPrefixOf]
  | x :: y :: r =>
    simp [List.isPrefixOf]
    constructor
    · rintro ⟨rfl, rfl⟩; exact ⟨rfl, rfl⟩
    · rintro ⟨rfl, rfl⟩; exact ⟨rfl, rfl⟩
theorem symP_two {l : List UInt8} {a b : UInt8} (h : Lib.hasPrefix l [a, b] = true) (hab : (a, b) ∈ [((60 : UInt8), (62 : UInt8)), (60, 61), (62, 61), (124, 124)]) : symP l = 2 := by
  obtain ⟨r, rfl⟩ := (pre2 l a b).mp h
  simp only [List.mem_cons, List.not_mem_nil, or_false, Prod.mk.injEq] at hab
  rw [symP, if_pos]
  simp only [List.head?_cons, Option.some.injEq]
  exact hab
def symBytes : List UInt8 := [40, 41, 44, 46, 42, 61, 60, 62, 43, 45, 47, 37, 59]
theorem indexByte_nn : ∀ (l : List UInt8) (c : UInt8), 0 ≤ Lib.indexByte l c ↔ c ∈ l
  | [], c => by simp [Lib.indexByte]
  | b :: l, c => by
    have ih := indexByte_nn l c
    have h1 := Lib.indexByte_ge l c
    unfold Lib.indexByte
    split
    · rename_i h
      have : b = c := by simpa using h
      simp [this]
    · rename_i h
      have hne : ¬ c = b := fun e => h (by simp [e])
      simp only [List.mem_cons, hne, false_or]
      split
      · rename_i h2
        have h3 : Lib.indexByte l c = -1 := by simpa using h2
        rw [← ih, h3]
        try decide
      · rename_i h2
        have h3 : ¬ Lib.indexByte l c = -1 := by simpa using h2
        rw [← ih]
        constructor <;> intro <;> omega
theorem symP_else {l : List UInt8} {c : UInt8} {r : List UInt8} (hl : l = c :: r) (h0 : Lib.hasPrefix l [60, 62] = false) (h1 : Lib.hasPrefix l [60, 61] = false) (h2 : Lib.hasPrefix l [62, 61] = false) (h3 : Lib.hasPrefix l [124, 124] = false) : symP l = if (0 : Int) ≤ Lib.indexByte symBytes c then 1 else 0 := by
  subst hl
  have hh : ∀ a b : UInt8, Lib.hasPrefix (c :: r) [a, b] = false → ¬ (c = a ∧ r.head? = some b) := by
    rintro a b h ⟨rfl, h'⟩
    have : Lib.hasPrefix (c :: r) [c, b] = true := (pre2 _ _ _).mpr (by
      cases r with
      | nil => cases h'
      | cons d r => simp at h'; subst h'; exact ⟨r, rfl⟩)
    rw [h] at this
    cases this
  rw [symP, if_neg]
  · by_cases hm : c ∈ symBytes
    · rw [if_pos (by exact hm), if_pos ((indexByte_nn _ _).mpr hm)]
    · rw [if_neg (by exact hm), if_neg (fun h => hm ((indexByte_nn _ _).mp h))]
  · rintro (h | h | h | h)
    · exact hh _ _ h0 h
    · exact hh _ _ h1 h
    · exact hh _ _ h2 h
    · exact hh _ _ h3 h

set_option maxRecDepth 100000 in
theorem symbol_calls (s : ByteArray) (w : World) (h1 : 1 ≤ s.size) (hs : s.size ≤ 1048576) :
    Calls Tryz.prog 80 #[.string s] w fun e w' => e = .returned (.int .i64 (symP s.data.toList : Nat)) ∧ w' = w := by
  have HD0 := Asd.mk (drop_cons s 0 h1)
  have HT : Asd (∀ a b : UInt8, Lib.hasPrefix s.data.toList [a, b] = true → (a, b) ∈ [((60 : UInt8), (62 : UInt8)), (60, 61), (62, 61), (124, 124)] → symP s.data.toList = 2) := Asd.mk fun a b h => symP_two h
  have HE : Asd (Lib.hasPrefix s.data.toList [60, 62] = false → Lib.hasPrefix s.data.toList [60, 61] = false → Lib.hasPrefix s.data.toList [62, 61] = false → Lib.hasPrefix s.data.toList [124, 124] = false → symP s.data.toList = if (0 : Int) ≤ Lib.indexByte symBytes s[0] then 1 else 0) := Asd.mk (symP_else (by simpa using HD0.out))
  have hc := s[0].toNat_lt
  clear HD0
  have i0 : ∀ w, (Instr.index 132 (.agg #[.string ⟨#[60, 62]⟩, .string ⟨#[60, 61]⟩, .string ⟨#[62, 61]⟩, .string ⟨#[124, 124]⟩]) (.int .i64 0)).run Tryz.prog w = .ok (.string ⟨#[60, 62]⟩) w := fun _ => by kernel_rfl
  have i1 : ∀ w, (Instr.index 132 (.agg #[.string ⟨#[60, 62]⟩, .string ⟨#[60, 61]⟩, .string ⟨#[62, 61]⟩, .string ⟨#[124, 124]⟩]) (.int .i64 1)).run Tryz.prog w = .ok (.string ⟨#[60, 61]⟩) w := fun _ => by kernel_rfl
  have i2 : ∀ w, (Instr.index 132 (.agg #[.string ⟨#[60, 62]⟩, .string ⟨#[60, 61]⟩, .string ⟨#[62, 61]⟩, .string ⟨#[124, 124]⟩]) (.int .i64 2)).run Tryz.prog w = .ok (.string ⟨#[62, 61]⟩) w := fun _ => by kernel_rfl
  have i3 : ∀ w, (Instr.index 132 (.agg #[.string ⟨#[60, 62]⟩, .string ⟨#[60, 61]⟩, .string ⟨#[62, 61]⟩, .string ⟨#[124, 124]⟩]) (.int .i64 3)).run Tryz.prog w = .ok (.string ⟨#[124, 124]⟩) w := fun _ => by kernel_rfl
  go_enter Tryz.func80, Tryz.ntmps80
  go_wp2
  go_loopw [6] (fun v wr => ∃ k : Nat, k ≤ 4 ∧ v = .int .i64 (k : Int) ∧ Asd (0 < k → Lib.hasPrefix s.data.toList [60, 62] = false) ∧ Asd (1 < k → Lib.hasPrefix s.data.toList [60, 61] = false) ∧ Asd (2 < k → Lib.hasPrefix s.data.toList [62, 61] = false) ∧ Asd (3 < k → Lib.hasPrefix s.data.toList [124, 124] = false) ∧ wr = w) (fun v _ => 4 - (intOf v).toNat)
  case atStart => exact ⟨0, by omega, rfl, ⟨fun h => absurd h (by omega)⟩, ⟨fun h => absurd h (by omega)⟩, ⟨fun h => absurd h (by omega)⟩, ⟨fun h => absurd h (by omega)⟩, by first | trivial | rfl⟩
  case round =>
    obtain ⟨k, hk, rfl, HK0, HK1, HK2, HK3, rfl⟩ := hrel
    obtain rfl | rfl | rfl | rfl | rfl : k = 0 ∨ k = 1 ∨ k = 2 ∨ k = 3 ∨ k = 4 := by omega
    · go_wp2_with fail
      refine (Tryz.strings_HasPrefix s ⟨#[60, 62]⟩ _).mono ?_
      rintro e w' ⟨rfl, rfl⟩
      rw [show (⟨#[60, 62]⟩ : ByteArray).data.toList = [60, 62] from rfl]
      cases hp : Lib.hasPrefix s.data.toList [60, 62] with
      | true =>
        have HO := Asd.mk (HT.out 60 62 hp (by decide))
        clear hp
        go_wp2
        go_ret
        exact ⟨ret_eq (by rw [HO.out]; rfl), rfl⟩
      | false =>
        have HP := Asd.mk hp
        clear hp
        go_wp2
        go_roundw
        case rel => exact ⟨1, by omega, by first | rfl | go_num, ⟨fun _ => HP.out⟩, ⟨fun _ => absurd ‹_› (by omega)⟩, ⟨fun _ => absurd ‹_› (by omega)⟩, ⟨fun _ => absurd ‹_› (by omega)⟩, by first | trivial | rfl⟩
        case measure => simp [intOf]
    · go_wp2_with fail
      refine (Tryz.strings_HasPrefix s ⟨#[60, 61]⟩ _).mono ?_
      rintro e w' ⟨rfl, rfl⟩
      rw [show (⟨#[60, 61]⟩ : ByteArray).data.toList = [60, 61] from rfl]
      cases hp : Lib.hasPrefix s.data.toList [60, 61] with
      | true =>
        have HO := Asd.mk (HT.out 60 61 hp (by decide))
        clear hp
        go_wp2
        go_ret
        exact ⟨ret_eq (by rw [HO.out]; rfl), rfl⟩
      | false =>
        have HP := Asd.mk hp
        clear hp
        go_wp2
        go_roundw
        case rel => exact ⟨2, by omega, by first | rfl | go_num, ⟨fun _ => HK0.out (by omega)⟩, ⟨fun _ => HP.out⟩, ⟨fun _ => absurd ‹_› (by omega)⟩, ⟨fun _ => absurd ‹_› (by omega)⟩, by first | trivial | rfl⟩
        case measure => simp [intOf]
    · go_wp2_with fail
      refine (Tryz.strings_HasPrefix s ⟨#[62, 61]⟩ _).mono ?_
      rintro e w' ⟨rfl, rfl⟩
      rw [show (⟨#[62, 61]⟩ : ByteArray).data.toList = [62, 61] from rfl]
      cases hp : Lib.hasPrefix s.data.toList [62, 61] with
      | true =>
        have HO := Asd.mk (HT.out 62 61 hp (by decide))
        clear hp
        go_wp2
        go_ret
        exact ⟨ret_eq (by rw [HO.out]; rfl), rfl⟩
      | false =>
        have HP := Asd.mk hp
        clear hp
        go_wp2
        go_roundw
        case rel => exact ⟨3, by omega, by first | rfl | go_num, ⟨fun _ => HK0.out (by omega)⟩, ⟨fun _ => HK1.out (by omega)⟩, ⟨fun _ => HP.out⟩, ⟨fun _ => absurd ‹_› (by omega)⟩, by first | trivial | rfl⟩
        case measure => simp [intOf]
    · go_wp2_with fail
      refine (Tryz.strings_HasPrefix s ⟨#[124, 124]⟩ _).mono ?_
      rintro e w' ⟨rfl, rfl⟩
      rw [show (⟨#[124, 124]⟩ : ByteArray).data.toList = [124, 124] from rfl]
      cases hp : Lib.hasPrefix s.data.toList [124, 124] with
      | true =>
        have HO := Asd.mk (HT.out 124 124 hp (by decide))
        clear hp
        go_wp2
        go_ret
        exact ⟨ret_eq (by rw [HO.out]; rfl), rfl⟩
      | false =>
        have HP := Asd.mk hp
        clear hp
        go_wp2
        go_roundw
        case rel => exact ⟨4, by omega, by first | rfl | go_num, ⟨fun _ => HK0.out (by omega)⟩, ⟨fun _ => HK1.out (by omega)⟩, ⟨fun _ => HK2.out (by omega)⟩, ⟨fun _ => HP.out⟩, by first | trivial | rfl⟩
        case measure => simp [intOf]
    · have HO := Asd.mk (HE.out (HK0.out (by omega)) (HK1.out (by omega)) (HK2.out (by omega)) (HK3.out (by omega)))
      go_wp2_with fail
      refine (Tryz.strings_IndexByte ⟨#[40, 41, 44, 46, 42, 61, 60, 62, 43, 45, 47, 37, 59]⟩ (s[0].toNat : Int) _).mono ?_
      rintro e w' ⟨rfl, rfl⟩
      rw [show ((s[0].toNat : Int).toNat.toUInt8) = s[0] by simp, show (⟨#[40, 41, 44, 46, 42, 61, 60, 62, 43, 45, 47, 37, 59]⟩ : ByteArray).data.toList = symBytes from rfl]
      generalize Lib.indexByte symBytes s[0] = ix at HO
      by_cases h0 : 0 ≤ ix
      · have HO2 : Asd (symP s.data.toList = 1) := Asd.mk (by rw [HO.out]; exact if_pos h0)
        go_wp2
        go_ret
        exact ⟨ret_eq (by rw [HO2.out]; rfl), rfl⟩
      · have HO2 : Asd (symP s.data.toList = 0) := Asd.mk (by rw [HO.out]; exact if_neg h0)
        go_wp2
        go_ret
        exact ⟨ret_eq (by rw [HO2.out]; rfl), rfl⟩

def HexedP (l : List UInt8) (w : World) (e : Ending) (w' : World) : Prop :=
  Below w.heap.size w w' ∧ match hexT l with
  | some n => e = .returned (.tuple #[.int .u64 (n : Int), .nilIface])
  | none => ∃ p, e = .returned (.tuple #[.int .u64 0, .iface 142 p])
set_option maxRecDepth 100000 in
theorem parse_calls (s : ByteArray) (w : World) (h2 : s.size = 2) (hw : LexW w) :
    Calls Tryz.prog 95 #[.string s, .int .i64 16, .int .i64 8] w fun e w' => HexedP s.data.toList w e w' := by
  have HW := Asd.mk hw
  clear hw
  have HS2 := Asd.mk h2
  clear h2
  cases hx : hexT s.data.toList with
  | some n =>
    have HX := Asd.mk hx
    clear hx
    go_enter Tryz.func95, Tryz.ntmps95
    go_wp2_with fail
    refine (hex_calls s _ HS2.out).mono ?_
    rintro e w' ⟨hb, he⟩
    rw [HX.out] at he
    obtain rfl := he
    have HB := Asd.mk hb
    clear hb
    go_wp2
    refine bodyPost_ret (results_tmp2 rfl _ _ _) rfl ?_
    exact ⟨HB.out, by rw [HX.out]; rfl⟩
  | none =>
    have HX := Asd.mk hx
    clear hx
    go_enter Tryz.func95, Tryz.ntmps95
    go_wp2_with fail
    refine (hex_calls s _ HS2.out).mono ?_
    rintro e w1 ⟨hb, he⟩
    rw [HX.out] at he
    obtain rfl := he
    have HB := Asd.mk hb
    have HW1 := Asd.mk (HW.out.below hb)
    clear hb
    go_wp2_with fail
    obtain ⟨t, p, hv⟩ := HW1.out.syn
    refine (Tryz.strconv_toError_syntax ⟨#[80, 97, 114, 115, 101, 85, 105, 110, 116]⟩ s 16 8 (.iface t p) w1 (by have := HS2.out; omega) hv (.inr ⟨t, p, rfl⟩)).mono ?_
    rintro e w2 ⟨N, rfl, _, _, hb2⟩
    have HB2 : Asd (Below w.heap.size w w2) := Asd.mk (HB.out.trans (hb2.mono HB.out.size))
    clear hb2 hv
    go_wp2
    refine bodyPost_ret (results_tmp2 rfl _ _ _) rfl ?_
    exact ⟨HB2.out, by rw [HX.out]; exact ⟨_, rfl⟩⟩

theorem iter_below (w : World) (s : ByteArray) (p : Nat) : Below w.heap.size w (w.iter s p) := below_alloc (Below.refl _ w) _

set_option maxRecDepth 100000 in
theorem any_calls (s chars : ByteArray) (w : World) (h2 : 2 ≤ chars.size) (h8 : s.size ≤ 8) (hascii : ∀ (j : Nat) b, s.data.toList[j]? = some b → b.toNat < 128) (hno : Lib.indexAny s.data.toList chars.data.toList = -1) :
    Calls Tryz.prog 96 #[.string s, .string chars] w fun e w' => e = .returned (.bool false) ∧ Below w.heap.size w w' := by
  have HC := Asd.mk (Tryz.strings_IndexAny_short s chars w h2 h8 hascii)
  have HNO := Asd.mk hno
  clear h2 h8 hascii hno
  go_enter Tryz.func96, Tryz.ntmps96
  go_wp2_with fail
  refine HC.out.mono ?_
  rintro e w1 ⟨rfl, pos, rfl⟩
  rw [HNO.out]
  have HB := Asd.mk (iter_below w s pos)
  generalize w.iter s pos = w1 at HB ⊢
  go_wp2
  go_ret
  exact ⟨ret_eq rfl, HB.out⟩

theorem hexT_two (a b : UInt8) : hexT [a, b] = hexPair a b := by
  unfold hexT hexPair
  simp
theorem hexPair_lt {a b : UInt8} {n : Nat} (h : hexPair a b = some n) : n < 256 := by
  unfold hexPair at h
  obtain ⟨x, hx, h⟩ := Option.bind_eq_some_iff.mp h
  obtain ⟨y, hy, rfl⟩ := Option.map_eq_some_iff.mp h
  have := hexV_lt hx
  have := hexV_lt hy
  omega
theorem hexV_ascii {c : UInt8} {v : Nat} (h : hexV c = some v) : c.toNat < 128 ∧ ¬ c ∈ [(43 : UInt8), 45, 95] := by
  have hn : ∀ d : UInt8, d ∈ [(43 : UInt8), 45, 95] → hexV d = none := by decide
  refine ⟨?_, fun hm => by rw [hn c hm] at h; cases h⟩
  unfold hexV at h
  split at h
  · rename_i hd
    simp [digN] at hd
    omega
  · split at h
    · omega
    · split at h
      · omega
      · cases h
theorem hexPair_ascii {a b : UInt8} {n : Nat} (h : hexPair a b = some n) : (∀ (j : Nat) c, [a, b][j]? = some c → c.toNat < 128) ∧ Lib.indexAny [a, b] [43, 45, 95] = -1 := by
  unfold hexPair at h
  obtain ⟨x, hx, h⟩ := Option.bind_eq_some_iff.mp h
  obtain ⟨y, hy, rfl⟩ := Option.map_eq_some_iff.mp h
  have h1 := hexV_ascii hx
  have h2 := hexV_ascii hy
  refine ⟨fun j c hj => ?_, ?_⟩
  · match j, hj with
    | 0, hj => simp at hj; subst hj; exact h1.1
    | 1, hj => simp at hj; subst hj; exact h2.1
    | j + 2, hj => simp at hj
  · have e1 : ([(43 : UInt8), 45, 95].contains a) = false := by simpa using h1.2
    have e2 : ([(43 : UInt8), 45, 95].contains b) = false := by simpa using h2.2
    simp only [Lib.indexAny, e1, e2]
    rfl

theorem unhex_cons (a b : UInt8) (r : List UInt8) : unhex (a :: b :: r) = (hexPair a b).bind fun x => (unhex r).map fun l => UInt8.ofNat x :: l := by rw [unhex]
theorem unhex_odd : ∀ (n : Nat) (l : List UInt8), l.length = 2 * n + 1 → unhex l = none
  | 0, [a], _ => rfl
  | 0, [], h => by simp at h
  | 0, a :: b :: r, h => by simp at h
  | n + 1, [], h => by simp at h
  | n + 1, [a], h => by simp at h
  | n + 1, a :: b :: r, h => by
    rw [unhex_cons, unhex_odd n r (by simp only [List.length_cons] at h; omega)]
    cases hexPair a b <;> rfl
def BlobSt (D l : List UInt8) (q : List UInt8) : Prop := unhex D = (unhex q).map (fun x => l ++ x)
theorem BlobSt.step {D l q : List UInt8} {a b : UInt8} {n : Nat} (h : BlobSt D l (a :: b :: q)) (hn : hexPair a b = some n) : BlobSt D (l ++ [UInt8.ofNat n]) q := by
  unfold BlobSt at h ⊢
  rw [h, unhex_cons, hn, Option.bind_some, Option.map_map]
  congr 1
  funext x
  simp
theorem BlobSt.stop {D l q : List UInt8} {a b : UInt8} (h : BlobSt D l (a :: b :: q)) (hn : hexPair a b = none) : unhex D = none := by
  unfold BlobSt at h
  rw [h, unhex_cons, hn]
  rfl
theorem BlobSt.done {D l : List UInt8} (h : BlobSt D l []) : unhex D = some l := by
  unfold BlobSt at h
  rw [h]
  simp [unhex]
def blobO (r : List UInt8) : List UInt8 × Nat := match blobP r with | none => ([], 0) | some x => x
theorem blobO_no {r : List UInt8} (h : ¬ 39 ∈ r) : blobO r = ([], 0) := by rw [blobO, blobP, if_neg h]
theorem blobO_bad {r : List UInt8} (h : unhex (r.takeWhile (· != 39)) = none) : blobO r = ([], 0) := by
  rw [blobO, blobP]
  split
  · rfl
  · rename_i heq
    split at heq
    · rw [h] at heq; cases heq
    · cases heq
theorem blobO_good {r l : List UInt8} (hm : 39 ∈ r) (h : unhex (r.takeWhile (· != 39)) = some l) : blobO r = (l, (r.takeWhile (· != 39)).length + 2) := by
  rw [blobO, blobP, if_pos hm, h]
  rfl
theorem index_take : ∀ (l : List UInt8) (c : UInt8), c ∈ l → Lib.indexByte l c = (l.takeWhile (· != c)).length
  | [], c, h => by simp at h
  | b :: l, c, h => by
    unfold Lib.indexByte
    by_cases hb : b = c
    · subst hb
      simp
    · have hm : c ∈ l := by
        rcases List.mem_cons.mp h with e | h
        · exact absurd e.symm hb
        · exact h
      have ih := index_take l c hm
      have h1 : (b == c) = false := by simpa using hb
      have h2 : (b != c) = true := by simp [bne, h1]
      rw [h1, List.takeWhile_cons, h2, ih]
      simp
theorem index_not (l : List UInt8) (c : UInt8) (h : ¬ c ∈ l) : Lib.indexByte l c = -1 := by
  have h1 := Lib.indexByte_ge l c
  have h2 : ¬ 0 ≤ Lib.indexByte l c := fun h0 => h ((indexByte_nn l c).mp h0)
  omega
theorem take_take (l : List UInt8) (c : UInt8) : l.take (l.takeWhile (· != c)).length = l.takeWhile (· != c) := by
  have h : l.takeWhile (· != c) ++ l.dropWhile (· != c) = l := List.takeWhile_append_dropWhile
  have := List.take_left' (l₁ := l.takeWhile (· != c)) (l₂ := l.dropWhile (· != c)) rfl
  rwa [h] at this
theorem cut_yes {l : List UInt8} (h : 39 ∈ l) : (Lib.cut l [39]).1 = l.takeWhile (· != 39) ∧ (Lib.cut l [39]).2.2 = true := by
  have hi := index_take l 39 h
  unfold Lib.cut
  rw [Lib.index_one, hi, if_pos (by omega)]
  exact ⟨by rw [Int.toNat_natCast]; exact take_take l 39, rfl⟩
theorem cut_no {l : List UInt8} (h : ¬ 39 ∈ l) : (Lib.cut l [39]).1 = l ∧ (Lib.cut l [39]).2.2 = false := by
  have hi := index_not l 39 h
  unfold Lib.cut
  rw [Lib.index_one, hi, if_neg (by omega)]
  exact ⟨rfl, rfl⟩

theorem ext_list (s : ByteArray) (a b : Nat) : (s.extract a b).data.toList = (s.data.toList.take b).drop a := by
  simp [ByteArray.data_extract, List.extract_eq_take_drop, List.drop_take]
theorem ext_size (s : ByteArray) (a b : Nat) : (s.extract a b).size = min b s.size - a := by
  simp [ByteArray.size_extract]
theorem takeW_le (p : UInt8 → Bool) : ∀ l : List UInt8, (l.takeWhile p).length ≤ l.length
  | [] => Nat.le_refl _
  | c :: r => by
    rw [List.takeWhile_cons]
    have := takeW_le p r
    split
    · simp only [List.length_cons]; omega
    · simp
theorem below_drewN' (w : World) (n : Nat) : Below w.heap.size w (w.drewN n) :=
  have h := Below.refl w.heap.size w
  ⟨h.os, h.tape, h.output, h.size, h.block⟩
theorem two_at {D : List UInt8} {k : Nat} (h : k + 2 ≤ D.length) : ∃ a b, D.drop k = a :: b :: D.drop (k + 2) ∧ (D.take (k + 2)).drop k = [a, b] := by
  refine ⟨D[k], D[k + 1], ?_, ?_⟩
  · rw [List.drop_eq_getElem_cons (by omega), List.drop_eq_getElem_cons (by omega)]
  · rw [List.drop_take, show k + 2 - k = 2 by omega, List.drop_eq_getElem_cons (by omega), List.drop_eq_getElem_cons (by omega)]
    rfl

theorem own_below {W W' : World} {B : Nat} {e : TypeId} {s : Nat} {v : Value} {n : Nat} {xs : List Value} (h : W.ownsRow B e s v n xs) (hb : Below W.heap.size W W') : W'.ownsRow B e s v n xs :=
  h.kept (row := none) ⟨hb.os, hb.tape, hb.output, hb.size, fun j hj _ => hb.block j hj⟩ (by cases hv : v.ownBlock <;> simp)
theorem bld_at_old {B b : Nat} {p : Value} {bs : List Value} {w w' : World} (h : Lib.BuilderAt 124 5 B b p bs w) (hb : Below w.heap.size w w') : Lib.BuilderAt 124 5 B b p bs w' := by
  obtain ⟨h1, v, h2, h3, h4⟩ := h
  exact ⟨h1, v, blk_below hb h2, own_below h3 hb, h4⟩
theorem bld_old {B b : Nat} {bs : List Value} {w w' : World} (h : Lib.IsBuilder 124 5 B b bs w) (hb : Below w.heap.size w w') : Lib.IsBuilder 124 5 B b bs w' := by
  rcases h with h | h
  · exact .inl (bld_at_old h hb)
  · exact .inr (bld_at_old h hb)
theorem byte_of {n : Nat} (h : n < 256) : Value.int .u8 (n : Int) = .int .u8 ((UInt8.ofNat n).toNat : Int) := by
  rw [UInt8.toNat_ofNat', Nat.mod_eq_of_lt h]
set_option maxRecDepth 100000 in
theorem blob_calls (s : ByteArray) (w : World) (h1 : 1 ≤ s.size) (hs : s.size ≤ 1048576) (hw : LexW w) :
    Calls Tryz.prog 72 #[.string s] w fun e w' => e = .returned (.tuple #[.string ⟨(blobO (s.data.toList.drop 1)).1.toArray⟩, .int .i64 ((blobO (s.data.toList.drop 1)).2 : Nat)]) ∧ Below w.heap.size w w' := by
  have HW := Asd.mk hw
  clear hw
  have HXL : Asd ((s.extract 1 s.size).data.toList = s.data.toList.drop 1) := Asd.mk (by
    rw [ext_list, List.take_of_length_le (Nat.le_of_eq (show s.data.toList.length = s.size from rfl))])
  have HXS : Asd ((s.extract 1 s.size).size ≤ 1048576) := Asd.mk (by rw [ext_size]; omega)
  have HTL : Asd (((s.data.toList.drop 1).takeWhile (· != 39)).length ≤ 1048576) := Asd.mk (by
    have h := takeW_le (· != (39 : UInt8)) (s.data.toList.drop 1)
    rw [List.length_drop] at h
    have : s.data.toList.length = s.size := rfl
    omega)
  go_enter Tryz.func72, Tryz.ntmps72
  generalize hR : s.data.toList.drop 1 = R at HXL HTL ⊢
  clear hR
  go_wp2_with fail
  refine (Tryz.strings_Cut_shaped (s.extract 1 s.size) ⟨#[39]⟩ _ HW.out.shaped (by have := HXS.out; omega)).mono ?_
  rintro e w1 ⟨rfl, n0, rfl⟩
  rw [HXL.out, show (⟨#[39]⟩ : ByteArray).data.toList = [39] from rfl]
  have HB1 := Asd.mk (below_drewN' w n0)
  have HW1 := Asd.mk (HW.out.below HB1.out)
  generalize w.drewN n0 = w1 at HB1 HW1 ⊢
  generalize (Lib.cut R [39]).2.1 = rest
  by_cases hm : 39 ∈ R
  · obtain ⟨c1, c2⟩ := cut_yes hm
    have HG : Asd (∀ l, unhex (R.takeWhile (· != 39)) = some l → blobO R = (l, (R.takeWhile (· != 39)).length + 2)) := Asd.mk fun l h => blobO_good hm h
    have HNG : Asd (unhex (R.takeWhile (· != 39)) = none → blobO R = ([], 0)) := Asd.mk fun h => blobO_bad h
    rw [c1, c2]
    clear c1 c2 hm
    generalize R.takeWhile (· != 39) = D at HG HNG HTL ⊢
    have HDL : Asd ((⟨D.toArray⟩ : ByteArray).data.toList = D) := Asd.mk (by simp)
    have HDS : Asd ((⟨D.toArray⟩ : ByteArray).size = D.length) := Asd.mk (by simp [ByteArray.size])
    generalize (⟨D.toArray⟩ : ByteArray) = d at HDL HDS ⊢
    have hds : d.size ≤ 1048576 := by rw [HDS.out]; exact HTL.out
    by_cases hpar : d.size % 2 = 0
    · have e0 : (d.size : Int).tmod 2 = 0 := by rw [Int.tmod_eq_emod_of_nonneg (by omega)]; omega
      have e1 : (d.size : Int) % 2 = 0 := by omega
      have HPAR := Asd.mk hpar
      clear hpar
      have HBF := Asd.mk (bld_fresh w1)
      have HB2 : Asd (Below w.heap.size w (w1.alloc (.cells #[.pointer none, .slice none 0 0] 124))) := Asd.mk (below_alloc HB1.out _)
      have HW2 : Asd (LexW (w1.alloc (.cells #[.pointer none, .slice none 0 0] 124))) := Asd.mk (HW1.out.below (below_alloc (Below.refl _ _) _))
      have HL2 : Asd (w1.heap.size ≤ (w1.alloc (.cells #[.pointer none, .slice none 0 0] 124)).heap.size) := Asd.mk (by simp)
      have HBW : Asd (w.heap.size ≤ w1.heap.size) := Asd.mk HB1.out.size
      go_upto_region 5 with fail
      generalize w1.alloc (.cells #[.pointer none, .slice none 0 0] 124) = w2 at HBF HB2 HL2 HW2 ⊢
      generalize w1.heap.size = b at HBF HL2 HBW ⊢
      clear e0 e1
      go_wp2
      go_loopw [8] (fun v wr => ∃ (k : Nat) (l : List UInt8), k ≤ d.size ∧ v = .int .i64 (k : Int) ∧ Asd (k % 2 = 0) ∧ Asd (l.length ≤ k) ∧ Asd (BlobSt D l (D.drop k)) ∧ Asd (Lib.IsBuilder 124 5 b b (Lib.byteCells l) wr) ∧ Asd (Below b w2 wr) ∧ Asd (LexW wr)) (fun v _ => d.size - (intOf v).toNat)
      case atStart => exact ⟨0, [], by omega, rfl, ⟨rfl⟩, ⟨Nat.le_refl _⟩, ⟨by unfold BlobSt; simp⟩, HBF, ⟨Below.refl _ _⟩, HW2⟩
      case round =>
        obtain ⟨k, l, hk, rfl, HK2, HLL, HS, HBD, HBR, HWR⟩ := hrel
        by_cases hlt : k < d.size
        · have hk2 : k + 2 ≤ d.size := by have := HK2.out; have := HPAR.out; omega
          obtain ⟨a, b', hd1, hd2⟩ := two_at (D := D) (k := k) (by rw [← HDS.out]; exact hk2)
          have HE : Asd ((d.extract k (k + 2)).data.toList = [a, b']) := Asd.mk (by rw [ext_list, HDL.out, hd2])
          have HES : Asd ((d.extract k (k + 2)).size = 2) := Asd.mk (by rw [ext_size]; omega)
          rw [hd1] at HS
          clear hd1 hd2
          go_wp2_with fail
          refine (parse_calls (d.extract k (k + 2)) _ HES.out HWR.out).mono ?_
          rintro e w3 ⟨hb3, he⟩
          rw [HE.out, hexT_two] at he
          have HB3 : Asd (Below b w2 w3) := Asd.mk (HBR.out.trans (hb3.mono (by have := HL2.out; have := HBR.out.size; omega)))
          have HW3 := Asd.mk (HWR.out.below hb3)
          have HBD3 := Asd.mk (bld_old HBD.out hb3)
          clear hb3
          cases hx : hexPair a b' with
          | none =>
            rw [hx] at he
            obtain ⟨p, rfl⟩ := he
            have HO := Asd.mk (HNG.out (HS.out.stop hx))
            have HBE : Asd (Below w.heap.size w w3) := Asd.mk (HB2.out.trans (HB3.out.mono HBW.out))
            clear hx
            go_wp2
            refine bodyPost_ret (results_tmp2 rfl _ _ _) rfl ?_
            exact ⟨ret_eq (by rw [HO.out]; rfl), HBE.out⟩
          | some n =>
            rw [hx] at he
            obtain rfl := he
            have hn := hexPair_lt hx
            have HAS := Asd.mk (hexPair_ascii hx)
            have HS2 := Asd.mk (HS.out.step hx)
            have HBY := Asd.mk (byte_of hn)
            have hw8 : IntKind.u8.wrap (n : Int) = (n : Int) := by
              simp [IntKind.wrap, IntKind.signed, IntKind.bits]
              omega
            clear hx
            go_wp2_with fail
            refine (any_calls (d.extract k (k + 2)) ⟨#[43, 45, 95]⟩ _ (by decide) (by rw [HES.out]; decide) (by rw [HE.out]; exact HAS.out.1) (by rw [HE.out]; exact HAS.out.2)).mono ?_
            rintro e w4 ⟨rfl, hb4⟩
            have HB4 : Asd (Below b w2 w4) := Asd.mk (HB3.out.trans (hb4.mono (by have := HL2.out; have := HB3.out.size; omega)))
            have HW4 := Asd.mk (HW3.out.below hb4)
            have HBD4 := Asd.mk (bld_old HBD3.out hb4)
            clear hb4
            go_wp2_with fail
            refine (Tryz.Builder_WriteByte b b _ _ w4 HBD4.out (by rw [byteCells_len]; have := HLL.out; omega) (by have := HL2.out; have := HB4.out.size; omega)).mono ?_
            rintro e w5 ⟨rfl, hbd, hb5⟩
            rw [HBY.out, ← byteCells_snoc] at hbd
            have HBD5 := Asd.mk hbd
            have HB5 : Asd (Below b w2 w5) := Asd.mk (HB4.out.trans hb5)
            have HW5 : Asd (LexW w5) := Asd.mk (HW.out.below (HB2.out.trans (HB5.out.mono HBW.out)))
            clear hbd hb5
            go_wp2
            go_roundw
            case rel => exact ⟨k + 2, _, hk2, by go_num, ⟨by have := HK2.out; omega⟩, ⟨by have := HLL.out; simp; omega⟩, HS2, ⟨.inr HBD5.out⟩, HB5, HW5⟩
            case measure => simp [intOf]; omega
        · obtain rfl : k = d.size := by omega
          have HO := Asd.mk (HG.out l (BlobSt.done (by
            have := HS.out
            rwa [List.drop_of_length_le (by rw [HDS.out]; exact Nat.le_refl _)] at this)))
          clear hlt
          go_wp2_with fail
          refine (Tryz.Builder_String_any b b _ wr HBD.out (by have := HL2.out; have := HBR.out.size; omega)).mono ?_
          rintro e w5 ⟨rfl, hb5⟩
          have HBE : Asd (Below w.heap.size w w5) := Asd.mk (HB2.out.trans ((HBR.out.trans hb5).mono HBW.out))
          clear hb5
          go_wp2
          refine bodyPost_ret (results_tmp2 rfl _ _ _) rfl ?_
          exact ⟨ret_eq (by rw [HO.out, ← HDS.out]; rfl), HBE.out⟩
    · have hp1 : d.size % 2 = 1 := by omega
      have e0 : (d.size : Int).tmod 2 = 1 := by rw [Int.tmod_eq_emod_of_nonneg (by omega)]; omega
      have e1 : (d.size : Int) % 2 = 1 := by omega
      have HO := Asd.mk (HNG.out (unhex_odd (d.size / 2) D (by rw [← HDS.out]; omega)))
      clear hpar hp1
      go_wp2
      refine bodyPost_ret (results_tmp2 rfl _ _ _) rfl ?_
      exact ⟨ret_eq (by rw [HO.out]; rfl), HB1.out⟩
  · obtain ⟨c1, c2⟩ := cut_no hm
    have HO := Asd.mk (blobO_no hm)
    rw [c2]
    clear c1 c2 hm
    generalize (⟨(Lib.cut R [39]).1.toArray⟩ : ByteArray) = d
    go_wp2
    refine bodyPost_ret (results_tmp2 rfl _ _ _) rfl ?_
    exact ⟨ret_eq (by rw [HO.out]; rfl), HB1.out⟩

set_option maxRecDepth 100000 in
theorem run_word (s : ByteArray) (w : World) (hs : s.size ≤ 1048576) :
    Calls Tryz.prog 74 #[.string s, .func (.func 75) #[] #[]] w fun e w' => e = .returned (.int .i64 (runP isWrd s.data.toList : Nat)) ∧ w' = w := by
  go_enter Tryz.func74, Tryz.ntmps74
  go_wp2
  go_loopw [5] (fun v wr => ∃ k : Nat, k ≤ s.size ∧ v = .int .i64 (k : Int) ∧ Asd (runP isWrd s.data.toList = k + runP isWrd (s.data.toList.drop k)) ∧ wr = w) (fun v _ => s.size - (intOf v).toNat)
  case atStart => exact ⟨0, by omega, rfl, ⟨by simp⟩, rfl⟩
  case round =>
    obtain ⟨k, hk, rfl, HR, rfl⟩ := hrel
    by_cases hlt : k < s.size
    · have HD := Asd.mk (drop_cons s k hlt)
      have hc := s[k].toNat_lt
      cases hp : isWrd s[k] with
      | true =>
        have HR2 : Asd (runP isWrd s.data.toList = (k + 1) + runP isWrd (s.data.toList.drop (k + 1))) := Asd.mk (by
          rw [HR.out, HD.out, runP, if_pos hp]; omega)
        have HP := Asd.mk hp
        clear hp
        go_wp2_with fail
        refine (word_calls s[k].toNat hc _).mono ?_
        rintro e w' ⟨rfl, rfl⟩
        rw [show (letN s[k].toNat || digN s[k].toNat) = true from HP.out]
        go_wp2
        go_roundw
        case rel => exact ⟨k + 1, by omega, by go_num, HR2, by first | trivial | rfl⟩
        case measure => simp [intOf]; omega
      | false =>
        have HR2 : Asd (runP isWrd s.data.toList = k) := Asd.mk (by
          rw [HR.out, HD.out, runP, hp]; rfl)
        have HP := Asd.mk hp
        clear hp
        go_wp2_with fail
        refine (word_calls s[k].toNat hc _).mono ?_
        rintro e w' ⟨rfl, rfl⟩
        rw [show (letN s[k].toNat || digN s[k].toNat) = false from HP.out]
        go_wp2
        go_ret
        exact ⟨ret_eq (by rw [HR2.out]; rfl), rfl⟩
    · obtain rfl : k = s.size := by omega
      have HR2 : Asd (runP isWrd s.data.toList = s.size) := Asd.mk (by
        rw [HR.out, List.drop_of_length_le (Nat.le_of_eq (show s.data.toList.length = s.size from rfl))]; rfl)
      clear hlt
      go_wp2
      go_ret
      exact ⟨ret_eq (by rw [HR2.out]; rfl), rfl⟩

set_option maxRecDepth 100000 in
theorem run_digit (s : ByteArray) (w : World) (hs : s.size ≤ 1048576) :
    Calls Tryz.prog 74 #[.string s, .func (.func 76) #[] #[]] w fun e w' => e = .returned (.int .i64 (runP isDig s.data.toList : Nat)) ∧ w' = w := by
  go_enter Tryz.func74, Tryz.ntmps74
  go_wp2
  go_loopw [5] (fun v wr => ∃ k : Nat, k ≤ s.size ∧ v = .int .i64 (k : Int) ∧ Asd (runP isDig s.data.toList = k + runP isDig (s.data.toList.drop k)) ∧ wr = w) (fun v _ => s.size - (intOf v).toNat)
  case atStart => exact ⟨0, by omega, rfl, ⟨by simp⟩, rfl⟩
  case round =>
    obtain ⟨k, hk, rfl, HR, rfl⟩ := hrel
    by_cases hlt : k < s.size
    · have HD := Asd.mk (drop_cons s k hlt)
      have hc := s[k].toNat_lt
      cases hp : isDig s[k] with
      | true =>
        have HR2 : Asd (runP isDig s.data.toList = (k + 1) + runP isDig (s.data.toList.drop (k + 1))) := Asd.mk (by
          rw [HR.out, HD.out, runP, if_pos hp]; omega)
        have HP := Asd.mk hp
        clear hp
        go_wp2_with fail
        refine (digit_calls s[k].toNat hc _).mono ?_
        rintro e w' ⟨rfl, rfl⟩
        rw [show (digN s[k].toNat) = true from HP.out]
        go_wp2
        go_roundw
        case rel => exact ⟨k + 1, by omega, by go_num, HR2, by first | trivial | rfl⟩
        case measure => simp [intOf]; omega
      | false =>
        have HR2 : Asd (runP isDig s.data.toList = k) := Asd.mk (by
          rw [HR.out, HD.out, runP, hp]; rfl)
        have HP := Asd.mk hp
        clear hp
        go_wp2_with fail
        refine (digit_calls s[k].toNat hc _).mono ?_
        rintro e w' ⟨rfl, rfl⟩
        rw [show (digN s[k].toNat) = false from HP.out]
        go_wp2
        go_ret
        exact ⟨ret_eq (by rw [HR2.out]; rfl), rfl⟩
    · obtain rfl : k = s.size := by omega
      have HR2 : Asd (runP isDig s.data.toList = s.size) := Asd.mk (by
        rw [HR.out, List.drop_of_length_le (Nat.le_of_eq (show s.data.toList.length = s.size from rfl))]; rfl)
      clear hlt
      go_wp2
      go_ret
      exact ⟨ret_eq (by rw [HR2.out]; rfl), rfl⟩

theorem textP_q0 : textP [39] = some ([], 1) := by rw [textP.eq_def]; rfl
theorem textP_q1 {d : UInt8} (h : d ≠ 39) (r : List UInt8) : textP (39 :: d :: r) = some ([], 1) := by rw [textP.eq_def]; simp [h]
theorem textP_q2 (r : List UInt8) : textP (39 :: 39 :: r) = (textP r).map (fun x => (39 :: x.1, x.2 + 2)) := by rw [textP.eq_def]; rfl
theorem textP_c {c : UInt8} (h : c ≠ 39) (r : List UInt8) : textP (c :: r) = (textP r).map (fun x => (c :: x.1, x.2 + 1)) := by rw [textP.eq_def]; simp [h]
theorem textP_nil : textP [] = none := by rw [textP.eq_def]
def textO (r : List UInt8) : List UInt8 × Nat := match textP r with | none => ([], 0) | some x => (x.1, x.2 + 1)

def TextSt (r : List UInt8) (l : List UInt8) (k : Nat) (q : List UInt8) : Prop := 1 ≤ k ∧ textP r = (textP q).map (fun x => (l ++ x.1, x.2 + (k - 1)))
theorem TextSt.done {r l q : List UInt8} {k : Nat} (h : TextSt r l k q) (hq : textP q = some ([], 1)) : textO r = (l, k + 1) := by
  have h1 := h.1
  rw [textO, h.2, hq]
  simp
  omega
theorem TextSt.none {r l : List UInt8} {k : Nat} (h : TextSt r l k []) : textO r = ([], 0) := by
  rw [textO, h.2, textP_nil]; rfl
theorem TextSt.step {r l q : List UInt8} {k : Nat} {c : UInt8} (h : TextSt r l k (c :: q)) (hc : c ≠ 39) : TextSt r (l ++ [c]) (k + 1) q := by
  refine ⟨by omega, ?_⟩
  have h1 := h.1
  rw [h.2, textP_c hc, Option.map_map]
  congr 1
  funext x
  simp
  omega
theorem TextSt.two {r l q : List UInt8} {k : Nat} (h : TextSt r l k (39 :: 39 :: q)) : TextSt r (l ++ [39]) (k + 2) q := by
  refine ⟨by omega, ?_⟩
  have h1 := h.1
  rw [h.2, textP_q2, Option.map_map]
  congr 1
  funext x
  simp
  omega

set_option maxRecDepth 100000 in
theorem text_calls (s : ByteArray) (w : World) (h1 : 1 ≤ s.size) (hs : s.size ≤ 1048576) :
    Calls Tryz.prog 79 #[.string s] w fun e w' => e = .returned (.tuple #[.string ⟨(textO (s.data.toList.drop 1)).1.toArray⟩, .int .i64 ((textO (s.data.toList.drop 1)).2 : Nat)]) ∧ Below w.heap.size w w' := by
  have HBF := Asd.mk (bld_fresh w)
  have HB2 : Asd (Below w.heap.size w (w.alloc (.cells #[.pointer none, .slice none 0 0] 124))) := Asd.mk (below_alloc (Below.refl _ w) _)
  have HL2 : Asd (w.heap.size ≤ (w.alloc (.cells #[.pointer none, .slice none 0 0] 124)).heap.size) := Asd.mk (by simp)
  have HLN : Asd (s.data.toList.length = s.size) := Asd.mk rfl
  go_enter Tryz.func79, Tryz.ntmps79
  go_upto_region 2 with fail
  generalize w.alloc (.cells #[.pointer none, .slice none 0 0] 124) = w2 at HBF HB2 HL2 ⊢
  generalize hb : w.heap.size = b at HBF HL2 HB2 ⊢
  have HBW := Asd.mk hb
  clear hb
  go_wp2
  go_loopw [5] (fun i wr => ∃ (k : Nat) (l : List UInt8), k ≤ s.size ∧ l.length ≤ k ∧ i = .int .i64 (k : Int) ∧ Asd (TextSt (s.data.toList.drop 1) l k (s.data.toList.drop k)) ∧ Asd (Lib.IsBuilder 124 5 b b (Lib.byteCells l) wr) ∧ Asd (Below b w2 wr)) (fun i _ => s.size - (intOf i).toNat)
  case atStart => exact ⟨1, [], h1, by simp, rfl, ⟨⟨Nat.le_refl _, by simp⟩⟩, HBF, ⟨Below.refl _ _⟩⟩
  case round =>
    obtain ⟨k, l, hk, hl, rfl, HT, HBD, HBR⟩ := hrel
    by_cases hlt : k < s.size
    · have HD := Asd.mk (drop_cons s k hlt)
      rw [HD.out] at HT
      have hc := s[k].toNat_lt
      by_cases h39 : s[k].toNat = 39
      · have h39' : s[k] = 39 := UInt8.toNat_inj.mp h39
        rw [h39'] at HT
        by_cases hlast : k + 1 = s.size
        · have HO : Asd (textO (s.data.toList.drop 1) = (l, s.size)) := Asd.mk (by
            rw [HT.out.done (by rw [List.drop_of_length_le (by rw [HLN.out]; omega)]; exact textP_q0), hlast])
          go_wp2_with fail
          refine (Tryz.Builder_String_any b b _ wr HBD.out (by have := HL2.out; have := HBR.out.size; omega)).mono ?_
          rintro e w5 ⟨rfl, hb5⟩
          have HBE : Asd (Below b w w5) := Asd.mk (HB2.out.trans (HBR.out.trans hb5))
          clear hb5
          go_wp2
          refine bodyPost_ret (results_tmp2 rfl _ _ _) rfl ?_
          exact ⟨ret_eq (by rw [HO.out]; rfl), by rw [HBW.out]; exact HBE.out⟩
        · have hlt2 : k + 1 < s.size := by omega
          have HD2 := Asd.mk (drop_cons s (k + 1) hlt2)
          rw [HD2.out] at HT
          have hd := s[k + 1].toNat_lt
          by_cases h39d : s[k + 1].toNat = 39
          · have h39d' : s[k + 1] = 39 := UInt8.toNat_inj.mp h39d
            rw [h39d'] at HT
            have HT2 := Asd.mk HT.out.two
            clear HT h39d' h39'
            go_wp2_with fail
            refine (Tryz.Builder_WriteByte b b _ _ wr HBD.out (by rw [byteCells_len]; omega) (by have := HL2.out; have := HBR.out.size; omega)).mono ?_
            rintro e w4 ⟨rfl, hbd, hb4⟩
            rw [show Lib.byteCells l ++ [Value.int .u8 39] = Lib.byteCells (l ++ [39]) by rw [byteCells_snoc]; rfl] at hbd
            have HBD4 := Asd.mk hbd
            have HB4 : Asd (Below b w2 w4) := Asd.mk (HBR.out.trans hb4)
            clear hbd hb4
            go_wp2
            go_roundw
            case rel => exact ⟨k + 2, l ++ [39], by omega, by simp; omega, by go_num, HT2, ⟨.inr HBD4.out⟩, HB4⟩
            case measure => simp [intOf]; omega
          · have HO : Asd (textO (s.data.toList.drop 1) = (l, k + 1)) := Asd.mk (HT.out.done (textP_q1 (fun h => h39d (by rw [h]; rfl)) _))
            go_wp2_with fail
            rotate_left
            · exfalso
              have := (‹((k : Int) + 1 == (s.size : Int)) = false ∧ ((s[k + 1].toNat : Int) != 39) = false›).2
              simp at this
              omega
            refine (Tryz.Builder_String_any b b _ wr HBD.out (by have := HL2.out; have := HBR.out.size; omega)).mono ?_
            rintro e w5 ⟨rfl, hb5⟩
            have HBE : Asd (Below b w w5) := Asd.mk (HB2.out.trans (HBR.out.trans hb5))
            clear hb5
            go_wp2
            refine bodyPost_ret (results_tmp2 rfl _ _ _) rfl ?_
            exact ⟨ret_eq (by rw [HO.out]; rfl), by rw [HBW.out]; exact HBE.out⟩
      · have HT2 := Asd.mk (HT.out.step (fun h => h39 (by rw [h]; rfl)))
        clear HT
        go_wp2_with fail
        refine (Tryz.Builder_WriteByte b b _ _ wr HBD.out (by rw [byteCells_len]; omega) (by have := HL2.out; have := HBR.out.size; omega)).mono ?_
        rintro e w4 ⟨rfl, hbd, hb4⟩
        rw [← byteCells_snoc] at hbd
        have HBD4 := Asd.mk hbd
        have HB4 : Asd (Below b w2 w4) := Asd.mk (HBR.out.trans hb4)
        clear hbd hb4
        go_wp2
        go_roundw
        case rel => exact ⟨k + 1, _, by omega, by simp; omega, by go_num, HT2, ⟨.inr HBD4.out⟩, HB4⟩
        case measure => simp [intOf]; omega
    · obtain rfl : k = s.size := by omega
      have HO : Asd (textO (s.data.toList.drop 1) = ([], 0)) := Asd.mk (TextSt.none (l := l) (k := s.size) (by
        have := HT.out
        rw [List.drop_of_length_le (Nat.le_of_eq HLN.out)] at this
        exact this))
      have HBE : Asd (Below b w wr) := Asd.mk (HB2.out.trans HBR.out)
      clear hlt
      go_wp2
      refine bodyPost_ret (results_tmp2 rfl _ _ _) rfl ?_
      exact ⟨ret_eq (by rw [HO.out]; rfl), by rw [HBW.out]; exact HBE.out⟩

theorem load_token {w : World} {g : Nat} {cs : Array Value} (hg : w.heap[g]? = some (.cells cs 88 (0, 0))) (h4 : cs.size = 4) : (loadVar 88 ⟨g, 0, none⟩).run Tryz.prog w = .ok (.agg cs) w :=
  run_loadVar_row w g 88 88 cs (0, 0) _ hg Tryz.underlying88 rfl (by rw [h4]; kernel_rfl)
theorem results_token {fn : Func} {p u : Tmp} (h : fn.results = #[.cell p 88, .tmp u]) (tmps : Array Value) (w : World) (g : Nat) (cs : Array Value)
    (hp : tmps.getD p undef = .pointer (some ⟨g, 0, none⟩)) (hg : w.heap[g]? = some (.cells cs 88 (0, 0))) (h4 : cs.size = 4) :
    (results fn tmps).run Tryz.prog w = .ok (.tuple #[.agg cs, tmps.getD u undef]) w := by
  rw [results_cell_tmp h, hp]
  simp [asAddr, load_token hg h4, Result.andThen]

def TokEnd (l : List UInt8) (w : World) (e : Ending) (w' : World) : Prop :=
  Below w.heap.size w w' ∧ match tokP l with
  | some x => e = .returned (.tuple #[.agg #[.int .i64 (x.1.kind : Int), .string ⟨x.1.text.toArray⟩, .int .i64 0, .int .i64 x.1.num], .int .i64 (x.2 : Nat)])
  | none => ∃ k tx nm, e = .returned (.tuple #[.agg #[.int .i64 k, .string tx, .int .i64 0, .int .i64 nm], .int .i64 0])
theorem tok_some {l : List UInt8} {x : Tk × Nat} {w w' : World} {e : Ending} (hx : tokP l = some x) (hb : Below w.heap.size w w') (he : e = .returned (.tuple #[.agg #[.int .i64 (x.1.kind : Int), .string ⟨x.1.text.toArray⟩, .int .i64 0, .int .i64 x.1.num], .int .i64 (x.2 : Nat)])) : TokEnd l w e w' := ⟨hb, by rw [hx]; exact he⟩
theorem tok_none {l : List UInt8} {w w' : World} {e : Ending} (hx : tokP l = none) (hb : Below w.heap.size w w') (k : Int) (tx : ByteArray) (nm : Int) (he : e = .returned (.tuple #[.agg #[.int .i64 k, .string tx, .int .i64 0, .int .i64 nm], .int .i64 0])) : TokEnd l w e w' := ⟨hb, by rw [hx]; exact ⟨k, tx, nm, he⟩⟩

theorem tokP_blob {c : UInt8} {r : List UInt8} (hc : c = 120 ∨ c = 88) (hr : r.head? = some 39) : tokP (c :: r) = (blobP r.tail).map fun x => (⟨4, x.1, 0⟩, x.2 + 1) := by
  rw [tokP.eq_2, if_pos ⟨hc, hr⟩]
theorem tokP_word {c : UInt8} {r : List UInt8} (h : ¬ ((c = 120 ∨ c = 88) ∧ r.head? = some 39)) (hl : isLet c = true) : tokP (c :: r) = some (⟨1, ((c :: r).take (runP isWrd (c :: r))).map lowB, 0⟩, runP isWrd (c :: r)) := by
  rw [tokP.eq_2, if_neg h, if_pos hl]
theorem tokP_num {c : UInt8} {r : List UInt8} (h : ¬ ((c = 120 ∨ c = 88) ∧ r.head? = some 39)) (hl : isLet c = false) (hd : isDig c = true) : tokP (c :: r) = (numP ((c :: r).take (runP isDig (c :: r)))).map fun v => (⟨2, [], v⟩, runP isDig (c :: r)) := by
  rw [tokP.eq_2, if_neg h, hl, if_neg (by decide), if_pos hd]
theorem tokP_text {r : List UInt8} : tokP (39 :: r) = (textP r).map fun x => (⟨3, x.1, 0⟩, x.2 + 1) := by
  rw [tokP.eq_2, if_neg (by rintro ⟨h | h, _⟩ <;> cases h), show isLet 39 = false by decide, if_neg (by decide), show isDig 39 = false by decide, if_neg (by decide), if_pos rfl]
theorem tokP_sym {c : UInt8} {r : List UInt8} (h : ¬ ((c = 120 ∨ c = 88) ∧ r.head? = some 39)) (hl : isLet c = false) (hd : isDig c = false) (hq : ¬ c = 39) : tokP (c :: r) = if symP (c :: r) = 0 then none else some (⟨5, (c :: r).take (symP (c :: r)), 0⟩, symP (c :: r)) := by
  rw [tokP.eq_2, if_neg h, hl, if_neg (by decide), hd, if_neg (by decide), if_neg hq]

theorem run_all (p : UInt8 → Bool) : ∀ (l : List UInt8), ∀ c ∈ l.take (runP p l), p c = true
  | [], c, h => by simp [runP] at h
  | a :: r, c, h => by
    rw [runP] at h
    by_cases ha : p a = true
    · rw [if_pos ha, List.take_succ_cons] at h
      rcases List.mem_cons.mp h with rfl | h
      · exact ha
      · exact run_all p r c h
    · rw [if_neg ha] at h
      simp at h
theorem run_pos (p : UInt8 → Bool) {c : UInt8} {r : List UInt8} (h : p c = true) : 1 ≤ runP p (c :: r) := by
  rw [runP, if_pos h]; omega
theorem uintM_dig (M : Nat) : ∀ (l : List UInt8) (acc : Nat), (∀ c ∈ l, isDig c = true) → (∃ u, Lib.parseUintM M acc l = .ok u) ∨ Lib.parseUintM M acc l = .range
  | [], acc, _ => .inl ⟨acc, rfl⟩
  | c :: r, acc, h => by
    have hc : 48 ≤ c.toNat ∧ c.toNat ≤ 57 := by
      have := h c (by simp)
      simpa [isDig, digN] using this
    rw [Lib.parseUintM, if_pos hc]
    split
    · exact .inr rfl
    · split
      · exact .inr rfl
      · exact uintM_dig M r _ fun d hd => h d (by simp [hd])
theorem num_dig {l : List UInt8} (hne : l ≠ []) (h : ∀ c ∈ l, isDig c = true) : (∃ v, Lib.parseIntB 64 l = .ok v) ∨ Lib.parseIntB 64 l = .range := by
  match l, hne with
  | c :: r, _ =>
    have hc : 48 ≤ c.toNat ∧ c.toNat ≤ 57 := by
      have := h c (by simp)
      simpa [isDig, digN] using this
    have hu : Lib.parseUintB 64 (c :: r) = Lib.parseUintM (2 ^ 64 - 1) 0 (c :: r) := by
      rw [Lib.parseUintB, if_neg (by simp)]
    rw [Lib.parseIntB]
    simp only [show ¬ (c.toNat = 43 ∨ c.toNat = 45) by omega, if_false, hu]
    rcases uintM_dig (2 ^ 64 - 1) (c :: r) 0 h with ⟨u, hx⟩ | hx
    · rw [hx]
      simp only
      split
      · exact .inr rfl
      · split
        · exact .inr rfl
        · exact .inl ⟨_, rfl⟩
    · rw [hx]
      exact .inr rfl
theorem textO_none {r : List UInt8} (h : textP r = none) : textO r = ([], 0) := by rw [textO, h]
theorem textO_some {r : List UInt8} {x : List UInt8 × Nat} (h : textP r = some x) : textO r = (x.1, x.2 + 1) := by rw [textO, h]
theorem blobO_none {r : List UInt8} (h : blobP r = none) : blobO r = ([], 0) := by rw [blobO, h]
theorem blobO_some {r : List UInt8} {x : List UInt8 × Nat} (h : blobP r = some x) : blobO r = x := by rw [blobO, h]
theorem blobP_ge {r : List UInt8} {x : List UInt8 × Nat} (h : blobP r = some x) : 2 ≤ x.2 := by
  unfold blobP at h
  split at h
  · obtain ⟨y, hy, rfl⟩ := Option.map_eq_some_iff.mp h
    simp
  · cases h
theorem pre1 (l : List UInt8) (a : UInt8) : Lib.hasPrefix l [a] = decide (l.head? = some a) := by
  unfold Lib.hasPrefix
  cases l with
  | nil => rfl
  | cons x l =>
    simp [List.isPrefixOf]
    by_cases h : a = x
    · subst h; simp
    · have : ¬ x = a := fun e => h e.symm
      simp [h, this]
theorem symP_le : ∀ l : List UInt8, symP l ≤ l.length
  | [] => Nat.le_refl _
  | c :: r => by
    simp only [symP, List.length_cons]
    split
    · rename_i h5
      have hr : r ≠ [] := by rintro rfl; simp at h5
      have : 0 < r.length := List.length_pos_iff.mpr hr
      omega
    · split
      · omega
      · omega

structure TkSt (w W : World) (ct : Array Value) : Prop where
  res : W.heap[w.heap.size]? = some (.cells #[.int .i64 0, .string ⟨#[]⟩, .int .i64 0, .int .i64 0] 88 (0, 0))
  box : W.heap[w.heap.size + 1]? = some (.cells ct 88 (0, 0))
  below : Below w.heap.size w W
theorem TkSt.set {w W : World} {ct : Array Value} (h : TkSt w W ct) (k : Nat) (v : Value) : TkSt w (W.setCell ⟨w.heap.size + 1, k, none⟩ v) (ct.setIfInBounds k v) :=
  ⟨blk_far h.res (by simp) v, blk_set h.box k v, h.below.setCell (Nat.le_succ _) v⟩
theorem TkSt.old {w W W' : World} {ct : Array Value} (h : TkSt w W ct) (hb : Below W.heap.size W W') : TkSt w W' ct :=
  ⟨blk_below hb h.res, blk_below hb h.box, h.below.trans (hb.mono h.below.size)⟩
theorem TkSt.new (w : World) : TkSt w ((w.alloc (.cells #[.int .i64 0, .string ⟨#[]⟩, .int .i64 0, .int .i64 0] 88)).alloc (.cells #[.int .i64 0, .string ⟨#[]⟩, .int .i64 0, .int .i64 0] 88)) #[.int .i64 0, .string ⟨#[]⟩, .int .i64 0, .int .i64 0] := by
  refine ⟨blk_alloc (blk_new w _) _, ?_, below_alloc (below_alloc (Below.refl w.heap.size w) _) _⟩
  have h := blk_new (w.alloc (.cells #[.int .i64 0, .string ⟨#[]⟩, .int .i64 0, .int .i64 0] 88)) (.cells #[.int .i64 0, .string ⟨#[]⟩, .int .i64 0, .int .i64 0] 88)
  rwa [show (w.alloc (.cells #[.int .i64 0, .string ⟨#[]⟩, .int .i64 0, .int .i64 0] 88)).heap.size = w.heap.size + 1 by simp] at h

theorem TkSt.drew {w W : World} {ct : Array Value} (h : TkSt w W ct) : TkSt w W.drew ct := ⟨h.res, h.box, h.below.drew⟩
theorem TkSt.fin {w W : World} {ct : Array Value} (h : TkSt w W ct) (a b c d : Value) :
    (((((W.setCell ⟨w.heap.size, 0, none⟩ a).setCell ⟨w.heap.size, 1, none⟩ b).setCell ⟨w.heap.size, 2, none⟩ c).setCell ⟨w.heap.size, 3, none⟩ d)).heap[w.heap.size]? = some (.cells #[a, b, c, d] 88 (0, 0)) ∧
    Below w.heap.size w (((((W.setCell ⟨w.heap.size, 0, none⟩ a).setCell ⟨w.heap.size, 1, none⟩ b).setCell ⟨w.heap.size, 2, none⟩ c).setCell ⟨w.heap.size, 3, none⟩ d)) :=
  ⟨(blk_set (blk_set (blk_set (blk_set h.res 0 a) 1 b) 2 c) 3 d).trans rfl, (((h.below.setCell (Nat.le_refl _) a).setCell (Nat.le_refl _) b).setCell (Nat.le_refl _) c).setCell (Nat.le_refl _) d⟩

set_option maxRecDepth 100000 in
theorem tok_blob120 (s : ByteArray) (w : World) (h1 : 1 ≤ s.size) (hs : s.size ≤ 1048576) (hw : LexW w) (hc : s[0].toNat = 120) (hp : (s.data.toList.drop 1).head? = some 39) :
    Calls Tryz.prog 57 #[.string s] w fun e w' => TokEnd s.data.toList w e w' := by
  have HW := Asd.mk hw
  clear hw
  have HLN : Asd (s.data.toList.length = s.size) := Asd.mk rfl
  have HL : Asd (s.data.toList = s[0] :: s.data.toList.drop 1) := Asd.mk (by have := drop_cons s 0 h1; simpa using this)
  have HXL : Asd ((s.extract 1 s.size).data.toList = s.data.toList.drop 1) := Asd.mk (by
    rw [ext_list, List.take_of_length_le (Nat.le_of_eq (show s.data.toList.length = s.size from rfl))])
  have hc8 := s[0].toNat_lt
  have HP : Asd (Lib.hasPrefix (s.data.toList.drop 1) [39] = true) := Asd.mk (by rw [pre1]; simpa using hp)
  have HC := Asd.mk (show s[0] = 120 from UInt8.toNat_inj.mp hc)
  have HTP : Asd (tokP s.data.toList = (blobP (s.data.toList.drop 1).tail).map fun x => (⟨4, x.1, 0⟩, x.2 + 1)) := Asd.mk (by rw [HL.out, HC.out]; exact tokP_blob (by decide) hp)
  have HX1 : Asd (1 ≤ (s.extract 1 s.size).size) := Asd.mk (by
    have h3 : (s.extract 1 s.size).data.toList.length = (s.extract 1 s.size).size := rfl
    rw [← h3, HXL.out]
    cases hh : s.data.toList.drop 1 with
    | nil => rw [hh] at hp; cases hp
    | cons a b => simp)
  have HXS : Asd ((s.extract 1 s.size).size ≤ 1048576) := Asd.mk (by rw [ext_size]; omega)
  have HTT : Asd ((s.data.toList.drop 1).tail = (s.extract 1 s.size).data.toList.drop 1) := Asd.mk (by rw [HXL.out]; exact List.drop_one.symm)
  rw [HTT.out] at HTP
  clear hp
  go_enter Tryz.func57, Tryz.ntmps57
  have HS := Asd.mk (TkSt.new w)
  go_upto_region 6 with fail
  generalize (w.alloc (.cells #[.int .i64 0, .string ⟨#[]⟩, .int .i64 0, .int .i64 0] 88)).alloc (.cells #[.int .i64 0, .string ⟨#[]⟩, .int .i64 0, .int .i64 0] 88) = W at HS ⊢
  have HWW := Asd.mk (HW.out.below HS.out.below)
  go_wp2_with fail
  refine (Tryz.strings_HasPrefix (s.extract 1 s.size) ⟨#[39]⟩ _).mono ?_
  rintro e w' ⟨rfl, rfl⟩
  rw [HXL.out, show (⟨#[39]⟩ : ByteArray).data.toList = [39] from rfl, HP.out]
  have a0 := (blk_cell HS.out.box 0).trans rfl
  have za0 := blk_frozen HS.out.box 0
  have HS1 := Asd.mk (HS.out.set 0 (.int .i64 4))
  have HWW1 := Asd.mk (HW.out.below HS1.out.below)
  go_wp2_with fail
  refine (blob_calls (s.extract 1 s.size) _ HX1.out HXS.out HWW1.out).mono ?_
  rintro e w1 ⟨rfl, hb1⟩
  have HS2 := Asd.mk (HS1.out.old hb1)
  clear hb1
  cases hbp : blobP ((s.extract 1 s.size).data.toList.drop 1) with
  | none =>
    rw [blobO_none hbp]
    rw [hbp] at HTP
    clear hbp
    have b1 := (blk_cell HS2.out.box 1).trans rfl
    have zb1 := blk_frozen HS2.out.box 1
    have HS3 := Asd.mk (HS2.out.set 1 (.string ⟨([] : List UInt8).toArray⟩))
    have y0 := (blk_cell HS3.out.box 0).trans rfl
    have y1 := (blk_cell HS3.out.box 1).trans rfl
    have y2 := (blk_cell HS3.out.box 2).trans rfl
    have y3 := (blk_cell HS3.out.box 3).trans rfl
    have r0 := (blk_cell HS3.out.res 0).trans rfl
    have zr0 := blk_frozen HS3.out.res 0
    have r1 := (blk_cell HS3.out.res 1).trans rfl
    have zr1 := blk_frozen HS3.out.res 1
    have r2 := (blk_cell HS3.out.res 2).trans rfl
    have zr2 := blk_frozen HS3.out.res 2
    have r3 := (blk_cell HS3.out.res 3).trans rfl
    have zr3 := blk_frozen HS3.out.res 3
    go_wp2
    refine bodyPost_ret (results_token rfl _ _ w.heap.size _ rfl (HS3.out.fin _ _ _ _).1 rfl) rfl ?_
    exact tok_none HTP.out (HS3.out.fin _ _ _ _).2 4 ⟨#[]⟩ 0 rfl
  | some x =>
    rw [blobO_some hbp]
    have hx2 := blobP_ge hbp
    rw [hbp] at HTP
    clear hbp
    obtain ⟨t, n⟩ := x
    have hn0 : 0 < n := by simp only at hx2; omega
    clear hx2
    have HNB : n ≤ 4194304 := by have := (tokP_le HTP.out).2; have := HLN.out; simp only at *; omega
    have b1 := (blk_cell HS2.out.box 1).trans rfl
    have zb1 := blk_frozen HS2.out.box 1
    have HS3 := Asd.mk (HS2.out.set 1 (.string ⟨t.toArray⟩))
    have y0 := (blk_cell HS3.out.box 0).trans rfl
    have y1 := (blk_cell HS3.out.box 1).trans rfl
    have y2 := (blk_cell HS3.out.box 2).trans rfl
    have y3 := (blk_cell HS3.out.box 3).trans rfl
    have r0 := (blk_cell HS3.out.res 0).trans rfl
    have zr0 := blk_frozen HS3.out.res 0
    have r1 := (blk_cell HS3.out.res 1).trans rfl
    have zr1 := blk_frozen HS3.out.res 1
    have r2 := (blk_cell HS3.out.res 2).trans rfl
    have zr2 := blk_frozen HS3.out.res 2
    have r3 := (blk_cell HS3.out.res 3).trans rfl
    have zr3 := blk_frozen HS3.out.res 3
    go_wp2
    refine bodyPost_ret (results_token rfl _ _ w.heap.size _ rfl (HS3.out.fin _ _ _ _).1 rfl) rfl ?_
    exact tok_some HTP.out (HS3.out.fin _ _ _ _).2 rfl
set_option maxRecDepth 100000 in
theorem tok_blob88 (s : ByteArray) (w : World) (h1 : 1 ≤ s.size) (hs : s.size ≤ 1048576) (hw : LexW w) (hc : s[0].toNat = 88) (hp : (s.data.toList.drop 1).head? = some 39) :
    Calls Tryz.prog 57 #[.string s] w fun e w' => TokEnd s.data.toList w e w' := by
  have HW := Asd.mk hw
  clear hw
  have HLN : Asd (s.data.toList.length = s.size) := Asd.mk rfl
  have HL : Asd (s.data.toList = s[0] :: s.data.toList.drop 1) := Asd.mk (by have := drop_cons s 0 h1; simpa using this)
  have HXL : Asd ((s.extract 1 s.size).data.toList = s.data.toList.drop 1) := Asd.mk (by
    rw [ext_list, List.take_of_length_le (Nat.le_of_eq (show s.data.toList.length = s.size from rfl))])
  have hc8 := s[0].toNat_lt
  have HP : Asd (Lib.hasPrefix (s.data.toList.drop 1) [39] = true) := Asd.mk (by rw [pre1]; simpa using hp)
  have HC := Asd.mk (show s[0] = 88 from UInt8.toNat_inj.mp hc)
  have HTP : Asd (tokP s.data.toList = (blobP (s.data.toList.drop 1).tail).map fun x => (⟨4, x.1, 0⟩, x.2 + 1)) := Asd.mk (by rw [HL.out, HC.out]; exact tokP_blob (by decide) hp)
  have HX1 : Asd (1 ≤ (s.extract 1 s.size).size) := Asd.mk (by
    have h3 : (s.extract 1 s.size).data.toList.length = (s.extract 1 s.size).size := rfl
    rw [← h3, HXL.out]
    cases hh : s.data.toList.drop 1 with
    | nil => rw [hh] at hp; cases hp
    | cons a b => simp)
  have HXS : Asd ((s.extract 1 s.size).size ≤ 1048576) := Asd.mk (by rw [ext_size]; omega)
  have HTT : Asd ((s.data.toList.drop 1).tail = (s.extract 1 s.size).data.toList.drop 1) := Asd.mk (by rw [HXL.out]; exact List.drop_one.symm)
  rw [HTT.out] at HTP
  clear hp
  go_enter Tryz.func57, Tryz.ntmps57
  have HS := Asd.mk (TkSt.new w)
  go_upto_region 6 with fail
  generalize (w.alloc (.cells #[.int .i64 0, .string ⟨#[]⟩, .int .i64 0, .int .i64 0] 88)).alloc (.cells #[.int .i64 0, .string ⟨#[]⟩, .int .i64 0, .int .i64 0] 88) = W at HS ⊢
  have HWW := Asd.mk (HW.out.below HS.out.below)
  go_wp2_with fail
  refine (Tryz.strings_HasPrefix (s.extract 1 s.size) ⟨#[39]⟩ _).mono ?_
  rintro e w' ⟨rfl, rfl⟩
  rw [HXL.out, show (⟨#[39]⟩ : ByteArray).data.toList = [39] from rfl, HP.out]
  have a0 := (blk_cell HS.out.box 0).trans rfl
  have za0 := blk_frozen HS.out.box 0
  have HS1 := Asd.mk (HS.out.set 0 (.int .i64 4))
  have HWW1 := Asd.mk (HW.out.below HS1.out.below)
  go_wp2_with fail
  refine (blob_calls (s.extract 1 s.size) _ HX1.out HXS.out HWW1.out).mono ?_
  rintro e w1 ⟨rfl, hb1⟩
  have HS2 := Asd.mk (HS1.out.old hb1)
  clear hb1
  cases hbp : blobP ((s.extract 1 s.size).data.toList.drop 1) with
  | none =>
    rw [blobO_none hbp]
    rw [hbp] at HTP
    clear hbp
    have b1 := (blk_cell HS2.out.box 1).trans rfl
    have zb1 := blk_frozen HS2.out.box 1
    have HS3 := Asd.mk (HS2.out.set 1 (.string ⟨([] : List UInt8).toArray⟩))
    have y0 := (blk_cell HS3.out.box 0).trans rfl
    have y1 := (blk_cell HS3.out.box 1).trans rfl
    have y2 := (blk_cell HS3.out.box 2).trans rfl
    have y3 := (blk_cell HS3.out.box 3).trans rfl
    have r0 := (blk_cell HS3.out.res 0).trans rfl
    have zr0 := blk_frozen HS3.out.res 0
    have r1 := (blk_cell HS3.out.res 1).trans rfl
    have zr1 := blk_frozen HS3.out.res 1
    have r2 := (blk_cell HS3.out.res 2).trans rfl
    have zr2 := blk_frozen HS3.out.res 2
    have r3 := (blk_cell HS3.out.res 3).trans rfl
    have zr3 := blk_frozen HS3.out.res 3
    go_wp2
    refine bodyPost_ret (results_token rfl _ _ w.heap.size _ rfl (HS3.out.fin _ _ _ _).1 rfl) rfl ?_
    exact tok_none HTP.out (HS3.out.fin _ _ _ _).2 4 ⟨#[]⟩ 0 rfl
  | some x =>
    rw [blobO_some hbp]
    have hx2 := blobP_ge hbp
    rw [hbp] at HTP
    clear hbp
    obtain ⟨t, n⟩ := x
    have hn0 : 0 < n := by simp only at hx2; omega
    clear hx2
    have HNB : n ≤ 4194304 := by have := (tokP_le HTP.out).2; have := HLN.out; simp only at *; omega
    have b1 := (blk_cell HS2.out.box 1).trans rfl
    have zb1 := blk_frozen HS2.out.box 1
    have HS3 := Asd.mk (HS2.out.set 1 (.string ⟨t.toArray⟩))
    have y0 := (blk_cell HS3.out.box 0).trans rfl
    have y1 := (blk_cell HS3.out.box 1).trans rfl
    have y2 := (blk_cell HS3.out.box 2).trans rfl
    have y3 := (blk_cell HS3.out.box 3).trans rfl
    have r0 := (blk_cell HS3.out.res 0).trans rfl
    have zr0 := blk_frozen HS3.out.res 0
    have r1 := (blk_cell HS3.out.res 1).trans rfl
    have zr1 := blk_frozen HS3.out.res 1
    have r2 := (blk_cell HS3.out.res 2).trans rfl
    have zr2 := blk_frozen HS3.out.res 2
    have r3 := (blk_cell HS3.out.res 3).trans rfl
    have zr3 := blk_frozen HS3.out.res 3
    go_wp2
    refine bodyPost_ret (results_token rfl _ _ w.heap.size _ rfl (HS3.out.fin _ _ _ _).1 rfl) rfl ?_
    exact tok_some HTP.out (HS3.out.fin _ _ _ _).2 rfl
set_option maxRecDepth 100000 in
theorem tok_word120 (s : ByteArray) (w : World) (h1 : 1 ≤ s.size) (hs : s.size ≤ 1048576) (hw : LexW w) (hc : s[0].toNat = 120) (hp : ¬ (s.data.toList.drop 1).head? = some 39) :
    Calls Tryz.prog 57 #[.string s] w fun e w' => TokEnd s.data.toList w e w' := by
  have HW := Asd.mk hw
  clear hw
  have HLN : Asd (s.data.toList.length = s.size) := Asd.mk rfl
  have HL : Asd (s.data.toList = s[0] :: s.data.toList.drop 1) := Asd.mk (by have := drop_cons s 0 h1; simpa using this)
  have HXL : Asd ((s.extract 1 s.size).data.toList = s.data.toList.drop 1) := Asd.mk (by
    rw [ext_list, List.take_of_length_le (Nat.le_of_eq (show s.data.toList.length = s.size from rfl))])
  have hc8 := s[0].toNat_lt
  have HP : Asd (Lib.hasPrefix (s.data.toList.drop 1) [39] = false) := Asd.mk (by rw [pre1]; simpa using hp)
  have HNX : ¬ ((s[0] = 120 ∨ s[0] = 88) ∧ (s.data.toList.drop 1).head? = some 39) := fun h => hp h.2
  have HLC : isLet s[0] = true := by show letN s[0].toNat = true; rw [hc]; decide
  have HTP : Asd (tokP s.data.toList = some (⟨1, (s.data.toList.take (runP isWrd s.data.toList)).map lowB, 0⟩, runP isWrd s.data.toList)) := Asd.mk (by
    have h := tokP_word (c := s[0]) (r := s.data.toList.drop 1) HNX HLC
    rwa [← HL.out] at h)
  have HN : Asd (runP isWrd s.data.toList ≤ s.size) := Asd.mk (runP_le _ _)
  clear hp HNX HLC
  go_enter Tryz.func57, Tryz.ntmps57
  have HS := Asd.mk (TkSt.new w)
  go_upto_region 6 with fail
  generalize (w.alloc (.cells #[.int .i64 0, .string ⟨#[]⟩, .int .i64 0, .int .i64 0] 88)).alloc (.cells #[.int .i64 0, .string ⟨#[]⟩, .int .i64 0, .int .i64 0] 88) = W at HS ⊢
  have HWW := Asd.mk (HW.out.below HS.out.below)
  go_wp2_with fail
  refine (Tryz.strings_HasPrefix (s.extract 1 s.size) ⟨#[39]⟩ _).mono ?_
  rintro e w' ⟨rfl, rfl⟩
  rw [HXL.out, show (⟨#[39]⟩ : ByteArray).data.toList = [39] from rfl, HP.out]
  go_wp2_with fail
  refine (letter_calls 120 (by first | exact hc8 | decide) _).mono ?_
  rintro e w' ⟨rfl, rfl⟩
  rw [show letN 120 = true from by decide]
  go_wp2_with fail
  refine (run_word s _ hs).mono ?_
  rintro e w' ⟨rfl, rfl⟩
  generalize runP isWrd s.data.toList = n at HTP HN
  have hn := HN.out
  have HEL : Asd ((s.extract 0 n).data.toList = s.data.toList.take n) := Asd.mk (by rw [ext_list]; simp)
  have HES : Asd ((s.extract 0 n).size ≤ 1048576) := Asd.mk (by rw [ext_size]; omega)
  go_wp2_with fail
  refine (lowered_calls (s.extract 0 n) _ HES.out).mono ?_
  rintro e w1 ⟨rfl, hb1⟩
  rw [HEL.out]
  have HS2 := Asd.mk (HS.out.old hb1)
  clear hb1
  generalize (s.data.toList.take n).map lowB = t at HTP ⊢
  have b0 := (blk_cell HS2.out.box 0).trans rfl
  have zb0 := blk_frozen HS2.out.box 0
  have b1 := (blk_cell HS2.out.box 1).trans rfl
  have zb1 := blk_frozen HS2.out.box 1
  have HS3 := Asd.mk ((HS2.out.set 0 (.int .i64 1)).set 1 (.string ⟨t.toArray⟩))
  have y0 := (blk_cell HS3.out.box 0).trans rfl
  have y1 := (blk_cell HS3.out.box 1).trans rfl
  have y2 := (blk_cell HS3.out.box 2).trans rfl
  have y3 := (blk_cell HS3.out.box 3).trans rfl
  have r0 := (blk_cell HS3.out.res 0).trans rfl
  have zr0 := blk_frozen HS3.out.res 0
  have r1 := (blk_cell HS3.out.res 1).trans rfl
  have zr1 := blk_frozen HS3.out.res 1
  have r2 := (blk_cell HS3.out.res 2).trans rfl
  have zr2 := blk_frozen HS3.out.res 2
  have r3 := (blk_cell HS3.out.res 3).trans rfl
  have zr3 := blk_frozen HS3.out.res 3
  go_wp2
  refine bodyPost_ret (results_token rfl _ _ w.heap.size _ rfl (HS3.out.fin _ _ _ _).1 rfl) rfl ?_
  exact tok_some HTP.out (HS3.out.fin _ _ _ _).2 rfl
set_option maxRecDepth 100000 in
theorem tok_word88 (s : ByteArray) (w : World) (h1 : 1 ≤ s.size) (hs : s.size ≤ 1048576) (hw : LexW w) (hc : s[0].toNat = 88) (hp : ¬ (s.data.toList.drop 1).head? = some 39) :
    Calls Tryz.prog 57 #[.string s] w fun e w' => TokEnd s.data.toList w e w' := by
  have HW := Asd.mk hw
  clear hw
  have HLN : Asd (s.data.toList.length = s.size) := Asd.mk rfl
  have HL : Asd (s.data.toList = s[0] :: s.data.toList.drop 1) := Asd.mk (by have := drop_cons s 0 h1; simpa using this)
  have HXL : Asd ((s.extract 1 s.size).data.toList = s.data.toList.drop 1) := Asd.mk (by
    rw [ext_list, List.take_of_length_le (Nat.le_of_eq (show s.data.toList.length = s.size from rfl))])
  have hc8 := s[0].toNat_lt
  have HP : Asd (Lib.hasPrefix (s.data.toList.drop 1) [39] = false) := Asd.mk (by rw [pre1]; simpa using hp)
  have HNX : ¬ ((s[0] = 120 ∨ s[0] = 88) ∧ (s.data.toList.drop 1).head? = some 39) := fun h => hp h.2
  have HLC : isLet s[0] = true := by show letN s[0].toNat = true; rw [hc]; decide
  have HTP : Asd (tokP s.data.toList = some (⟨1, (s.data.toList.take (runP isWrd s.data.toList)).map lowB, 0⟩, runP isWrd s.data.toList)) := Asd.mk (by
    have h := tokP_word (c := s[0]) (r := s.data.toList.drop 1) HNX HLC
    rwa [← HL.out] at h)
  have HN : Asd (runP isWrd s.data.toList ≤ s.size) := Asd.mk (runP_le _ _)
  clear hp HNX HLC
  go_enter Tryz.func57, Tryz.ntmps57
  have HS := Asd.mk (TkSt.new w)
  go_upto_region 6 with fail
  generalize (w.alloc (.cells #[.int .i64 0, .string ⟨#[]⟩, .int .i64 0, .int .i64 0] 88)).alloc (.cells #[.int .i64 0, .string ⟨#[]⟩, .int .i64 0, .int .i64 0] 88) = W at HS ⊢
  have HWW := Asd.mk (HW.out.below HS.out.below)
  go_wp2_with fail
  refine (Tryz.strings_HasPrefix (s.extract 1 s.size) ⟨#[39]⟩ _).mono ?_
  rintro e w' ⟨rfl, rfl⟩
  rw [HXL.out, show (⟨#[39]⟩ : ByteArray).data.toList = [39] from rfl, HP.out]
  go_wp2_with fail
  refine (letter_calls 88 (by first | exact hc8 | decide) _).mono ?_
  rintro e w' ⟨rfl, rfl⟩
  rw [show letN 88 = true from by decide]
  go_wp2_with fail
  refine (run_word s _ hs).mono ?_
  rintro e w' ⟨rfl, rfl⟩
  generalize runP isWrd s.data.toList = n at HTP HN
  have hn := HN.out
  have HEL : Asd ((s.extract 0 n).data.toList = s.data.toList.take n) := Asd.mk (by rw [ext_list]; simp)
  have HES : Asd ((s.extract 0 n).size ≤ 1048576) := Asd.mk (by rw [ext_size]; omega)
  go_wp2_with fail
  refine (lowered_calls (s.extract 0 n) _ HES.out).mono ?_
  rintro e w1 ⟨rfl, hb1⟩
  rw [HEL.out]
  have HS2 := Asd.mk (HS.out.old hb1)
  clear hb1
  generalize (s.data.toList.take n).map lowB = t at HTP ⊢
  have b0 := (blk_cell HS2.out.box 0).trans rfl
  have zb0 := blk_frozen HS2.out.box 0
  have b1 := (blk_cell HS2.out.box 1).trans rfl
  have zb1 := blk_frozen HS2.out.box 1
  have HS3 := Asd.mk ((HS2.out.set 0 (.int .i64 1)).set 1 (.string ⟨t.toArray⟩))
  have y0 := (blk_cell HS3.out.box 0).trans rfl
  have y1 := (blk_cell HS3.out.box 1).trans rfl
  have y2 := (blk_cell HS3.out.box 2).trans rfl
  have y3 := (blk_cell HS3.out.box 3).trans rfl
  have r0 := (blk_cell HS3.out.res 0).trans rfl
  have zr0 := blk_frozen HS3.out.res 0
  have r1 := (blk_cell HS3.out.res 1).trans rfl
  have zr1 := blk_frozen HS3.out.res 1
  have r2 := (blk_cell HS3.out.res 2).trans rfl
  have zr2 := blk_frozen HS3.out.res 2
  have r3 := (blk_cell HS3.out.res 3).trans rfl
  have zr3 := blk_frozen HS3.out.res 3
  go_wp2
  refine bodyPost_ret (results_token rfl _ _ w.heap.size _ rfl (HS3.out.fin _ _ _ _).1 rfl) rfl ?_
  exact tok_some HTP.out (HS3.out.fin _ _ _ _).2 rfl
set_option maxRecDepth 100000 in
theorem tok_word (s : ByteArray) (w : World) (h1 : 1 ≤ s.size) (hs : s.size ≤ 1048576) (hw : LexW w) (hx : ¬ s[0].toNat = 120) (hX : ¬ s[0].toNat = 88) (hl : letN s[0].toNat = true) :
    Calls Tryz.prog 57 #[.string s] w fun e w' => TokEnd s.data.toList w e w' := by
  have HW := Asd.mk hw
  clear hw
  have HLN : Asd (s.data.toList.length = s.size) := Asd.mk rfl
  have HL : Asd (s.data.toList = s[0] :: s.data.toList.drop 1) := Asd.mk (by have := drop_cons s 0 h1; simpa using this)
  have HXL : Asd ((s.extract 1 s.size).data.toList = s.data.toList.drop 1) := Asd.mk (by
    rw [ext_list, List.take_of_length_le (Nat.le_of_eq (show s.data.toList.length = s.size from rfl))])
  have hc8 := s[0].toNat_lt
  have HNX : ¬ ((s[0] = 120 ∨ s[0] = 88) ∧ (s.data.toList.drop 1).head? = some 39) := fun h => by
    rcases h.1 with h | h
    · exact hx (by rw [h]; rfl)
    · exact hX (by rw [h]; rfl)
  have HLC : isLet s[0] = true := hl
  have HTP : Asd (tokP s.data.toList = some (⟨1, (s.data.toList.take (runP isWrd s.data.toList)).map lowB, 0⟩, runP isWrd s.data.toList)) := Asd.mk (by
    have h := tokP_word (c := s[0]) (r := s.data.toList.drop 1) HNX HLC
    rwa [← HL.out] at h)
  have HN : Asd (runP isWrd s.data.toList ≤ s.size) := Asd.mk (runP_le _ _)
  have HLE := Asd.mk hl
  clear HNX HLC hl
  go_enter Tryz.func57, Tryz.ntmps57
  have HS := Asd.mk (TkSt.new w)
  go_upto_region 6 with fail
  generalize (w.alloc (.cells #[.int .i64 0, .string ⟨#[]⟩, .int .i64 0, .int .i64 0] 88)).alloc (.cells #[.int .i64 0, .string ⟨#[]⟩, .int .i64 0, .int .i64 0] 88) = W at HS ⊢
  have HWW := Asd.mk (HW.out.below HS.out.below)
  go_wp2_with fail
  refine (letter_calls s[0].toNat (by first | exact hc8 | decide) _).mono ?_
  rintro e w' ⟨rfl, rfl⟩
  rw [show letN s[0].toNat = true from HLE.out]
  go_wp2_with fail
  refine (run_word s _ hs).mono ?_
  rintro e w' ⟨rfl, rfl⟩
  generalize runP isWrd s.data.toList = n at HTP HN
  have hn := HN.out
  have HEL : Asd ((s.extract 0 n).data.toList = s.data.toList.take n) := Asd.mk (by rw [ext_list]; simp)
  have HES : Asd ((s.extract 0 n).size ≤ 1048576) := Asd.mk (by rw [ext_size]; omega)
  go_wp2_with fail
  refine (lowered_calls (s.extract 0 n) _ HES.out).mono ?_
  rintro e w1 ⟨rfl, hb1⟩
  rw [HEL.out]
  have HS2 := Asd.mk (HS.out.old hb1)
  clear hb1
  generalize (s.data.toList.take n).map lowB = t at HTP ⊢
  have b0 := (blk_cell HS2.out.box 0).trans rfl
  have zb0 := blk_frozen HS2.out.box 0
  have b1 := (blk_cell HS2.out.box 1).trans rfl
  have zb1 := blk_frozen HS2.out.box 1
  have HS3 := Asd.mk ((HS2.out.set 0 (.int .i64 1)).set 1 (.string ⟨t.toArray⟩))
  have y0 := (blk_cell HS3.out.box 0).trans rfl
  have y1 := (blk_cell HS3.out.box 1).trans rfl
  have y2 := (blk_cell HS3.out.box 2).trans rfl
  have y3 := (blk_cell HS3.out.box 3).trans rfl
  have r0 := (blk_cell HS3.out.res 0).trans rfl
  have zr0 := blk_frozen HS3.out.res 0
  have r1 := (blk_cell HS3.out.res 1).trans rfl
  have zr1 := blk_frozen HS3.out.res 1
  have r2 := (blk_cell HS3.out.res 2).trans rfl
  have zr2 := blk_frozen HS3.out.res 2
  have r3 := (blk_cell HS3.out.res 3).trans rfl
  have zr3 := blk_frozen HS3.out.res 3
  go_wp2
  refine bodyPost_ret (results_token rfl _ _ w.heap.size _ rfl (HS3.out.fin _ _ _ _).1 rfl) rfl ?_
  exact tok_some HTP.out (HS3.out.fin _ _ _ _).2 rfl
set_option maxRecDepth 100000 in
theorem tok_sym (s : ByteArray) (w : World) (h1 : 1 ≤ s.size) (hs : s.size ≤ 1048576) (hw : LexW w) (hx : ¬ s[0].toNat = 120) (hX : ¬ s[0].toNat = 88) (hl : letN s[0].toNat = false) (hd : digN s[0].toNat = false) (hq : ¬ s[0].toNat = 39) :
    Calls Tryz.prog 57 #[.string s] w fun e w' => TokEnd s.data.toList w e w' := by
  have HW := Asd.mk hw
  clear hw
  have HLN : Asd (s.data.toList.length = s.size) := Asd.mk rfl
  have HL : Asd (s.data.toList = s[0] :: s.data.toList.drop 1) := Asd.mk (by have := drop_cons s 0 h1; simpa using this)
  have HXL : Asd ((s.extract 1 s.size).data.toList = s.data.toList.drop 1) := Asd.mk (by
    rw [ext_list, List.take_of_length_le (Nat.le_of_eq (show s.data.toList.length = s.size from rfl))])
  have hc8 := s[0].toNat_lt
  have HNX : ¬ ((s[0] = 120 ∨ s[0] = 88) ∧ (s.data.toList.drop 1).head? = some 39) := fun h => by
    rcases h.1 with h | h
    · exact hx (by rw [h]; rfl)
    · exact hX (by rw [h]; rfl)
  have HTP : Asd (tokP s.data.toList = if symP s.data.toList = 0 then none else some (⟨5, s.data.toList.take (symP s.data.toList), 0⟩, symP s.data.toList)) := Asd.mk (by
    have h := tokP_sym (c := s[0]) (r := s.data.toList.drop 1) HNX hl hd (fun h => hq (by rw [h]; rfl))
    rwa [← HL.out] at h)
  have HN : Asd (symP s.data.toList ≤ s.size) := Asd.mk (symP_le _)
  have HLE := Asd.mk hl
  have HDI := Asd.mk hd
  clear HNX hl hd
  go_enter Tryz.func57, Tryz.ntmps57
  have HS := Asd.mk (TkSt.new w)
  go_upto_region 6 with fail
  generalize (w.alloc (.cells #[.int .i64 0, .string ⟨#[]⟩, .int .i64 0, .int .i64 0] 88)).alloc (.cells #[.int .i64 0, .string ⟨#[]⟩, .int .i64 0, .int .i64 0] 88) = W at HS ⊢
  have HWW := Asd.mk (HW.out.below HS.out.below)
  go_wp2_with fail
  refine (letter_calls s[0].toNat (by first | exact hc8 | decide) _).mono ?_
  rintro e w' ⟨rfl, rfl⟩
  rw [show letN s[0].toNat = false from HLE.out]
  go_wp2_with fail
  refine (digit_calls s[0].toNat (by first | exact hc8 | decide) _).mono ?_
  rintro e w' ⟨rfl, rfl⟩
  rw [show digN s[0].toNat = false from HDI.out]
  go_wp2_with fail
  refine (symbol_calls s _ h1 hs).mono ?_
  rintro e w' ⟨rfl, rfl⟩
  generalize symP s.data.toList = n at HTP HN
  have hn := HN.out
  have HEL : Asd ((s.extract 0 n).data.toList = s.data.toList.take n) := Asd.mk (by rw [ext_list]; simp)
  have b0 := (blk_cell HS.out.box 0).trans rfl
  have zb0 := blk_frozen HS.out.box 0
  have b1 := (blk_cell HS.out.box 1).trans rfl
  have zb1 := blk_frozen HS.out.box 1
  go_upto_region 5 with fail
  go_region
  have HS3 := Asd.mk ((HS.out.set 0 (.int .i64 5)).set 1 (.string (s.extract 0 n))).drew
  generalize ((w'.setCell ⟨w.heap.size + 1, 0, none⟩ (.int .i64 5)).setCell ⟨w.heap.size + 1, 1, none⟩ (.string (s.extract 0 n))).drew = W3 at HS3 ⊢
  have y0 := (blk_cell HS3.out.box 0).trans rfl
  have y1 := (blk_cell HS3.out.box 1).trans rfl
  have y2 := (blk_cell HS3.out.box 2).trans rfl
  have y3 := (blk_cell HS3.out.box 3).trans rfl
  have r0 := (blk_cell HS3.out.res 0).trans rfl
  have zr0 := blk_frozen HS3.out.res 0
  have r1 := (blk_cell HS3.out.res 1).trans rfl
  have zr1 := blk_frozen HS3.out.res 1
  have r2 := (blk_cell HS3.out.res 2).trans rfl
  have zr2 := blk_frozen HS3.out.res 2
  have r3 := (blk_cell HS3.out.res 3).trans rfl
  have zr3 := blk_frozen HS3.out.res 3
  by_cases h0 : n = 0
  · subst h0
    have HTN := Asd.mk (HTP.out.trans (if_pos rfl))
    clear HTP hn
    go_wp2
    refine bodyPost_ret (results_token rfl _ _ w.heap.size _ rfl (HS3.out.fin _ _ _ _).1 rfl) rfl ?_
    exact tok_none HTN.out (HS3.out.fin _ _ _ _).2 5 _ 0 rfl
  · have HTN := Asd.mk (HTP.out.trans (if_neg h0))
    have HEX : Asd (s.extract 0 n = ⟨(s.data.toList.take n).toArray⟩) := Asd.mk (by rw [← HEL.out])
    rw [HEX.out] at y1
    go_wp2
    refine bodyPost_ret (results_token rfl _ _ w.heap.size _ rfl (HS3.out.fin _ _ _ _).1 rfl) rfl ?_
    exact tok_some HTN.out (HS3.out.fin _ _ _ _).2 rfl
set_option maxRecDepth 100000 in
theorem tok_text (s : ByteArray) (w : World) (h1 : 1 ≤ s.size) (hs : s.size ≤ 1048576) (hw : LexW w) (hc : s[0].toNat = 39) :
    Calls Tryz.prog 57 #[.string s] w fun e w' => TokEnd s.data.toList w e w' := by
  have HW := Asd.mk hw
  clear hw
  have HLN : Asd (s.data.toList.length = s.size) := Asd.mk rfl
  have HL : Asd (s.data.toList = s[0] :: s.data.toList.drop 1) := Asd.mk (by have := drop_cons s 0 h1; simpa using this)
  have HXL : Asd ((s.extract 1 s.size).data.toList = s.data.toList.drop 1) := Asd.mk (by
    rw [ext_list, List.take_of_length_le (Nat.le_of_eq (show s.data.toList.length = s.size from rfl))])
  have hc8 := s[0].toNat_lt
  have HC := Asd.mk (show s[0] = 39 from UInt8.toNat_inj.mp hc)
  have HTP : Asd (tokP s.data.toList = (textP (s.data.toList.drop 1)).map fun x => (⟨3, x.1, 0⟩, x.2 + 1)) := Asd.mk (by
    have h := tokP_text (r := s.data.toList.drop 1)
    have h2 := HL.out
    rw [HC.out] at h2
    rwa [← h2] at h)
  go_enter Tryz.func57, Tryz.ntmps57
  have HS := Asd.mk (TkSt.new w)
  go_upto_region 6 with fail
  generalize (w.alloc (.cells #[.int .i64 0, .string ⟨#[]⟩, .int .i64 0, .int .i64 0] 88)).alloc (.cells #[.int .i64 0, .string ⟨#[]⟩, .int .i64 0, .int .i64 0] 88) = W at HS ⊢
  have HWW := Asd.mk (HW.out.below HS.out.below)
  go_wp2_with fail
  refine (letter_calls 39 (by first | exact hc8 | decide) _).mono ?_
  rintro e w' ⟨rfl, rfl⟩
  rw [show letN 39 = false from by decide]
  go_wp2_with fail
  refine (digit_calls 39 (by first | exact hc8 | decide) _).mono ?_
  rintro e w' ⟨rfl, rfl⟩
  rw [show digN 39 = false from by decide]
  have a0 := (blk_cell HS.out.box 0).trans rfl
  have za0 := blk_frozen HS.out.box 0
  have HS1 := Asd.mk (HS.out.set 0 (.int .i64 3))
  go_wp2_with fail
  refine (text_calls s _ h1 hs).mono ?_
  rintro e w1 ⟨rfl, hb1⟩
  have HS2 := Asd.mk (HS1.out.old hb1)
  clear hb1
  have b1 := (blk_cell HS2.out.box 1).trans rfl
  have zb1 := blk_frozen HS2.out.box 1
  cases htp : textP (s.data.toList.drop 1) with
  | none =>
    rw [textO_none htp]
    rw [htp] at HTP
    clear htp
    have HS3 := Asd.mk (HS2.out.set 1 (.string ⟨([] : List UInt8).toArray⟩))
    have y0 := (blk_cell HS3.out.box 0).trans rfl
    have y1 := (blk_cell HS3.out.box 1).trans rfl
    have y2 := (blk_cell HS3.out.box 2).trans rfl
    have y3 := (blk_cell HS3.out.box 3).trans rfl
    have r0 := (blk_cell HS3.out.res 0).trans rfl
    have zr0 := blk_frozen HS3.out.res 0
    have r1 := (blk_cell HS3.out.res 1).trans rfl
    have zr1 := blk_frozen HS3.out.res 1
    have r2 := (blk_cell HS3.out.res 2).trans rfl
    have zr2 := blk_frozen HS3.out.res 2
    have r3 := (blk_cell HS3.out.res 3).trans rfl
    have zr3 := blk_frozen HS3.out.res 3
    go_wp2
    refine bodyPost_ret (results_token rfl _ _ w.heap.size _ rfl (HS3.out.fin _ _ _ _).1 rfl) rfl ?_
    exact tok_none HTP.out (HS3.out.fin _ _ _ _).2 3 ⟨#[]⟩ 0 rfl
  | some x =>
    rw [textO_some htp]
    rw [htp] at HTP
    clear htp
    obtain ⟨t, n⟩ := x
    have HS3 := Asd.mk (HS2.out.set 1 (.string ⟨t.toArray⟩))
    have y0 := (blk_cell HS3.out.box 0).trans rfl
    have y1 := (blk_cell HS3.out.box 1).trans rfl
    have y2 := (blk_cell HS3.out.box 2).trans rfl
    have y3 := (blk_cell HS3.out.box 3).trans rfl
    have r0 := (blk_cell HS3.out.res 0).trans rfl
    have zr0 := blk_frozen HS3.out.res 0
    have r1 := (blk_cell HS3.out.res 1).trans rfl
    have zr1 := blk_frozen HS3.out.res 1
    have r2 := (blk_cell HS3.out.res 2).trans rfl
    have zr2 := blk_frozen HS3.out.res 2
    have r3 := (blk_cell HS3.out.res 3).trans rfl
    have zr3 := blk_frozen HS3.out.res 3
    go_wp2
    refine bodyPost_ret (results_token rfl _ _ w.heap.size _ rfl (HS3.out.fin _ _ _ _).1 rfl) rfl ?_
    exact tok_some HTP.out (HS3.out.fin _ _ _ _).2 rfl
set_option maxRecDepth 100000 in
theorem tok_num (s : ByteArray) (w : World) (h1 : 1 ≤ s.size) (hs : s.size ≤ 1048576) (hw : LexW w) (hx : ¬ s[0].toNat = 120) (hX : ¬ s[0].toNat = 88) (hl : letN s[0].toNat = false) (hd : digN s[0].toNat = true) :
    Calls Tryz.prog 57 #[.string s] w fun e w' => TokEnd s.data.toList w e w' := by
  have HW := Asd.mk hw
  clear hw
  have HLN : Asd (s.data.toList.length = s.size) := Asd.mk rfl
  have HL : Asd (s.data.toList = s[0] :: s.data.toList.drop 1) := Asd.mk (by have := drop_cons s 0 h1; simpa using this)
  have HXL : Asd ((s.extract 1 s.size).data.toList = s.data.toList.drop 1) := Asd.mk (by
    rw [ext_list, List.take_of_length_le (Nat.le_of_eq (show s.data.toList.length = s.size from rfl))])
  have hc8 := s[0].toNat_lt
  have HNX : ¬ ((s[0] = 120 ∨ s[0] = 88) ∧ (s.data.toList.drop 1).head? = some 39) := fun h => by
    rcases h.1 with h | h
    · exact hx (by rw [h]; rfl)
    · exact hX (by rw [h]; rfl)
  have HTP : Asd (tokP s.data.toList = (numP (s.data.toList.take (runP isDig s.data.toList))).map fun v => (⟨2, [], v⟩, runP isDig s.data.toList)) := Asd.mk (by
    have h := tokP_num (c := s[0]) (r := s.data.toList.drop 1) HNX hl hd
    rwa [← HL.out] at h)
  have HN : Asd (runP isDig s.data.toList ≤ s.size) := Asd.mk (runP_le _ _)
  have HNP : Asd (s.data.toList.take (runP isDig s.data.toList) ≠ []) := Asd.mk (by
    have h := run_pos isDig (c := s[0]) (r := s.data.toList.drop 1) hd
    rw [← HL.out] at h
    intro h2
    have h3 := congrArg List.length h2
    rw [List.length_take, HLN.out] at h3
    simp only [List.length_nil] at h3
    omega)
  have HAL := Asd.mk (run_all isDig s.data.toList)
  have HLE := Asd.mk hl
  have HDI := Asd.mk hd
  clear HNX hl hd
  go_enter Tryz.func57, Tryz.ntmps57
  have HS := Asd.mk (TkSt.new w)
  go_upto_region 6 with fail
  generalize (w.alloc (.cells #[.int .i64 0, .string ⟨#[]⟩, .int .i64 0, .int .i64 0] 88)).alloc (.cells #[.int .i64 0, .string ⟨#[]⟩, .int .i64 0, .int .i64 0] 88) = W at HS ⊢
  have HWW := Asd.mk (HW.out.below HS.out.below)
  go_wp2_with fail
  refine (letter_calls s[0].toNat (by first | exact hc8 | decide) _).mono ?_
  rintro e w' ⟨rfl, rfl⟩
  rw [show letN s[0].toNat = false from HLE.out]
  go_wp2_with fail
  refine (digit_calls s[0].toNat (by first | exact hc8 | decide) _).mono ?_
  rintro e w' ⟨rfl, rfl⟩
  rw [show digN s[0].toNat = true from HDI.out]
  go_wp2_with fail
  refine (run_digit s _ hs).mono ?_
  rintro e w' ⟨rfl, rfl⟩
  generalize runP isDig s.data.toList = n at HTP HN HNP HAL
  have hn := HN.out
  have HEL : Asd ((s.extract 0 n).data.toList = s.data.toList.take n) := Asd.mk (by rw [ext_list]; simp)
  have HES : Asd ((s.extract 0 n).size ≤ 1048576) := Asd.mk (by rw [ext_size]; omega)
  go_wp2_with fail
  rcases num_dig HNP.out HAL.out with ⟨v, hv⟩ | hv
  · refine (Tryz.strconv_ParseInt_10_at64_ok (s.extract 0 n) (by have := HES.out; omega) v (by rw [HEL.out]; exact hv) _).mono ?_
    rintro e w1 ⟨rfl, hh⟩
    have hb1 : Below w'.heap.size w' w1 := by
      rcases hh with rfl | ⟨t, rfl⟩
      · exact Below.refl _ _
      · exact below_bytes w' t
    have HS2 := Asd.mk (HS.out.old hb1)
    have HTN : Asd (tokP s.data.toList = some (⟨2, [], v⟩, n)) := Asd.mk (by rw [HTP.out, numP, hv]; rfl)
    clear hb1 hh hv HTP
    have b0 := (blk_cell HS2.out.box 0).trans rfl
    have zb0 := blk_frozen HS2.out.box 0
    have b3 := (blk_cell HS2.out.box 3).trans rfl
    have zb3 := blk_frozen HS2.out.box 3
    have HS3 := Asd.mk ((HS2.out.set 0 (.int .i64 2)).set 3 (.int .i64 v))
    have y0 := (blk_cell HS3.out.box 0).trans rfl
    have y1 := (blk_cell HS3.out.box 1).trans rfl
    have y2 := (blk_cell HS3.out.box 2).trans rfl
    have y3 := (blk_cell HS3.out.box 3).trans rfl
    have r0 := (blk_cell HS3.out.res 0).trans rfl
    have zr0 := blk_frozen HS3.out.res 0
    have r1 := (blk_cell HS3.out.res 1).trans rfl
    have zr1 := blk_frozen HS3.out.res 1
    have r2 := (blk_cell HS3.out.res 2).trans rfl
    have zr2 := blk_frozen HS3.out.res 2
    have r3 := (blk_cell HS3.out.res 3).trans rfl
    have zr3 := blk_frozen HS3.out.res 3
    go_wp2
    refine bodyPost_ret (results_token rfl _ _ w.heap.size _ rfl (HS3.out.fin _ _ _ _).1 rfl) rfl ?_
    exact tok_some HTN.out (HS3.out.fin _ _ _ _).2 rfl
  · obtain ⟨tt, pp, hev⟩ := HWW.out.rng
    refine (Tryz.strconv_ParseInt_10_at64_range (s.extract 0 n) (by have := HES.out; omega) (by rw [HEL.out]; exact hv) (.iface tt pp) _ hev (.inr ⟨tt, pp, rfl⟩)).mono ?_
    rintro e w1 ⟨N, rfl, _, _, hb1⟩
    have HS3 := Asd.mk (HS.out.old hb1)
    have HTN : Asd (tokP s.data.toList = none) := Asd.mk (by rw [HTP.out, numP, hv]; rfl)
    clear hb1 hv HTP hev
    have y0 := (blk_cell HS3.out.box 0).trans rfl
    have y1 := (blk_cell HS3.out.box 1).trans rfl
    have y2 := (blk_cell HS3.out.box 2).trans rfl
    have y3 := (blk_cell HS3.out.box 3).trans rfl
    have r0 := (blk_cell HS3.out.res 0).trans rfl
    have zr0 := blk_frozen HS3.out.res 0
    have r1 := (blk_cell HS3.out.res 1).trans rfl
    have zr1 := blk_frozen HS3.out.res 1
    have r2 := (blk_cell HS3.out.res 2).trans rfl
    have zr2 := blk_frozen HS3.out.res 2
    have r3 := (blk_cell HS3.out.res 3).trans rfl
    have zr3 := blk_frozen HS3.out.res 3
    go_wp2
    refine bodyPost_ret (results_token rfl _ _ w.heap.size _ rfl (HS3.out.fin _ _ _ _).1 rfl) rfl ?_
    exact tok_none HTN.out (HS3.out.fin _ _ _ _).2 0 ⟨#[]⟩ 0 rfl

theorem token_calls (s : ByteArray) (w : World) (h1 : 1 ≤ s.size) (hs : s.size ≤ 1048576) (hw : LexW w) :
    Calls Tryz.prog 57 #[.string s] w fun e w' => TokEnd s.data.toList w e w' := by
  by_cases hx : s[0].toNat = 120
  · by_cases hp : (s.data.toList.drop 1).head? = some 39
    · exact tok_blob120 s w h1 hs hw hx hp
    · exact tok_word120 s w h1 hs hw hx hp
  · by_cases hX : s[0].toNat = 88
    · by_cases hp : (s.data.toList.drop 1).head? = some 39
      · exact tok_blob88 s w h1 hs hw hX hp
      · exact tok_word88 s w h1 hs hw hX hp
    · cases hl : letN s[0].toNat with
      | true => exact tok_word s w h1 hs hw hx hX hl
      | false =>
        cases hd : digN s[0].toNat with
        | true => exact tok_num s w h1 hs hw hx hX hl hd
        | false =>
          by_cases hq : s[0].toNat = 39
          · exact tok_text s w h1 hs hw hq
          · exact tok_sym s w h1 hs hw hx hX hl hd hq

def lexT (l : List UInt8) : Except Nat (List (Tk × Nat)) := toksP l.length 0 l
def addT (done : List (Tk × Nat)) (x : Except Nat (List (Tk × Nat))) : Except Nat (List (Tk × Nat)) := match x with | .ok r => .ok (done ++ r) | .error k => .error k
def LexSt (l : List UInt8) (done : List (Tk × Nat)) (k : Nat) : Prop :=
  ∃ f, l.length - k ≤ f ∧ lexT l = addT done (toksP f k (l.drop k))
theorem LexSt.start (l : List UInt8) : LexSt l [] 0 := by
  refine ⟨l.length, by omega, ?_⟩
  rw [List.drop_zero]
  unfold lexT
  cases toksP l.length 0 l <;> rfl
theorem drop_len {l : List UInt8} {k : Nat} {c : UInt8} {r : List UInt8} (h : l.drop k = c :: r) : k < l.length ∧ r = l.drop (k + 1) ∧ l.length - k = r.length + 1 := by
  have h1 := congrArg List.length h
  simp only [List.length_drop, List.length_cons] at h1
  have hk : k < l.length := by omega
  refine ⟨hk, ?_, h1⟩
  rw [List.drop_eq_getElem_cons hk] at h
  injection h with _ h
  exact h.symm
theorem LexSt.fin {l : List UInt8} {done : List (Tk × Nat)} {k : Nat} (h : LexSt l done k) (hk : l.drop k = []) : lexT l = .ok done := by
  obtain ⟨f, hf, h⟩ := h
  rw [h, hk]
  cases f with
  | zero => simp [toksP, addT]
  | succ f => simp [toksP, addT]
theorem LexSt.unfold {l : List UInt8} {done : List (Tk × Nat)} {k : Nat} {c : UInt8} {r : List UInt8} (h : LexSt l done k) (hk : l.drop k = c :: r) : ∃ f, r.length ≤ f ∧ lexT l = addT done (toksP (f + 1) k (c :: r)) := by
  obtain ⟨f, hf, h⟩ := h
  obtain ⟨h1, h2, h3⟩ := drop_len hk
  cases f with
  | zero => omega
  | succ f => exact ⟨f, by omega, by rw [h, hk]⟩
def isBl (c : UInt8) : Prop := c = 32 ∨ c = 9 ∨ c = 10 ∨ c = 13
theorem LexSt.blank {l : List UInt8} {done : List (Tk × Nat)} {k : Nat} {c : UInt8} {r : List UInt8} (h : LexSt l done k) (hk : l.drop k = c :: r) (hb : isBl c) : LexSt l done (k + 1) := by
  obtain ⟨f, hf, h⟩ := h.unfold hk
  obtain ⟨h1, h2, h3⟩ := drop_len hk
  refine ⟨f, by omega, ?_⟩
  rw [h, ← h2, toksP]
  try simp only
  rw [if_pos (show c = 32 ∨ c = 9 ∨ c = 10 ∨ c = 13 from hb)]
theorem LexSt.note {l : List UInt8} {done : List (Tk × Nat)} {k : Nat} {c : UInt8} {r : List UInt8} (h : LexSt l done k) (hk : l.drop k = c :: r) (hc : c = 45) (hr : r.head? = some 45) (hm : 10 ∈ l.drop k) : LexSt l done (k + ((l.drop k).takeWhile (· != 10)).length) := by
  obtain ⟨f, hf, h⟩ := h.unfold hk
  obtain ⟨h1, h2, h3⟩ := drop_len hk
  have hw : (l.drop k).dropWhile (· != 10) = l.drop (k + ((l.drop k).takeWhile (· != 10)).length) := by
    rw [← List.drop_drop]
    have e : (l.drop k).takeWhile (· != 10) ++ (l.drop k).dropWhile (· != 10) = l.drop k := List.takeWhile_append_dropWhile
    have := List.drop_left' (l₁ := (l.drop k).takeWhile (· != 10)) (l₂ := (l.drop k).dropWhile (· != 10)) rfl
    rw [e] at this
    exact this.symm
  have hge : 1 ≤ ((l.drop k).takeWhile (· != 10)).length := by
    rw [hk, List.takeWhile_cons, hc]
    simp
  refine ⟨f, by omega, ?_⟩
  rw [h, ← hw, hk, toksP]
  try simp only
  rw [if_neg (by rw [hc]; decide), if_pos ⟨hc, hr⟩, if_pos (by rw [← hk]; exact hm)]
theorem LexSt.last {l : List UInt8} {done : List (Tk × Nat)} {k : Nat} {c : UInt8} {r : List UInt8} (h : LexSt l done k) (hk : l.drop k = c :: r) (hc : c = 45) (hr : r.head? = some 45) (hm : ¬ 10 ∈ l.drop k) : lexT l = .ok done := by
  obtain ⟨f, hf, h⟩ := h.unfold hk
  rw [h, toksP]
  try simp only
  rw [if_neg (by rw [hc]; decide), if_pos ⟨hc, hr⟩, if_neg (by rw [← hk]; exact hm)]
  simp [addT]
theorem LexSt.bad {l : List UInt8} {done : List (Tk × Nat)} {k : Nat} {c : UInt8} {r : List UInt8} (h : LexSt l done k) (hk : l.drop k = c :: r) (hb : ¬ isBl c) (hn : ¬ (c = 45 ∧ r.head? = some 45)) (ht : tokP (l.drop k) = none) : lexT l = .error k := by
  obtain ⟨f, hf, h⟩ := h.unfold hk
  rw [hk] at ht
  rw [h, toksP]
  try simp only
  rw [if_neg (show ¬ (c = 32 ∨ c = 9 ∨ c = 10 ∨ c = 13) from hb), if_neg hn, ht]
  rfl
theorem LexSt.word {l : List UInt8} {done : List (Tk × Nat)} {k : Nat} {c : UInt8} {r : List UInt8} (h : LexSt l done k) (hk : l.drop k = c :: r) (hb : ¬ isBl c) (hn : ¬ (c = 45 ∧ r.head? = some 45)) {t : Tk} {n : Nat} (ht : tokP (l.drop k) = some (t, n)) : LexSt l (done ++ [(t, k)]) (k + n) := by
  obtain ⟨f, hf, h⟩ := h.unfold hk
  obtain ⟨h1, h2, h3⟩ := drop_len hk
  have h4 := tokP_le ht
  simp only at h4
  rw [hk] at ht
  refine ⟨f, by omega, ?_⟩
  rw [h, toksP]
  try simp only
  rw [if_neg (show ¬ (c = 32 ∨ c = 9 ∨ c = 10 ∨ c = 13) from hb), if_neg hn, ht]
  try simp only
  rw [← hk, List.drop_drop]
  cases toksP f (k + n) (l.drop (k + n)) <;> simp [addT, Except.map]

theorem nDigits_le : ∀ (k u : Nat), u < 10 ^ (k + 1) → Lib.nDigits u ≤ k + 1
  | 0, u, h => by rw [Lib.nDigits, dif_pos (by omega)]; exact Nat.le_refl _
  | k + 1, u, h => by
    rw [Lib.nDigits]
    split
    · omega
    · have := nDigits_le k (u / 10) (by rw [Nat.div_lt_iff_lt_mul (by omega)]; rw [Nat.pow_succ] at h; exact h)
      omega
theorem digits_small {u : Nat} (h : u < 18446744073709551616) : (Lib.decDigits u).length ≤ 20 := by
  rw [Lib.decDigits_length]
  exact nDigits_le 19 u (by omega)
def dgt (n : Nat) : UInt8 := UInt8.ofNat (48 + n % 10)
theorem decDigits_step (n : Nat) : Lib.decDigits n = (if n / 10 = 0 then [] else Lib.decDigits (n / 10)) ++ [dgt n] := by
  by_cases h : n < 10
  · rw [Lib.decDigits, dif_pos h, if_pos (by omega), dgt, Nat.mod_eq_of_lt h]
    rfl
  · rw [Lib.decDigits, dif_neg h, if_neg (by omega)]
    rfl

theorem conv_digit (n : Nat) (W : World) : (convert 81 9 (.slice (some ⟨W.heap.size, 0, none⟩) 1 1)).run Tryz.prog (W.alloc (.cells #[.int .u8 (48 + (n : Int) % 10)] 5)) = .ok (.string ⟨#[dgt n]⟩) (W.alloc (.cells #[.int .u8 (48 + (n : Int) % 10)] 5)) := by
  have h := IsBytes.new W [dgt n] 5 (by simp)
  have e : bcells [dgt n] = [.int .u8 (48 + (n : Int) % 10)] := by
    have h2 : (dgt n).toNat = 48 + n % 10 := by
      unfold dgt
      rw [UInt8.toNat_ofNat']
      omega
    simp only [bcells, List.map_cons, List.map_nil, bcell, h2]
    congr 2
  rw [e] at h
  exact run_string 81 9 5 Tryz.underlying81 Tryz.underlying5 Tryz.underlying9 1 h

set_option maxRecDepth 100000 in
theorem digits_calls (u : Nat) (hu : u < 18446744073709551616) (w : World) :
    Calls Tryz.prog 69 #[.int .u64 (u : Int)] w fun e w' => e = .returned (.string ⟨(Lib.decDigits u).toArray⟩) ∧ Below w.heap.size w w' := by
  have hcv := conv_digit u
  have HLN := Asd.mk (digits_small hu)
  have HST := Asd.mk (decDigits_step u)
  go_enter Tryz.func69, Tryz.ntmps69
  go_wp2
  have hcv2 := hcv
  clear hcv
  go_loopw [0, 3] (fun v0 v3 wr => ∃ (n : Nat) (s : List UInt8), n < 18446744073709551616 ∧ v0 = .int .u64 (n : Int) ∧ v3 = .string ⟨s.toArray⟩ ∧ Asd ((if n = 0 then [] else Lib.decDigits n) ++ s = Lib.decDigits u) ∧ Asd (Below w.heap.size w wr)) (fun v0 _ _ => (intOf v0).toNat)
  case atStart => exact ⟨u / 10, [dgt u], by omega, by first | rfl | go_num | simp, by rfl, ⟨HST.out.symm⟩, ⟨below_alloc (Below.refl _ _) _⟩⟩
  case round =>
    obtain ⟨n, s, hn, rfl, rfl, HR, HB⟩ := hrel
    by_cases h0 : 0 < n
    · have hcv := conv_digit n
      have hsl : (⟨s.toArray⟩ : ByteArray).size ≤ 20 := by
        have h1 := HLN.out
        rw [← HR.out, List.length_append] at h1
        have h3 : (⟨s.toArray⟩ : ByteArray).size = s.length := by simp [ByteArray.size]
        rw [h3]
        omega
      have HE : Asd ((⟨#[dgt n]⟩ : ByteArray) ++ ⟨s.toArray⟩ = ⟨(dgt n :: s).toArray⟩) := Asd.mk (by
        rw [show (⟨#[dgt n]⟩ : ByteArray) = ⟨[dgt n].toArray⟩ from rfl, str_cat]
        rfl)
      have HR2 : Asd ((if n / 10 = 0 then [] else Lib.decDigits (n / 10)) ++ (dgt n :: s) = Lib.decDigits u) := Asd.mk (by
        have h1 := HR.out
        rw [if_neg (by omega), decDigits_step n, List.append_assoc] at h1
        exact h1)
      generalize (⟨s.toArray⟩ : ByteArray) = sb at hsl HE ⊢
      go_wp2
      go_roundw
      case rel => exact ⟨n / 10, _, by omega, by first | rfl | go_num | simp, by first | rw [← HE.out] | (rw [← HE.out]; rfl), HR2, ⟨below_alloc HB.out _⟩⟩
      case measure => simp [intOf]; omega
    · obtain rfl : n = 0 := by omega
      have HE : Asd (s = Lib.decDigits u) := Asd.mk (by have := HR.out; simpa using this)
      generalize hsb : (⟨s.toArray⟩ : ByteArray) = sb
      have HSB := Asd.mk hsb
      clear hsb
      go_wp2
      go_ret
      exact ⟨ret_eq (by rw [← HE.out, HSB.out]; rfl), HB.out⟩

theorem wrap_abs {n : Int} (h0 : -9223372036854775808 ≤ n) (h : n < 0) : IntKind.u64.wrap (-(IntKind.u64.wrap n)) = (n.natAbs : Int) := by
  simp [IntKind.wrap, IntKind.signed, IntKind.bits]
  omega
set_option maxRecDepth 100000 in
theorem number_calls (n : Int) (h0 : -9223372036854775808 ≤ n) (h1 : n ≤ 9223372036854775807) (w : World) :
    Calls Tryz.prog 54 #[.int .i64 n] w fun e w' => e = .returned (.string ⟨(Lib.itoa n).toArray⟩) ∧ Below w.heap.size w w' := by
  by_cases h : n < 0
  · have HE := Asd.mk (wrap_abs h0 h)
    have hl := digits_small (u := n.natAbs) (by omega)
    have HI : Asd ((⟨#[45]⟩ : ByteArray) ++ ⟨(Lib.decDigits n.natAbs).toArray⟩ = ⟨(Lib.itoa n).toArray⟩) := Asd.mk (by
      rw [show (⟨#[45]⟩ : ByteArray) = ⟨[45].toArray⟩ from rfl, str_cat, Lib.itoa, if_pos h]
      rfl)
    have hsz : (⟨(Lib.decDigits n.natAbs).toArray⟩ : ByteArray).size ≤ 20 := by
      have h3 : (⟨(Lib.decDigits n.natAbs).toArray⟩ : ByteArray).size = (Lib.decDigits n.natAbs).length := by simp [ByteArray.size]
      omega
    have HD := Asd.mk (fun w => digits_calls n.natAbs (by omega) w)
    generalize (⟨(Lib.decDigits n.natAbs).toArray⟩ : ByteArray) = ds at hsz HI HD
    clear hl
    go_enter Tryz.func54, Tryz.ntmps54
    go_wp2_with fail
    rw [HE.out]
    refine (HD.out _).mono ?_
    rintro e w1 ⟨rfl, hb⟩
    have HB := Asd.mk hb
    clear hb
    go_wp2
    go_ret
    exact ⟨ret_eq (by rw [← HI.out]; rfl), HB.out⟩
  · obtain ⟨m, rfl⟩ := Int.eq_ofNat_of_zero_le (show 0 ≤ n by omega)
    have HI : Asd ((⟨(Lib.decDigits m).toArray⟩ : ByteArray) = ⟨(Lib.itoa (m : Int)).toArray⟩) := Asd.mk (by rw [Lib.itoa, if_neg h]; rfl)
    have HD := Asd.mk (fun w => digits_calls m (by omega) w)
    generalize (⟨(Lib.decDigits m).toArray⟩ : ByteArray) = ds at HI HD
    go_enter Tryz.func54, Tryz.ntmps54
    go_wp2_with fail
    refine (HD.out _).mono ?_
    rintro e w1 ⟨rfl, hb⟩
    have HB := Asd.mk hb
    clear hb
    go_wp2
    go_ret
    exact ⟨ret_eq (by rw [← HI.out]; rfl), HB.out⟩

set_option maxRecDepth 100000 in
theorem rcheck_calls (k : Int) (hk : k = 3 ∨ k = 4) (s : ByteArray) (w : World) :
    Calls Tryz.prog 15 #[.agg #[.int .i64 k, .int .i64 0, .string s]] w fun e w' => e = .returned (.int .i64 0) ∧ Below w.heap.size w w' := by
  rcases hk with rfl | rfl
  · go_enter Tryz.func15, Tryz.ntmps15
    go_wp2
    go_ret
    exact ⟨rfl, below_alloc (Below.refl _ _) _⟩
  · go_enter Tryz.func15, Tryz.ntmps15
    go_wp2
    go_ret
    exact ⟨rfl, below_alloc (Below.refl _ _) _⟩

theorem infoU8 : (Tryz.prog.info? 5).map (fun i => (i.zero, i.size, i.bytes)) = some (some (.int .u8 0), 1, 1) := by kernel_rfl
theorem rowB : RowT Tryz.prog 81 5 1 1 := ⟨Tryz.underlying81, by obtain ⟨i, h1, h2, h3, h4⟩ := info_parts infoU8; exact ⟨i, _, h1, h2, h3, h4, rfl⟩, by decide⟩

theorem bcells_length (l : List UInt8) : (bcells l).length = l.length := by simp [bcells]
theorem own_made {w : World} {B b : Nat} {xs : List UInt8} (h : w.heap[b]? = some (.cells (bcells xs).toArray 5 (0, 0))) (hB : B ≤ b) (hl : xs.length ≤ 100000) : w.ownsRow B 5 1 (.slice (some ⟨b, 0, none⟩) xs.length xs.length) xs.length (bcells xs) :=
  ⟨by rw [bcells_length]; omega, .inr ⟨b, xs.length, _, rfl, hB, h, Nat.le_refl _, by unfold maxLen; omega, by simp [bcells], by rw [List.take_of_length_le (by simp [bcells])]⟩⟩

set_option maxRecDepth 100000 in
theorem rlit_text (s : ByteArray) (w : World) (hs : s.size ≤ 1048576) :
    Calls Tryz.prog 27 #[.agg #[.int .i64 3, .int .i64 0, .string s]] w fun e w' => e = .returned (.string ⟨(litText s.data.toList).toArray⟩) ∧ Below w.heap.size w w' := by
  go_enter Tryz.func27, Tryz.ntmps27
  go_wp2_with fail
  refine (rcheck_calls 3 (.inl rfl) s _).mono ?_
  rintro e w1 ⟨rfl, hb1⟩
  have HB0 := Asd.mk (below_alloc (Below.refl _ w) (.cells #[.int .i64 3, .int .i64 0, .string s] 23))
  have HX := Asd.mk (blk_below hb1 (blk_new w (.cells #[.int .i64 3, .int .i64 0, .string s] 23)))
  have HB1 : Asd (Below w.heap.size w w1) := Asd.mk (below_step HB0.out hb1)
  have x0 := (blk_cell HX.out 0).trans rfl
  have y0 := (blk_cell (blk_alloc HX.out (.cells #[.int .u8 39] 5)) 0).trans rfl
  have HO0 : Asd ((w1.alloc (.cells #[.int .u8 39] 5)).ownsRow w1.heap.size 5 1 (.slice (some ⟨w1.heap.size, 0, none⟩) 1 1) 1 (bcells [39])) := Asd.mk (own_made (xs := [39]) (blk_new w1 _) (Nat.le_refl _) (by simp))
  have HBW : Asd (w.heap.size < w1.heap.size) := Asd.mk (blk_lt HX.out)
  clear hb1
  go_wp2
  go_loopw [3, 4] (fun v3 v4 wr => ∃ (k m c : Nat) (A : Option Addr), k ≤ s.size ∧ v4 = .int .i64 (k : Int) ∧ v3 = .slice A m c ∧ Asd (wr.ownsRow w1.heap.size 5 1 (.slice A m c) m (bcells (39 :: quotes (s.data.toList.take k)))) ∧ Asd (Below w1.heap.size w1 wr)) (fun _ v4 _ => s.size - (intOf v4).toNat)
  case atStart => exact ⟨0, 1, 1, _, by omega, rfl, rfl, ⟨HO0.out⟩, ⟨below_alloc (Below.refl _ _) _⟩⟩
  case round =>
    obtain ⟨k, m, c, A, hk, rfl, rfl, HO, HBR⟩ := hrel
    have HXR := Asd.mk (blk_below HBR.out HX.out)
    have x0 := (blk_cell HXR.out 0).trans rfl
    have x2 := (blk_cell HXR.out 2).trans rfl
    have hm : m ≤ 2097153 := by
      have h1 := HO.out.1
      have h2 := quotes_len (s.data.toList.take k)
      have h3 : (s.data.toList.take k).length ≤ k := by rw [List.length_take]; omega
      simp only [bcells, List.length_map, List.length_cons, Nat.mul_one] at h1
      omega
    have hsz : w1.heap.size ≤ wr.heap.size := HBR.out.size
    by_cases hlt : k < s.size
    · have hc := s[k].toNat_lt
      have HTS := Asd.mk (take_snoc s k hlt)
      generalize hsk : s[k] = b at hc HTS
      by_cases h39 : b = 39
      · subst h39
        have HOA := Asd.mk (HO.out.alloc (.cells #[.int .u8 39, .int .u8 39] 5))
        have HF := Asd.mk (Feeds.of_block (size := 1) (m := 2) (c := 2) (blk_new wr (.cells #[.int .u8 39, .int .u8 39] 5)) rfl (by simp [Value.oneCell']))
        go_wp2_with (at_builtin; refine wpList_src rfl (.tmp 59) (.tmp 60) _ rfl rowB _ rfl HOA.out (some ⟨wr.heap.size, 0, none⟩) 2 2 rfl HF.out (by unfold maxLen; omega) (by omega) (by simp; omega) ?_)
        intro A9 c9 w9 ho9 hg9
        have HO9 : Asd (w9.ownsRow w1.heap.size 5 1 (.slice A9 (m + 2) c9) (m + 2) (bcells (39 :: quotes (s.data.toList.take (k + 1))))) := Asd.mk (by
          rw [HTS.out, quotes_append]
          simpa [bcells, bcell, quotes, quote1] using ho9)
        have HB9 : Asd (Below w1.heap.size w1 w9) := Asd.mk (below_own (below_alloc HBR.out _) HOA.out hg9 (Nat.le_refl _))
        clear ho9 hg9
        go_wp2
        go_roundw
        case rel => exact ⟨k + 1, _, _, _, by omega, by go_num, rfl, HO9, HB9⟩
        case measure => simp [intOf]; omega
      · have hne : ((b.toNat : Int) == 39) = false := by
          rw [beq_eq_false_iff_ne]
          intro e
          exact h39 (UInt8.toNat_inj.1 (show b.toNat = 39 by omega))
        have HOA := Asd.mk (HO.out.alloc (.cells #[.int .u8 (b.toNat : Int)] 5))
        have HF := Asd.mk (Feeds.of_block (size := 1) (m := 1) (c := 1) (blk_new wr (.cells #[.int .u8 (b.toNat : Int)] 5)) rfl (by simp [Value.oneCell']))
        have H39 := Asd.mk h39
        clear h39
        go_wp2_with (at_builtin; refine wpList_src rfl (.tmp 39) (.tmp 41) _ rfl rowB _ rfl HOA.out (some ⟨wr.heap.size, 0, none⟩) 1 1 rfl HF.out (by unfold maxLen; omega) (by omega) (by simp; omega) ?_)
        intro A9 c9 w9 ho9 hg9
        have HO9 : Asd (w9.ownsRow w1.heap.size 5 1 (.slice A9 (m + 1) c9) (m + 1) (bcells (39 :: quotes (s.data.toList.take (k + 1))))) := Asd.mk (by
          rw [HTS.out, quotes_append]
          simpa [bcells, bcell, quotes, quote1, H39.out] using ho9)
        have HB9 : Asd (Below w1.heap.size w1 w9) := Asd.mk (below_own (below_alloc HBR.out _) HOA.out hg9 (Nat.le_refl _))
        clear ho9 hg9
        go_wp2
        go_roundw
        case rel => exact ⟨k + 1, _, _, _, by omega, by go_num, rfl, HO9, HB9⟩
        case measure => simp [intOf]; omega
    · obtain rfl : k = s.size := by omega
      have HOA := Asd.mk (HO.out.alloc (.cells #[.int .u8 39] 5))
      have HF := Asd.mk (Feeds.of_block (size := 1) (m := 1) (c := 1) (blk_new wr (.cells #[.int .u8 39] 5)) rfl (by simp [Value.oneCell']))
      have HTK := Asd.mk (List.take_of_length_le (Nat.le_of_eq (show s.data.toList.length = s.size from rfl)))
      clear hlt
      go_wp2_with (at_builtin; refine wpList_src rfl (.tmp 62) (.tmp 63) _ rfl rowB _ rfl HOA.out (some ⟨wr.heap.size, 0, none⟩) 1 1 rfl HF.out (by unfold maxLen; omega) (by omega) (by simp; omega) ?_)
      intro A9 c9 w9 ho9 hg9
      have HB9 : Asd (Below w1.heap.size w1 w9) := Asd.mk (below_own (below_alloc HBR.out _) HOA.out hg9 (Nat.le_refl _))
      have HO9 : w9.ownsRow w1.heap.size 5 1 (.slice A9 (m + 1) c9) (m + 1) (bcells (litText s.data.toList)) := by
        rw [HTK.out] at ho9
        simpa [bcells, bcell, litText] using ho9
      obtain ⟨A8, c8, e8, hib, _⟩ := of_own HO9 (by omega)
      injection e8 with e1 e2 e3
      subst e1 e3
      have hcv := run_string 81 9 5 Tryz.underlying81 Tryz.underlying5 Tryz.underlying9 c9 hib
      have HBE : Asd (Below w.heap.size w w9) := Asd.mk (HB1.out.trans (HB9.out.mono HB1.out.size))
      clear ho9 hg9 HO9 hib
      generalize hrr : (⟨(litText s.data.toList).toArray⟩ : ByteArray) = rr at hcv
      have HRR := Asd.mk hrr
      clear hrr
      go_wp2
      go_ret
      exact ⟨ret_eq (by rw [HRR.out]; rfl), HBE.out⟩
end Go.Proofs.YtbeeaikilcnpgaaGreatDoor.Lex
