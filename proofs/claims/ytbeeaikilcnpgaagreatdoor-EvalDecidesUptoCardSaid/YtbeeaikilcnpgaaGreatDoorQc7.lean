/- Texts put together: Wr, Hst, Cst, W16, W16b, Row16, Laid, Laid2, Lvl, Rlit2, Pr1, Pr2, Pr3, Pr4, Pr5, Pr6, Pr7, Dec, DecW, DecR. -/
import Derived.Test.YtbeeaikilcnpgaaGreatDoorQc6
import Derived.Test.YtbeeaikilcnpgaaGreatDoorRows
import Derived.WalkKit
import Derived.ProofKit
import Derived.OpenShut
import Derived.ShutString
import Derived.ChangeOld
import Derived.Below
import Derived.SizedLaws
import Derived.Deep.DeepHandedRow
import Derived.Lib.LaidTab
import Derived.Lib.ItoaNum
import Derived.LaidSub
import Derived.Stop.LaidErr
import Derived.LaidHandle
import Derived.LaidLaws
import Derived.Deep.RegionHeld3
set_option linter.unusedVariables false
set_option linter.unusedSimpArgs false
set_option maxHeartbeats 25600000
namespace Go.Proofs.YtbeeaikilcnpgaaGreatDoor.Exp
open Go.RowKit Go.Proofs.YtbeeaikilcnpgaaGreatDoor.Base Go.Proofs.YtbeeaikilcnpgaaGreatDoor.App Go.Proofs.YtbeeaikilcnpgaaGreatDoor.Byt Go.Proofs.YtbeeaikilcnpgaaGreatDoor.Lex
theorem below_put10 {a W : World} (h : Below a.heap.size a W) {b : Nat} (hb : a.heap.size ≤ b) (v0 v1 v2 v3 v4 v5 v6 v7 v8 v9 : Value) : Below a.heap.size a ((((((((((W.setCell ⟨b, 0, none⟩ v0).setCell ⟨b, 1, none⟩ v1).setCell ⟨b, 2, none⟩ v2).setCell ⟨b, 3, none⟩ v3).setCell ⟨b, 4, none⟩ v4).setCell ⟨b, 5, none⟩ v5).setCell ⟨b, 6, none⟩ v6).setCell ⟨b, 7, none⟩ v7).setCell ⟨b, 8, none⟩ v8).setCell ⟨b, 9, none⟩ v9) :=
  below_set (below_set (below_set (below_set (below_set (below_set (below_set (below_set (below_set (below_set h (p := ⟨b, 0, none⟩) hb v0) (p := ⟨b, 1, none⟩) hb v1) (p := ⟨b, 2, none⟩) hb v2) (p := ⟨b, 3, none⟩) hb v3) (p := ⟨b, 4, none⟩) hb v4) (p := ⟨b, 5, none⟩) hb v5) (p := ⟨b, 6, none⟩) hb v6) (p := ⟨b, 7, none⟩) hb v7) (p := ⟨b, 8, none⟩) hb v8) (p := ⟨b, 9, none⟩) hb v9
set_option maxRecDepth 100000 in
theorem read16_calls (s : ByteArray) (hs : s.data.toList.length ≤ 16384) (ts : Toks) (hl : lexT s.data.toList = .ok ts) (x : Ex) (j : Nat) (hr : (readF nmOk (lexE s.data.toList) 32).or 0 = .ok (x, j)) (w : World) (hw : LexW w) :
    Calls Tryz.prog 14 #[.string s] w fun e w' => Below w.heap.size w w' ∧ ∃ sl, e = .returned (exV x sl) ∧ Held (fun g => w.heap.size ≤ g) w' x.args sl := by
  have HR := Asd.mk hr
  have HN := Asd.mk (near_lexE s.data.toList)
  have HE := Asd.mk (lexE_ok hs hl)
  have HZ := Asd.mk (blk_new w (.cells #[.int .i64 0, .int .i64 0, .int .i64 0, .int .i64 0, .string ⟨#[]⟩, .string ⟨#[]⟩, .string ⟨#[]⟩, .int .i64 0, .int .i64 0, .slice none 0 0] 26 (0, 0)))
  have HB : Asd (Below w.heap.size w (w.alloc (.cells #[.int .i64 0, .int .i64 0, .int .i64 0, .int .i64 0, .string ⟨#[]⟩, .string ⟨#[]⟩, .string ⟨#[]⟩, .int .i64 0, .int .i64 0, .slice none 0 0] 26 (0, 0)))) := Asd.mk (below_alloc (Below.refl _ _) _)
  have HW := Asd.mk hw
  have HL := Asd.mk hl
  have HS := Asd.mk hs
  clear hr hw hl hs
  go_enter Tryz.func14, Tryz.ntmps14
  go_upto_region 1 with fail
  generalize w.alloc (.cells #[.int .i64 0, .int .i64 0, .int .i64 0, .int .i64 0, .string ⟨#[]⟩, .string ⟨#[]⟩, .string ⟨#[]⟩, .int .i64 0, .int .i64 0, .slice none 0 0] 26 (0, 0)) = w1 at HZ HB ⊢
  have HW1 := Asd.mk (HW.out.below HB.out)
  go_wp2_with fail
  refine (tokens_reads s _ HW1.out).mono ?_
  rintro e w2 ⟨hb2, he⟩
  rw [if_neg (by have := HS.out; omega), HL.out] at he
  obtain ⟨A, m, c, rfl, ht⟩ := he
  rw [← HE.out] at ht
  have HT := Asd.mk ht
  have HB2 : Asd (Below w.heap.size w w2) := Asd.mk (HB.out.trans (hb2.mono HB.out.size))
  have HZ2 := Asd.mk (blk_below hb2 HZ.out)
  have HW2 := Asd.mk (HW1.out.below hb2)
  clear hb2 ht
  go_wp2_with fail
  refine (read_calls A m c (lexE s.data.toList) 0 w2 HW2.out.shaped HT.out HN.out (Nat.zero_le _)).mono ?_
  rintro e w3 ⟨hb3, hm⟩
  rw [HR.out] at hm
  obtain ⟨sl, rfl, hh⟩ := hm
  have HB3 : Asd (Below w.heap.size w w3) := Asd.mk (HB2.out.trans (hb3.mono HB2.out.size))
  have HZ3 := Asd.mk (blk_below hb3 HZ2.out)
  have HH := Asd.mk hh
  have HSZ : Asd (w.heap.size + 1 ≤ w2.heap.size) := Asd.mk (by have := blk_lt HZ2.out; omega)
  obtain ⟨As, ns, cs, rfl⟩ := held_slice hh
  clear hb3 hh
  simp only [exV]
  have HX4 := Asd.mk (blk_new w3 (.cells #[.int .i64 x.kind, .int .i64 x.op, .int .i64 x.v.kind, .int .i64 x.v.int, .string ⟨x.v.text.toArray⟩, .string ⟨x.table.toArray⟩, .string ⟨x.name.toArray⟩, .int .i64 x.col, .int .i64 x.ty, .slice As ns cs] 26 (0, 0)))
  have HZ4 := Asd.mk (blk_alloc HZ3.out (.cells #[.int .i64 x.kind, .int .i64 x.op, .int .i64 x.v.kind, .int .i64 x.v.int, .string ⟨x.v.text.toArray⟩, .string ⟨x.table.toArray⟩, .string ⟨x.name.toArray⟩, .int .i64 x.col, .int .i64 x.ty, .slice As ns cs] 26 (0, 0)))
  have HB4 : Asd (Below w.heap.size w (w3.alloc (.cells #[.int .i64 x.kind, .int .i64 x.op, .int .i64 x.v.kind, .int .i64 x.v.int, .string ⟨x.v.text.toArray⟩, .string ⟨x.table.toArray⟩, .string ⟨x.name.toArray⟩, .int .i64 x.col, .int .i64 x.ty, .slice As ns cs] 26 (0, 0)))) := Asd.mk (below_alloc HB3.out _)
  have HH4 := Asd.mk (held_below HH.out (below_alloc (Below.refl _ w3) (.cells #[.int .i64 x.kind, .int .i64 x.op, .int .i64 x.v.kind, .int .i64 x.v.int, .string ⟨x.v.text.toArray⟩, .string ⟨x.table.toArray⟩, .string ⟨x.name.toArray⟩, .int .i64 x.col, .int .i64 x.ty, .slice As ns cs] 26 (0, 0))))
  go_upto_region 3 with fail
  simp only at HH4
  generalize w3.alloc (.cells #[.int .i64 x.kind, .int .i64 x.op, .int .i64 x.v.kind, .int .i64 x.v.int, .string ⟨x.v.text.toArray⟩, .string ⟨x.table.toArray⟩, .string ⟨x.name.toArray⟩, .int .i64 x.col, .int .i64 x.ty, .slice As ns cs] 26 (0, 0)) = w4 at HX4 HZ4 HB4 HH4 ⊢
  obtain ⟨e0, e1, e2, e3, e4, e5, e6, e7, e8, e9⟩ := ex_cells (x := x) HX4.out
  have z0 := (blk_cell HZ4.out 0).trans rfl
  have z1 := (blk_cell HZ4.out 1).trans rfl
  have z2 := (blk_cell HZ4.out 2).trans rfl
  have z3 := (blk_cell HZ4.out 3).trans rfl
  have z4 := (blk_cell HZ4.out 4).trans rfl
  have z5 := (blk_cell HZ4.out 5).trans rfl
  have z6 := (blk_cell HZ4.out 6).trans rfl
  have z7 := (blk_cell HZ4.out 7).trans rfl
  have z8 := (blk_cell HZ4.out 8).trans rfl
  have z9 := (blk_cell HZ4.out 9).trans rfl
  have zf := fun j => blk_frozen HZ4.out j
  go_wp2_with fail
  refine bodyPost_ret (results_cell_row rfl _ _ w.heap.size 26 _ (0, 0) _ rfl (put10_blk HZ4.out _ _ _ _ _ _ _ _ _ _) Tryz.underlying26 rfl (by kernel_rfl)) rfl ?_
  exact ⟨below_put10 HB4.out (Nat.le_refl _) _ _ _ _ _ _ _ _ _ _, _, rfl, held_mono (held_frS (held_mono HH4.out fun g _ hg => hg) (put10_fr (S := fun g => g = w.heap.size) rfl _ _ _ _ _ _ _ _ _ _) (fun g hg he => by have := HSZ.out; have := hg; omega)) fun g _ hg => by have := HSZ.out; have := hg; omega⟩
end Go.Proofs.YtbeeaikilcnpgaaGreatDoor.Exp

namespace Go.Proofs.YtbeeaikilcnpgaaGreatDoor.Exp
open Go.RowKit Go.Proofs.YtbeeaikilcnpgaaGreatDoor.Base Go.Proofs.YtbeeaikilcnpgaaGreatDoor.App Go.Proofs.YtbeeaikilcnpgaaGreatDoor.Byt Go.Proofs.YtbeeaikilcnpgaaGreatDoor.Rd
mutual
def unCol : Ex → Ex
  | .mk k o v t n _ ty a => .mk k o v t n 0 ty (unColL a)
def unColL : List Ex → List Ex
  | [] => []
  | x :: xs => unCol x :: unColL xs
end
theorem unColL_len : ∀ l : List Ex, (unColL l).length = l.length
  | [] => by rw [unColL]
  | x :: xs => by rw [unColL, List.length_cons, List.length_cons, unColL_len xs]
theorem unColL_at : ∀ (l : List Ex) (i : Nat) (h : i < l.length), (unColL l)[i]'(by rw [unColL_len]; exact h) = unCol l[i]
  | x :: xs, 0, h => by simp only [unColL, List.getElem_cons_zero]
  | x :: xs, i + 1, h => by simp only [unColL, List.getElem_cons_succ]; exact unColL_at xs i (by simpa using h)
theorem unColL_ext {a b : List Ex} (hl : a.length = b.length) (h : ∀ i (h : i < a.length) (h' : i < b.length), unCol a[i] = unCol b[i]) : unColL a = unColL b := by
  apply List.ext_getElem
  · rw [unColL_len, unColL_len, hl]
  · intro i h1 h2
    rw [unColL_len] at h1 h2
    rw [unColL_at a i h1, unColL_at b i h2]
    exact h i h1 h2
def setCol (x : Ex) (u : Int) (a : List Ex) : Ex := .mk x.kind x.op x.v x.table x.name u x.ty a
theorem unCol_set {x : Ex} {u : Int} {a : List Ex} (h : unColL a = unColL x.args) : unCol (setCol x u a) = unCol x := by
  cases x
  simp only [setCol, unCol]
  rw [h]
  rfl
theorem frz_set (W : World) (p q : Addr) (v : Value) : (W.setCell p v).frozen? q = W.frozen? q := by
  simp only [World.frozen?, World.setCell, Array.getElem?_modify]
  by_cases h : p.block = q.block
  · rw [if_pos h]
    cases W.heap[q.block]? with
    | none => rfl
    | some o => cases o <;> rfl
  · rw [if_neg h]
theorem cell_set (W : World) (g i h j : Nat) (v : Value) (hne : ¬ (g = h ∧ i = j)) : (W.setCell ⟨g, i, none⟩ v).cell? ⟨h, j, none⟩ = W.cell? ⟨h, j, none⟩ :=
  World.cell?_setCell_other (h := fun e => hne (by injection e with e1 e2 _; exact ⟨e1, e2⟩)) ..
theorem row_apart {W : World} {g2 o2 : Nat} {x2 : Ex} {s2 : Value} {A2 : Option Addr} {n2 c2 : Nat} (e2 : s2 = .slice A2 n2 c2) (h2 : RowC W g2 o2 x2 s2) {o : Nat} {x : Ex} {s : Value} {A : Option Addr} {n c : Nat} (e : s = .slice A n c) (h : RowC W g2 o x s) (j : Nat) (hj : j < 10) (hov : o2 + 7 = o + j) : j = 7 := by
  subst e2; subst e
  have key : ∀ (a b : Nat) (ha : a < 10) (hb : b < 10), o + a = o2 + b → (exC x (.slice A n c))[a]'(by rw [exC_len]; exact ha) = (exC x2 (.slice A2 n2 c2))[b]'(by rw [exC_len]; exact hb) := fun a b ha hb hab => by
    have h1 := h a ha
    have h3 := h2 b hb
    rw [hab] at h1
    rw [h1] at h3
    exact Option.some.inj h3
  rcases (show j = 0 ∨ j = 1 ∨ j = 2 ∨ j = 3 ∨ j = 4 ∨ j = 5 ∨ j = 6 ∨ j = 7 ∨ j = 8 ∨ j = 9 by omega) with rfl | rfl | rfl | rfl | rfl | rfl | rfl | rfl | rfl | rfl
  · have := key 2 9 (by omega) (by omega) (by omega); simp [exC] at this
  · have := key 0 6 (by omega) (by omega) (by omega); simp [exC] at this
  · have := key 0 5 (by omega) (by omega) (by omega); simp [exC] at this
  · have := key 0 4 (by omega) (by omega) (by omega); simp [exC] at this
  · have := key 4 7 (by omega) (by omega) (by omega); simp [exC] at this
  · have := key 5 7 (by omega) (by omega) (by omega); simp [exC] at this
  · have := key 6 7 (by omega) (by omega) (by omega); simp [exC] at this
  · rfl
  · have := key 4 3 (by omega) (by omega) (by omega); simp [exC] at this
  · have := key 9 7 (by omega) (by omega) (by omega); simp [exC] at this
theorem held_store {P : Nat → Prop} {W : World} {g2 o2 : Nat} {x2 : Ex} {A2 : Option Addr} {n2 c2 : Nat} (h2 : RowC W g2 o2 x2 (.slice A2 n2 c2)) (u : Int) {xs : List Ex} {s : Value} (h : Held P W xs s) :
    ∃ xs', unColL xs' = unColL xs ∧ Held P (W.setCell ⟨g2, o2 + 7, none⟩ (.int .i64 u)) xs' s := by
  induction h with
  | nil A c => exact ⟨[], rfl, .nil A c⟩
  | cons g o c xs ss hg hl hu hrow hsub ih =>
    obtain ⟨ys, hyl, hys⟩ := list_of xs.length (fun i (y : Ex) => ∀ (h : i < xs.length), unCol y = unCol xs[i] ∧ RowC (W.setCell ⟨g2, o2 + 7, none⟩ (.int .i64 u)) g (o + i * 10) y (ss[i]'(by omega)) ∧ Held P (W.setCell ⟨g2, o2 + 7, none⟩ (.int .i64 u)) y.args (ss[i]'(by omega))) (fun i hi => by
      obtain ⟨a, ha, hha⟩ := ih i hi
      obtain ⟨A1, n1, c1, hs1⟩ := held_slice (hsub i hi)
      have hr := hrow i hi
      by_cases hc : g2 = g ∧ o2 = o + i * 10
      · refine ⟨setCol xs[i] u a, fun h => ⟨unCol_set ha, fun j hj => ?_, hha⟩⟩
        obtain ⟨rfl, rfl⟩ := hc
        by_cases h7 : j = 7
        · subst h7
          rw [World.cell?_setCell_same (h := h2 7 (by omega))]
          rfl
        · rw [cell_set _ _ _ _ _ _ (by rintro ⟨_, h⟩; omega), hr j hj]
          rcases (show j = 0 ∨ j = 1 ∨ j = 2 ∨ j = 3 ∨ j = 4 ∨ j = 5 ∨ j = 6 ∨ j = 8 ∨ j = 9 by omega) with rfl | rfl | rfl | rfl | rfl | rfl | rfl | rfl | rfl <;> rfl
      · refine ⟨setCol xs[i] xs[i].col a, fun h => ⟨unCol_set ha, fun j hj => ?_, hha⟩⟩
        rw [cell_set _ _ _ _ _ _ (by
          rintro ⟨e1, e2⟩
          subst e1
          have := row_apart rfl h2 hs1 hr j hj e2
          exact hc ⟨rfl, by omega⟩), hr j hj]
        rcases (show j = 0 ∨ j = 1 ∨ j = 2 ∨ j = 3 ∨ j = 4 ∨ j = 5 ∨ j = 6 ∨ j = 7 ∨ j = 8 ∨ j = 9 by omega) with rfl | rfl | rfl | rfl | rfl | rfl | rfl | rfl | rfl | rfl <;> rfl)
    refine ⟨ys, unColL_ext hyl fun i h1 h3 => (hys i h1 h3).1, ?_⟩
    rw [← hyl]
    exact .cons g o c ys ss hg (by omega) (fun j hj => by rw [frz_set]; exact hu j (by omega)) (fun i h => (hys i h (by omega)).2.1) (fun i h => (hys i h (by omega)).2.2)
end Go.Proofs.YtbeeaikilcnpgaaGreatDoor.Exp

namespace Go.Proofs.YtbeeaikilcnpgaaGreatDoor.Exp
open Go.RowKit Go.Proofs.YtbeeaikilcnpgaaGreatDoor.Base Go.Proofs.YtbeeaikilcnpgaaGreatDoor.App Go.Proofs.YtbeeaikilcnpgaaGreatDoor.Byt Go.Proofs.YtbeeaikilcnpgaaGreatDoor.Lex
structure RowW (w : World) (RA : Option Addr) (vs : List Vl) : Prop where
  vals : ValSl w RA vs
  len : vs.length ≤ 1048576
  rng : ∀ v ∈ vs, inI v.int ∧ v.text.length ≤ reachBytes
theorem RowW.below {w w' : World} {RA : Option Addr} {vs : List Vl} (h : RowW w RA vs) (hb : Below w.heap.size w w') : RowW w' RA vs := ⟨h.vals.below hb, h.len, h.rng⟩
theorem RowW.env {w : World} {RA : Option Addr} {vs : List Vl} (h : RowW w RA vs) (hv : (vs.all fun v => chkV v == 0) = true) : EnvW (fun _ => True) w RA none vs [] :=
  ⟨h.vals, h.len, (fun v hm => rv_of (by simpa using List.all_eq_true.mp hv v hm) (h.rng v hm).1 (h.rng v hm).2), fun h0 => absurd h0 (by simp), by simp, (fun _ hq => by cases hq), (fun _ hq => by cases hq)⟩
theorem chain_below {B : Nat} {w a b : World} (h : Below B w a) (hb : Below a.heap.size a b) (hs : B ≤ a.heap.size) : Below B w b := h.trans (hb.mono hs)

def okT (l : List UInt8) : Bool := match lexT l with
  | .ok _ => true
  | .error _ => false
theorem okT_ok {l : List UInt8} (h : okT l = true) : ∃ ts, lexT l = .ok ts := by
  unfold okT at h
  split at h
  · exact ⟨_, by assumption⟩
  · exact absurd h (by decide)
def tA : List UInt8 := [98, 32, 60, 62, 32, 48, 32, 65, 78, 68, 32, 97, 32, 47, 32, 98, 32, 61, 32, 49]
def tB : List UInt8 := [49, 32, 47, 32, 48]
def tC : List UInt8 := [115, 117, 109, 40, 97, 41, 32, 43, 32, 49]
def tD : List UInt8 := [115, 117, 109, 40, 97, 41]
def eA0 : Ex := pairE 6 (colE [] [98]) (litE (vNum 0))
def eA1 : Ex := pairE 5 (pairE 14 (colE [] [97]) (colE [] [98])) (litE (vNum 1))
def eA : Ex := pairE 4 eA0 eA1
def eB : Ex := pairE 14 (litE (vNum 1)) (litE (vNum 0))
def eD : Ex := callE 6 2 [colE [] [97]]
def eC : Ex := pairE 11 eD (litE (vNum 1))
set_option maxRecDepth 100000 in
theorem lexA : okT tA = true := by kernel_rfl
set_option maxRecDepth 100000 in
theorem lexB : okT tB = true := by kernel_rfl
set_option maxRecDepth 100000 in
theorem lexC : okT tC = true := by kernel_rfl
set_option maxRecDepth 100000 in
theorem lexD : okT tD = true := by kernel_rfl
set_option maxRecDepth 100000 in
theorem readA : (readF nmOk (lexE tA) 32).or 0 = .ok (eA, 9) := by kernel_rfl
set_option maxRecDepth 100000 in
theorem readB : (readF nmOk (lexE tB) 32).or 0 = .ok (eB, 3) := by kernel_rfl
set_option maxRecDepth 100000 in
theorem readC : (readF nmOk (lexE tC) 32).or 0 = .ok (eC, 6) := by kernel_rfl
set_option maxRecDepth 100000 in
theorem readD : (readF nmOk (lexE tD) 32).or 0 = .ok (eD, 4) := by kernel_rfl
theorem read16_of {l : List UInt8} (h1 : okT l = true) (hn : l.length ≤ 16384) {x : Ex} {j : Nat} (h2 : (readF nmOk (lexE l) 32).or 0 = .ok (x, j)) (w : World) (hw : LexW w) :
    Calls Tryz.prog 14 #[.string ⟨l.toArray⟩] w fun e w' => Below w.heap.size w w' ∧ ∃ A c, e = .returned (exV x (.slice A x.args.length c)) ∧ Held (fun g => w.heap.size ≤ g) w' x.args (.slice A x.args.length c) := by
  obtain ⟨ts, hts⟩ := okT_ok h1
  refine (read16_calls ⟨l.toArray⟩ hn ts hts x j h2 w hw).mono ?_
  rintro e w' ⟨hb, sl, he, hh⟩
  obtain ⟨A, c, rfl⟩ := held_len hh
  exact ⟨hb, A, c, he, hh⟩
def row70 : List Vl := [vNum 7, vNum 0]
theorem evB : evE row70 [] eB = .error 41 := by kernel_rfl
theorem evC : evE row70 [(eD, vNum 5)] eC = .ok (vNum 6) := by kernel_rfl
theorem evA (u c2 c3 c4 : Int) (y : Ex) : evE row70 [] (.mk 4 4 vNull [] [] u 0 [.mk 4 6 vNull [] [] c2 0 [.mk 2 0 vNull [] [98] 1 0 [], .mk 1 0 (vNum 0) [] [] c3 0 []], y]) = .ok (vTru false) := by kernel_rfl
mutual
theorem rvX_un : ∀ x : Ex, rvX (unCol x) → rvX x
  | .mk k o v t n c ty a => fun h => by
    rw [unCol, rvX] at h
    rw [rvX]
    exact ⟨h.1, rvXL_un a h.2⟩
theorem rvXL_un : ∀ l : List Ex, rvXL (unColL l) → rvXL l
  | [] => fun _ => by rw [rvXL]; trivial
  | x :: l => fun h => by
    rw [unColL, rvXL] at h
    rw [rvXL]
    exact ⟨rvX_un x h.1, rvXL_un l h.2⟩
end
theorem unCol_inv {x : Ex} {k o : Int} {v : Vl} {t n : List UInt8} {c ty : Int} {a : List Ex} (h : unCol x = unCol (.mk k o v t n c ty a)) : ∃ c' a', x = .mk k o v t n c' ty a' ∧ unColL a' = unColL a := by
  obtain ⟨k', o', v', t', n', c', ty', a'⟩ := x
  simp only [unCol] at h
  injection h with h1 h2 h3 h4 h5 h6 h7 h8
  subst h1 h2 h3 h4 h5 h7
  exact ⟨c', a', rfl, h8⟩
theorem unColL_inv {l : List Ex} {a : Ex} {r : List Ex} (h : unColL l = unColL (a :: r)) : ∃ b s, l = b :: s ∧ unCol b = unCol a ∧ unColL s = unColL r := by
  cases l with
  | nil => simp only [unColL] at h; cases h
  | cons b s =>
    simp only [unColL] at h
    injection h with h1 h2
    exact ⟨b, s, rfl, h1, h2⟩
theorem unColL_nil {l : List Ex} (h : unColL l = unColL []) : l = [] := by
  cases l with
  | nil => rfl
  | cons b s => simp only [unColL] at h; cases h
theorem shapeA {xs : List Ex} (h : unColL xs = unColL [eA0, eA1]) : ∃ c2 c3 cc y, xs = [.mk 4 6 vNull [] [] c2 0 [.mk 2 0 vNull [] [98] cc 0 [], .mk 1 0 (vNum 0) [] [] c3 0 []], y] := by
  obtain ⟨b, s, rfl, h1, h2⟩ := unColL_inv h
  obtain ⟨y, s2, rfl, _, h3⟩ := unColL_inv h2
  obtain rfl := unColL_nil h3
  obtain ⟨c2, a2, rfl, h4⟩ := unCol_inv (k := 4) (o := 6) (v := vNull) (t := []) (n := []) (c := 0) (ty := 0) (a := [colE [] [98], litE (vNum 0)]) h1
  obtain ⟨b1, s3, rfl, h5, h6⟩ := unColL_inv h4
  obtain ⟨b2, s4, rfl, h7, h8⟩ := unColL_inv h6
  obtain rfl := unColL_nil h8
  obtain ⟨cc, a3, rfl, h9⟩ := unCol_inv (k := 2) (o := 0) (v := vNull) (t := []) (n := [98]) (c := 0) (ty := 0) (a := []) h5
  obtain rfl := unColL_nil h9
  obtain ⟨c3, a4, rfl, h10⟩ := unCol_inv (k := 1) (o := 0) (v := vNum 0) (t := []) (n := []) (c := 0) (ty := 0) (a := []) h7
  obtain rfl := unColL_nil h10
  exact ⟨c2, c3, cc, y, rfl⟩
theorem rvxA : rvX (unCol eA) := by
  simp only [eA, eA0, eA1, pairE, colE, litE, unCol, unColL, rvX, rvXL, and_true]
  exact ⟨.null, ⟨.null, .null, .num 0 (by decide)⟩, .null, ⟨.null, .null, .null⟩, .num 1 (by decide)⟩
theorem rvxB : rvX eB := by
  simp only [eB, pairE, litE, rvX, rvXL, and_true]
  exact ⟨.null, .num 1 (by decide), .num 0 (by decide)⟩
theorem rvxC : rvX eC := by
  simp only [eC, eD, callE, colE, pairE, litE, rvX, rvXL, and_true]
  exact ⟨.null, ⟨.null, .null⟩, .num 1 (by decide)⟩
theorem rv70 : ∀ v ∈ row70, RV v := by
  intro v hv
  rcases (by simpa [row70] using hv : v = vNum 7 ∨ v = vNum 0) with rfl | rfl
  · exact .num 7 (by decide)
  · exact .num 0 (by decide)
theorem held_in {P : Nat → Prop} {W : World} {xs : List Ex} {g o n c : Nat} (h : Held P W xs (.slice (some ⟨g, o, none⟩) n c)) (h0 : 0 < xs.length) : P g := by
  cases h with
  | nil A c => exact absurd h0 (by simp)
  | cons g o c xs ss hg hl hu hrow hsub => exact hg
theorem store_col {P : Nat → Prop} {W : World} {x : Ex} {A : Option Addr} {n c : Nat} (h : Held P W x.args (.slice A n c)) (h0 : 0 < x.args.length) (h1 : 0 < x.args[0].args.length) :
    ∃ g o c1 g2 o2, A = some ⟨g, o, none⟩ ∧ W.cell? ⟨g, o + 9, none⟩ = some (.slice (some ⟨g2, o2, none⟩) x.args[0].args.length c1) ∧ P g2 ∧ g2 < W.heap.size ∧ W.frozen? ⟨g2, o2 + 7, none⟩ = false ∧ (∃ v, W.cell? ⟨g2, o2 + 7, none⟩ = some v)
      ∧ ∃ xs', unColL xs' = unColL x.args ∧ Held P (W.setCell ⟨g2, o2 + 7, none⟩ (.int .i64 1)) xs' (.slice A n c) ∧ ∀ (k0 : 0 < xs'.length) (k1 : 0 < xs'[0].args.length), xs'[0].args[0].col = 1 := by
  obtain ⟨g, o, A1, n1, c1, rfl, hr1, hh1⟩ := held_at h 0 h0
  obtain ⟨A1', c1', he1⟩ := held_len hh1
  have hn1 : n1 = x.args[0].args.length := by injection he1
  subst hn1
  clear he1 A1' c1'
  obtain ⟨g2, o2, A2, n2, c2, rfl, hr2, hh2⟩ := held_at hh1 0 h1
  simp only [Nat.zero_mul, Nat.add_zero] at hr1 hr2
  have hfz := held_frz hh1 0 7 h1 (by omega)
  simp only [Nat.zero_mul, Nat.add_zero] at hfz
  have hc7 := hr2 7 (by omega)
  have hc9 := hr1 9 (by omega)
  obtain ⟨xs', hu, hs⟩ := held_store hr2 1 h
  have hPg : P g2 := held_in hh1 h1
  refine ⟨g, o, c1, g2, o2, rfl, hc9, hPg, World.block_lt_of_cell? W _ hc7, hfz, ⟨_, hc7⟩, xs', hu, hs, fun k0 k1 => ?_⟩
  obtain ⟨g', o', A1', n1', c1'', e1, hr1', hh1'⟩ := held_at hs 0 k0
  injection e1 with e1
  injection e1 with e2 e3
  subst e2 e3
  simp only [Nat.zero_mul, Nat.add_zero] at hr1'
  have hc9' := hr1' 9 (by omega)
  rw [cell_set _ _ _ _ _ _ (by
    rintro ⟨e4, e5⟩
    subst e4
    exact absurd (row_apart rfl hr2 rfl hr1 9 (by omega) e5) (by omega)), hc9] at hc9'
  obtain ⟨g2', o2', A2', n2', c2', e6, hr2', hh2'⟩ := held_at hh1' 0 k1
  subst e6
  have hc9'' : Value.slice (some ⟨g2, o2, none⟩) x.args[0].args.length c1 = .slice (some ⟨g2', o2', none⟩) n1' c1'' := by simpa [exC] using hc9'
  injection hc9'' with e7 e8 e9
  injection e7 with e7
  injection e7 with e10 e11
  subst e10 e11
  simp only [Nat.zero_mul, Nat.add_zero] at hr2'
  have hc7' := hr2' 7 (by omega)
  rw [World.cell?_setCell_same (h := hc7)] at hc7'
  have : Value.int .i64 1 = .int .i64 (xs'[0].args[0].col) := by simpa [exC] using hc7'
  injection this with _ h
  exact h.symm
def Has2 (x : Ex) : Prop := x.args.length = 2 ∧ ∀ h : 0 < x.args.length, (x.args[0]'h).args.length = 2
theorem has2A : Has2 eA := ⟨rfl, fun _ => rfl⟩
def ColFix (x : Ex) : Prop := ∀ (xs : List Ex) (c : Int), unColL xs = unColL x.args → (∀ (k0 : 0 < xs.length) (k1 : 0 < (xs[0]'k0).args.length), ((xs[0]'k0).args[0]'k1).col = 1) → evE row70 [] (setCol x c xs) = .ok (vTru false) ∧ rvX (setCol x c xs) ∧ xs.length = 2
theorem colA : ColFix eA := fun xs c h1 h2 => by
  have hu := unCol_set (x := eA) (u := c) h1
  have hr : rvX (setCol eA c xs) := rvX_un _ (hu ▸ rvxA)
  obtain ⟨c2, c3, cc, y, rfl⟩ := shapeA h1
  obtain rfl := h2 (Nat.zero_lt_succ _) (Nat.zero_lt_succ _)
  exact ⟨evA c c2 c3 0 y, hr, rfl⟩
theorem env70 {W : World} {b : Nat} (h : W.heap[b]? = some (.cells #[.int .i64 2, .int .i64 7, .string ⟨#[]⟩, .int .i64 2, .int .i64 0, .string ⟨#[]⟩] 23 (0, 0))) : EnvW (fun _ => True) W (some ⟨b, 0, none⟩) none row70 [] :=
  ⟨fun _ => ⟨b, 0, rfl, fun i hi => by
    rcases (show i = 0 ∨ i = 1 by simp [row70] at hi; omega) with rfl | rfl
    · exact ⟨(blk_cell h 0).trans rfl, (blk_cell h 1).trans rfl, (blk_cell h 2).trans rfl⟩
    · exact ⟨(blk_cell h 3).trans rfl, (blk_cell h 4).trans rfl, (blk_cell h 5).trans rfl⟩⟩, by decide, rv70, fun h0 => absurd h0 (by simp), by simp, (fun _ hq => by cases hq), (fun _ hq => by cases hq)⟩
abbrev rowK : Obj := .cells #[.int .i64 2, .int .i64 7, .string ⟨#[]⟩, .int .i64 2, .int .i64 0, .string ⟨#[]⟩] 23 (0, 0)
theorem eval70 {x : Ex} (hx : rvX x) {r : Ev} (he : evE row70 [] x = r) {P : Nat → Prop} {A : Option Addr} {c m : Nat} (hm : x.args.length = m) {b : Nat} {w : World} (hr : w.heap[b]? = some rowK) (hh : Held P w x.args (.slice A m c)) :
    Calls Tryz.prog 11 #[exV x (.slice A m c), .slice (some ⟨b, 0, none⟩) 2 2, .slice none 0 0] w fun e w' => e = .returned (.tuple #[vC (resVal r), .int .i64 (resNum r)]) ∧ Below w.heap.size w w' := by
  subst hm he
  exact (eval_calls row70 [] x hx _ _ A (some ⟨b, 0, none⟩) none c 2 0 w (env70 hr) hh).mono fun e w' h => ev2_form h
theorem evalB {P : Nat → Prop} {A : Option Addr} {c b : Nat} {w : World} (hr : w.heap[b]? = some rowK) (hh : Held P w eB.args (.slice A eB.args.length c)) :
    Calls Tryz.prog 11 #[exV eB (.slice A eB.args.length c), .slice (some ⟨b, 0, none⟩) 2 2, .slice none 0 0] w fun e w' => e = .returned (.tuple #[.agg #[.int .i64 0, .int .i64 0, .string ⟨#[]⟩], .int .i64 41]) ∧ Below w.heap.size w w' := eval70 rvxB evB rfl hr hh
theorem evalA {P : Nat → Prop} {x : Ex} {xs : List Ex} (hx : rvX (setCol x x.col xs)) (he : evE row70 [] (setCol x x.col xs) = .ok (vTru false)) (hl : xs.length = 2) {A : Option Addr} {c b : Nat} {w : World} (hr : w.heap[b]? = some rowK) (hh : Held P w xs (.slice A 2 c)) :
    Calls Tryz.prog 11 #[.agg #[.int .i64 x.kind, .int .i64 x.op, .int .i64 x.v.kind, .int .i64 x.v.int, .string ⟨x.v.text.toArray⟩, .string ⟨x.table.toArray⟩, .string ⟨x.name.toArray⟩, .int .i64 x.col, .int .i64 x.ty, .slice A 2 c], .slice (some ⟨b, 0, none⟩) 2 2, .slice none 0 0] w fun e w' => e = .returned (.tuple #[.agg #[.int .i64 1, .int .i64 0, .string ⟨#[]⟩], .int .i64 0]) ∧ Below w.heap.size w w' := eval70 hx he hl hr hh
abbrev knK (A : Option Addr) (c : Nat) : Obj := .cells #[.int .i64 6, .int .i64 2, .int .i64 0, .int .i64 0, .string ⟨#[]⟩, .string ⟨#[]⟩, .string ⟨#[]⟩, .int .i64 0, .int .i64 0, .slice A 1 c, .int .i64 2, .int .i64 5, .string ⟨#[]⟩] 39 (0, 0)
theorem knD {P : Nat → Prop} {W : World} {b c : Nat} {A : Option Addr} (h : W.heap[b]? = some (knK A c)) (hh : Held P W eD.args (.slice A 1 c)) : KnSl P W (some ⟨b, 0, none⟩) [(eD, vNum 5)] := fun _ => by
  refine ⟨b, 0, rfl, fun i hi => ?_⟩
  obtain rfl : i = 0 := by simp at hi; omega
  refine ⟨A, 1, c, fun j hj => ?_, hh, ?_⟩
  · rcases (show j = 0 ∨ j = 1 ∨ j = 2 ∨ j = 3 ∨ j = 4 ∨ j = 5 ∨ j = 6 ∨ j = 7 ∨ j = 8 ∨ j = 9 by omega) with rfl | rfl | rfl | rfl | rfl | rfl | rfl | rfl | rfl | rfl <;> exact (blk_cell h _).trans rfl
  · exact ⟨(blk_cell h 10).trans rfl, (blk_cell h 11).trans rfl, (blk_cell h 12).trans rfl⟩
theorem evalC {P Q : Nat → Prop} {A A' : Option Addr} {c c' b b' : Nat} {w : World} (hr : w.heap[b]? = some rowK) (hk : w.heap[b']? = some (knK A' c')) (hd : Held P w eD.args (.slice A' 1 c')) (hh : Held Q w eC.args (.slice A eC.args.length c)) :
    Calls Tryz.prog 11 #[exV eC (.slice A eC.args.length c), .slice (some ⟨b, 0, none⟩) 2 2, .slice (some ⟨b', 0, none⟩) 1 1] w fun e w' => e = .returned (.tuple #[.agg #[.int .i64 2, .int .i64 6, .string ⟨#[]⟩], .int .i64 0]) ∧ Below w.heap.size w w' := by
  have he : EnvW P w (some ⟨b, 0, none⟩) (some ⟨b', 0, none⟩) row70 [(eD, vNum 5)] := ⟨(env70 hr).vals, by decide, rv70, knD hk hd, by simp, (fun q hq => by
    obtain rfl := List.mem_singleton.mp hq
    exact .num 5 (by decide)), (fun q hq => by
    obtain rfl := List.mem_singleton.mp hq
    exact few_of eD (by decide))⟩
  refine (eval_calls row70 [(eD, vNum 5)] eC rvxC _ _ A (some ⟨b, 0, none⟩) (some ⟨b', 0, none⟩) c 2 1 w he hh).mono fun e w' h => ?_
  have := ev2_form h
  rw [evC] at this
  exact this

set_option maxRecDepth 100000 in
theorem works16_calls (w : World) (h : LexW w) : Calls Tryz.prog 6 #[] w fun e w' => e = .returned (.bool true) ∧ Below w.heap.size w w' := by
  have HW := Asd.mk h
  clear h
  have HR := Asd.mk (blk_new w (.cells #[.int .i64 2, .int .i64 7, .string ⟨#[]⟩, .int .i64 2, .int .i64 0, .string ⟨#[]⟩] 23 (0, 0)))
  have HB1 : Asd (Below w.heap.size w (w.alloc (.cells #[.int .i64 2, .int .i64 7, .string ⟨#[]⟩, .int .i64 2, .int .i64 0, .string ⟨#[]⟩] 23 (0, 0)))) := Asd.mk (below_alloc (Below.refl _ _) _)
  go_enter Tryz.func6, Tryz.ntmps6
  go_upto_region 2 with fail
  generalize w.alloc (.cells #[.int .i64 2, .int .i64 7, .string ⟨#[]⟩, .int .i64 2, .int .i64 0, .string ⟨#[]⟩] 23 (0, 0)) = w1 at HR HB1 ⊢
  have HW1 := Asd.mk (HW.out.below HB1.out)
  have HZ1 : Asd (w.heap.size < w1.heap.size) := Asd.mk (blk_lt HR.out)
  go_wp2_with fail
  refine (read16_of lexA (by decide) readA w1 HW1.out).mono ?_
  rintro e w2 ⟨hb2, As, cs, rfl, hh⟩
  have HB2 : Asd (Below w.heap.size w w2) := Asd.mk (HB1.out.trans (hb2.mono HB1.out.size))
  have HR2 := Asd.mk (blk_below hb2 HR.out)
  have HX0 : Asd (exV eA (.slice As eA.args.length cs) = .agg #[.int .i64 eA.kind, .int .i64 eA.op, .int .i64 eA.v.kind, .int .i64 eA.v.int, .string ⟨eA.v.text.toArray⟩, .string ⟨eA.table.toArray⟩, .string ⟨eA.name.toArray⟩, .int .i64 eA.col, .int .i64 eA.ty, .slice As eA.args.length cs]) := Asd.mk rfl
  have HC := Asd.mk colA
  have H2 := Asd.mk has2A
  rw [HX0.out]
  generalize eA = x at hh HC H2 ⊢
  clear HX0
  have HX3 := Asd.mk (blk_new w2 (.cells #[.int .i64 x.kind, .int .i64 x.op, .int .i64 x.v.kind, .int .i64 x.v.int, .string ⟨x.v.text.toArray⟩, .string ⟨x.table.toArray⟩, .string ⟨x.name.toArray⟩, .int .i64 x.col, .int .i64 x.ty, .slice As x.args.length cs] 26 (0, 0)))
  have HB3 : Asd (Below w2.heap.size w2 (w2.alloc (.cells #[.int .i64 x.kind, .int .i64 x.op, .int .i64 x.v.kind, .int .i64 x.v.int, .string ⟨x.v.text.toArray⟩, .string ⟨x.table.toArray⟩, .string ⟨x.name.toArray⟩, .int .i64 x.col, .int .i64 x.ty, .slice As x.args.length cs] 26 (0, 0)))) := Asd.mk (below_alloc (Below.refl _ _) _)
  go_upto_region 3 with fail
  generalize w2.alloc (.cells #[.int .i64 x.kind, .int .i64 x.op, .int .i64 x.v.kind, .int .i64 x.v.int, .string ⟨x.v.text.toArray⟩, .string ⟨x.table.toArray⟩, .string ⟨x.name.toArray⟩, .int .i64 x.col, .int .i64 x.ty, .slice As x.args.length cs] 26 (0, 0)) = w3 at HX3 HB3 ⊢
  have HH3 := Asd.mk (held_below (held_mono (Q := fun g => w1.heap.size ≤ g ∧ g < w2.heap.size) hh (fun g hlt hg => ⟨hg, hlt⟩)) HB3.out)
  have HR3 := Asd.mk (blk_below HB3.out HR2.out)
  have HB30 : Asd (Below w.heap.size w w3) := Asd.mk (chain_below HB2.out HB3.out HB2.out.size)
  clear hh hb2
  obtain ⟨hl0, hl2⟩ := H2.out
  have HLN := Asd.mk hl0
  have h0 : 0 < x.args.length := by omega
  have hl1 := hl2 h0
  have h1 : 0 < x.args[0].args.length := by omega
  obtain ⟨g, o, c1, g2, o2, rfl, k9, hP, hlt, hfz, ⟨vo, k7⟩, xs', hu, hs, hcol⟩ := store_col HH3.out h0 h1
  rw [hl1] at k9
  rw [HLN.out] at hs ⊢
  clear hl1 h1 h0 hl0 hl2 H2
  obtain ⟨hev, hrv, hxl⟩ := HC.out xs' x.col hu (hcol)
  have HEV := Asd.mk hev
  have HRV := Asd.mk hrv
  have HXL := Asd.mk hxl
  have HH4 := Asd.mk hs
  clear hu hev hrv hxl hs hcol HC
  have e9 : w3.cell? ⟨w2.heap.size, 9, none⟩ = some (.slice (some ⟨g, o, none⟩) 2 cs) := (blk_cell HX3.out 9).trans (by rw [HLN.out]; rfl)
  have hP1 := hP.1
  have hP2 := hP.2
  have hne1 : w2.heap.size ≠ g2 := by omega
  have hne2 : w.heap.size ≠ g2 := by have := HZ1.out; omega
  have HF4 : Asd (Fr (fun k => k = g2) w3 (w3.setCell ⟨g2, o2 + 7, none⟩ (.int .i64 1))) := Asd.mk (Fr.setCell (p := ⟨g2, o2 + 7, none⟩) (Fr.refl (fun k => k = g2) w3) rfl _)
  have HB4 : Asd (Below w.heap.size w (w3.setCell ⟨g2, o2 + 7, none⟩ (.int .i64 1))) := Asd.mk (below_set (p := ⟨g2, o2 + 7, none⟩) HB30.out (by have := HZ1.out; show w.heap.size ≤ g2; omega) _)
  go_wp2_with fail
  generalize w3.setCell ⟨g2, o2 + 7, none⟩ (.int .i64 1) = w4 at HF4 HB4 HH4 ⊢
  have HX4 := Asd.mk (blk_fr HX3.out HF4.out hne1)
  have HR4 := Asd.mk (blk_fr HR3.out HF4.out hne2)
  clear e9 k7 k9 hfz hlt hne1 hne2 hP1 hP2 hP HX3 HR3 HF4 HB3 HR HR2 HB1 HB2 HH3
  have HX4b : Asd (w4.heap[w2.heap.size]? = some (.cells #[.int .i64 x.kind, .int .i64 x.op, .int .i64 x.v.kind, .int .i64 x.v.int, .string ⟨x.v.text.toArray⟩, .string ⟨x.table.toArray⟩, .string ⟨x.name.toArray⟩, .int .i64 x.col, .int .i64 x.ty, .slice (some ⟨g, o, none⟩) 2 cs] 26 (0, 0))) := Asd.mk (by rw [← HLN.out]; exact HX4.out)
  clear HX4 HLN
  have HW4 := Asd.mk (HW.out.below HB4.out)
  refine (read16_of lexB (by decide) readB w4 HW4.out).mono ?_
  rintro e w5 ⟨hb5, A5, c5, rfl, hh5⟩
  have HR5 := Asd.mk (blk_below hb5 HR4.out)
  have HX5 := Asd.mk (blk_below hb5 HX4b.out)
  have HH5 := Asd.mk (held_below HH4.out hb5)
  have HB5 : Asd (Below w.heap.size w w5) := Asd.mk (chain_below HB4.out hb5 HB4.out.size)
  clear hb5 HR4 HX4b HH4 HB4
  go_wp2_with fail
  refine (evalB HR5.out hh5).mono ?_
  rintro e w6 ⟨rfl, hb6⟩
  clear hh5
  have HR6 := Asd.mk (blk_below hb6 HR5.out)
  have HX6 := Asd.mk (blk_below hb6 HX5.out)
  have HH6 := Asd.mk (held_below HH5.out hb6)
  have HB6 : Asd (Below w.heap.size w _) := Asd.mk (chain_below HB5.out hb6 HB5.out.size)
  clear HR5 HX5 HH5 HB5
  clear hb6
  have HV7 := Asd.mk (blk_new w6 (.cells #[.int .i64 0, .int .i64 0, .string ⟨#[]⟩] 23 (0, 0)))
  have hba7 : Below w6.heap.size w6 (w6.alloc (.cells #[.int .i64 0, .int .i64 0, .string ⟨#[]⟩] 23 (0, 0))) := below_alloc (Below.refl _ _) _
  have HR7 := Asd.mk (blk_below hba7 HR6.out)
  have HX7 := Asd.mk (blk_below hba7 HX6.out)
  have HH7 := Asd.mk (held_below HH6.out hba7)
  have HB7 : Asd (Below w.heap.size w _) := Asd.mk (chain_below HB6.out hba7 HB6.out.size)
  clear HR6 HX6 HH6 HB6
  go_upto_region 7 with fail
  clear HV7 hba7
  generalize w6.alloc (.cells #[.int .i64 0, .int .i64 0, .string ⟨#[]⟩] 23 (0, 0)) = w7 at HR7 HX7 HH7 HB7 ⊢
  obtain ⟨f0, f1, f2, f3, f4, f5, f6, f7, f8, f9⟩ := ex_cells (x := x) HX7.out
  go_wp2_with fail
  refine (evalA HRV.out HEV.out HXL.out HR7.out HH7.out).mono ?_
  rintro e w8 ⟨rfl, hb8⟩
  clear f0 f1 f2 f3 f4 f5 f6 f7 f8 f9 HH7 HX7 HRV HEV HXL
  have HR8 := Asd.mk (blk_below hb8 HR7.out)
  have HB8 : Asd (Below w.heap.size w _) := Asd.mk (chain_below HB7.out hb8 HB7.out.size)
  clear HR7 HB7
  clear hb8
  have HV9 := Asd.mk (blk_new w8 (.cells #[.int .i64 1, .int .i64 0, .string ⟨#[]⟩] 23 (0, 0)))
  have hba9 : Below w8.heap.size w8 (w8.alloc (.cells #[.int .i64 1, .int .i64 0, .string ⟨#[]⟩] 23 (0, 0))) := below_alloc (Below.refl _ _) _
  have HR9 := Asd.mk (blk_below hba9 HR8.out)
  have HB9 : Asd (Below w.heap.size w _) := Asd.mk (chain_below HB8.out hba9 HB8.out.size)
  clear HR8 HB8
  go_upto_region 8 with fail
  clear hba9
  generalize w8.alloc (.cells #[.int .i64 1, .int .i64 0, .string ⟨#[]⟩] 23 (0, 0)) = w9 at HR9 HV9 HB9 ⊢
  have HW9 := Asd.mk (HW.out.below HB9.out)
  go_wp2_with fail
  refine (read16_of lexC (by decide) readC w9 HW9.out).mono ?_
  rintro e w10 ⟨hb10, A10, c10, rfl, hh10⟩
  have HH10 := Asd.mk hh10
  clear hh10
  have HR10 := Asd.mk (blk_below hb10 HR9.out)
  have HV10 := Asd.mk (blk_below hb10 HV9.out)
  have HB10 : Asd (Below w.heap.size w _) := Asd.mk (chain_below HB9.out hb10 HB9.out.size)
  clear HR9 HV9 HB9
  clear hb10
  have HW10 := Asd.mk (HW.out.below HB10.out)
  go_wp2_with fail
  refine (read16_of lexD (by decide) readD w10 HW10.out).mono ?_
  rintro e w11 ⟨hb11, A11, c11, rfl, hh11⟩
  have HD11 := Asd.mk hh11
  clear hh11
  have HR11 := Asd.mk (blk_below hb11 HR10.out)
  have HV11 := Asd.mk (blk_below hb11 HV10.out)
  have HH11 := Asd.mk (held_below HH10.out hb11)
  have HB11 : Asd (Below w.heap.size w _) := Asd.mk (chain_below HB10.out hb11 HB10.out.size)
  clear HR10 HV10 HH10 HB10
  clear hb11
  rw [show exV eD (.slice A11 eD.args.length c11) = .agg #[.int .i64 6, .int .i64 2, .int .i64 0, .int .i64 0, .string ⟨#[]⟩, .string ⟨#[]⟩, .string ⟨#[]⟩, .int .i64 0, .int .i64 0, .slice A11 1 c11] from rfl]
  have HK12 := Asd.mk (blk_new w11 (knK A11 c11))
  have hba12 : Below w11.heap.size w11 (w11.alloc (knK A11 c11)) := below_alloc (Below.refl _ _) _
  have HD12 := Asd.mk (held_below HD11.out hba12)
  have HR12 := Asd.mk (blk_below hba12 HR11.out)
  have HV12 := Asd.mk (blk_below hba12 HV11.out)
  have HH12 := Asd.mk (held_below HH11.out hba12)
  have HB12 : Asd (Below w.heap.size w _) := Asd.mk (chain_below HB11.out hba12 HB11.out.size)
  clear HR11 HV11 HH11 HB11
  go_wp2_with fail
  clear hba12
  refine (evalC HR12.out HK12.out HD12.out HH12.out).mono ?_
  rintro e w13 ⟨rfl, hb13⟩
  have HV13 := Asd.mk (blk_below hb13 HV12.out)
  have HB13 : Asd (Below w.heap.size w _) := Asd.mk (chain_below HB12.out hb13 HB12.out.size)
  clear HV12 HB12
  clear hb13 HR12 HK12 HD12 HH12
  have HU14 := Asd.mk (blk_new w13 (.cells #[.int .i64 2, .int .i64 6, .string ⟨#[]⟩] 23 (0, 0)))
  have hba14 : Below w13.heap.size w13 (w13.alloc (.cells #[.int .i64 2, .int .i64 6, .string ⟨#[]⟩] 23 (0, 0))) := below_alloc (Below.refl _ _) _
  have HV14 := Asd.mk (blk_below hba14 HV13.out)
  have HB14 : Asd (Below w.heap.size w _) := Asd.mk (chain_below HB13.out hba14 HB13.out.size)
  clear HV13 HB13
  go_upto_region 9 with fail
  clear hba14
  generalize w13.alloc (.cells #[.int .i64 2, .int .i64 6, .string ⟨#[]⟩] 23 (0, 0)) = w14 at HU14 HV14 HB14 ⊢
  have g0 := (blk_cell HV14.out 0).trans rfl
  have g1 := (blk_cell HV14.out 1).trans rfl
  have g2 := (blk_cell HV14.out 2).trans rfl
  have k0 := (blk_cell HU14.out 0).trans rfl
  have k1 := (blk_cell HU14.out 1).trans rfl
  have k2 := (blk_cell HU14.out 2).trans rfl
  have q1 : ∀ W, (binOp .eql 23 (.agg #[.int .i64 1, .int .i64 0, .string ⟨#[]⟩]) (.agg #[.int .i64 1, .int .i64 0, .string ⟨#[]⟩])).run Tryz.prog W = .ok (.bool true) W := fun W => by rw [val_eql]; simp
  have q2 : ∀ W, (binOp .eql 23 (.agg #[.int .i64 2, .int .i64 6, .string ⟨#[]⟩]) (.agg #[.int .i64 2, .int .i64 6, .string ⟨#[]⟩])).run Tryz.prog W = .ok (.bool true) W := fun W => by rw [val_eql]; simp
  go_wp2
  go_ret
  exact ⟨ret_eq rfl, HB14.out⟩

set_option maxRecDepth 100000 in
theorem open_exv {H : Type} {enc : TypeId × Value → H} (W : World) (v : Value) (d : DataW H) (p : List MemPlace) (h : DataW.Trod enc Tryz.prog W 0 (fun _ => true) true 26 v d p) (hb : Rows.uptoBulk d ≤ 1048576) (hz : W.noneFrozen p) :
    ∃ x A c, v = exV x (.slice A x.args.length c) ∧ Held (fun _ => True) W x.args (.slice A x.args.length c) ∧ bulkX x ≤ 1048576 ∧ rngX x := by
  obtain ⟨m, hm⟩ := h
  obtain ⟨x, s, hc, hh, hbk, hr⟩ := open_ex 1048576 m _ _ hb hz hm
  obtain ⟨A, c, rfl⟩ := held_len hh
  refine ⟨x, A, c, ?_, hh, Nat.le_trans hbk hb, hr⟩
  have hcc : v.cells = (exC x (.slice A x.args.length c)).toArray := by rw [← hc]
  cases v with
  | agg cs => exact congrArg Value.agg hcc
  | _ => exact absurd (congrArg Array.size hcc) (by simp [Value.cells, exC])
set_option maxRecDepth 100000 in
theorem open_rowv {H : Type} {enc : TypeId × Value → H} (W : World) (v : Value) (d : DataW H) (p : List MemPlace) {base : Nat} (ok : Value.okWide Tryz.prog W .any base 27 v) (h : DataW.Trod enc Tryz.prog W 0 (fun _ => true) true 27 v d p) (hb : Rows.uptoBulk d ≤ 1048576) :
    ∃ A c vs, v = .slice A vs.length c ∧ RowW W A vs := by
  obtain ⟨m, hm⟩ := h
  obtain ⟨A', n', c', rfl⟩ := Go.WideShapes.okWide_slice Tryz.underlying27 ok
  obtain ⟨A, c, vs, hc, hv, hl, hr⟩ := open_vals hm
  refine ⟨A, c, vs, ?_, hv, Nat.le_trans hl hb, fun u hu => ⟨(hr u hu).1, Nat.le_trans (hr u hu).2 (Nat.le_trans hb (by unfold reachBytes; omega))⟩⟩
  simpa [Value.cells] using hc
end Go.Proofs.YtbeeaikilcnpgaaGreatDoor.Exp

namespace Go.Proofs.YtbeeaikilcnpgaaGreatDoor.Laid
open Go.ChangeShapes Go.WideShapes Go.ChangeAt Go.RowKit
def part1 : DataW Unit → List Value
  | .lit (.int k n) => [.int k n]
  | _ => []
def part2 : DataW Unit → List Value
  | .lit (.int k n) => [.int k n]
  | .agg l => l.flatMap part1
  | _ => []
def flat : DataW Unit → List Value
  | .agg l => l.flatMap part2
  | _ => []
def lay (P : Program) : List (String × DataW Unit) → World → World
  | [], w => w
  | (n, d) :: l, w => lay P l (match P.globalNamed n with
    | some g => { w with heap := w.heap.modify g fun
        | .cells _ t fr => .cells (flat d).toArray t fr
        | o => o }
    | none => w)

theorem star : "*" ++ "errors.errorString" = "*errors.errorString" := by decide
theorem rowErr (u : TypeId) (h : Tryz.prog.typeName? 3 u = some "*errors.errorString") : u = 169 :=
  typeName_ptr_named (nm := "errors.errorString") (by rw [star]; kernel_rfl) (by kernel_rfl) (by decide) u (by rw [star]; exact h)
theorem sent_of {l : List (String × DataW Unit)} {W : World} (h : laidMetH Tryz.prog l W) {n : String} {text : List UInt8} {g : Nat} (hl : l.filter (fun x => x.1 == n) = [(n, .iface "*errors.errorString" (.ptr (.agg [.lit (.string text)])))])
    (hg : Tryz.prog.globalNamed n = some g) (hty : (Tryz.prog.globals[g]?).map (·.type) = some 62) : ∃ t p, W.cell? ⟨g, 0, none⟩ = some (.iface t p) := by
  have h2 := h.filter (fun x => x.1 == n)
  rw [hl] at h2
  rw [MakeChecks.laidMetH_plain _ _ _ (by rfl)] at h2
  obtain ⟨a, s, hv, _⟩ := laid_sentinel h2 hg hty Tryz.underlying62 rowErr Tryz.underlying169 Tryz.underlying171 rfl rfl Tryz.underlying9 (by kernel_rfl) (by kernel_rfl)
  exact ⟨_, _, by simpa using World.var?_cell hg hv 0⟩
theorem lexW_of {l : List (String × DataW Unit)} {W : World} (hs : W.ShapedOpen Tryz.prog) (h : laidMetH Tryz.prog l W) {t3 t4 : List UInt8}
    (h3 : l.filter (fun x => x.1 == "strconv.ErrSyntax") = [("strconv.ErrSyntax", .iface "*errors.errorString" (.ptr (.agg [.lit (.string t3)])))])
    (h4 : l.filter (fun x => x.1 == "strconv.ErrRange") = [("strconv.ErrRange", .iface "*errors.errorString" (.ptr (.agg [.lit (.string t4)])))]) : Lex.LexW W :=
  ⟨hs, sent_of h h3 (by kernel_rfl) (by kernel_rfl), sent_of h h4 (by kernel_rfl) (by kernel_rfl)⟩

noncomputable def errWorld (w : World) : World :=
  let N := w.heap.size
  { w with heap := (((w.heap.modify 1 fun
      | .cells _ t fr => .cells #[.iface 169 (.pointer (some ⟨N, 0, none⟩))] t fr
      | o => o).modify 2 fun
      | .cells _ t fr => .cells #[.iface 169 (.pointer (some ⟨N + 1, 0, none⟩))] t fr
      | o => o).push (.cells #[.string ⟨#[105, 110, 118, 97, 108, 105, 100, 32, 115, 121, 110, 116, 97, 120]⟩] 171)).push (.cells #[.string ⟨#[118, 97, 108, 117, 101, 32, 111, 117, 116, 32, 111, 102, 32, 114, 97, 110, 103, 101]⟩] 171) }
end Go.Proofs.YtbeeaikilcnpgaaGreatDoor.Laid

namespace Go.Proofs.YtbeeaikilcnpgaaGreatDoor.Exp
open Go.RowKit Go.Proofs.YtbeeaikilcnpgaaGreatDoor.Base Go.Proofs.YtbeeaikilcnpgaaGreatDoor.App Go.Proofs.YtbeeaikilcnpgaaGreatDoor.Byt
set_option maxRecDepth 100000 in
theorem roperands_calls (k : Nat) (h : 1 ≤ k) (h' : k ≤ 6) (w : World) : Calls Tryz.prog 52 #[.int .i64 (k : Nat)] w fun e w' => e = .returned (.int .i64 ((opn k : Nat) : Int)) ∧ w' = w := by
  rcases (show k = 1 ∨ k = 2 ∨ k = 3 ∨ k = 4 ∨ k = 5 ∨ k = 6 by omega) with rfl | rfl | rfl | rfl | rfl | rfl <;> (go_enter Tryz.func52, Tryz.ntmps52; go_wp2; go_ret; exact ⟨rfl, rfl⟩)
def bnG (o : Int) : Int := if 3 ≤ o ∧ o ≤ 16 then pairLn o.toNat else 0
set_option maxRecDepth 100000 in
theorem rbinary_lo (o : Int) (h : o < 3) (w : World) : Calls Tryz.prog 53 #[.int .i64 o] w fun e w' => e = .returned (.int .i64 0) ∧ w' = w := by
  have h1 : ¬ o = 3 := by omega
  have h2 : ¬ o = 4 := by omega
  have h3 : ¬ 5 ≤ o := by omega
  have h4 : ¬ o = 16 := by omega
  have h5 : ¬ o = 11 := by omega
  have h6 : ¬ o = 12 := by omega
  have h56 : (o == 11 || o == 12) = false := by simp [h5, h6]
  have h7 : ¬ 13 ≤ o := by omega
  go_enter Tryz.func53, Tryz.ntmps53
  go_wp2
  go_ret
  exact ⟨rfl, rfl⟩
set_option maxRecDepth 100000 in
theorem rbinary_hi (o : Int) (h : 16 < o) (w : World) : Calls Tryz.prog 53 #[.int .i64 o] w fun e w' => e = .returned (.int .i64 0) ∧ w' = w := by
  have h1 : ¬ o = 3 := by omega
  have h2 : ¬ o = 4 := by omega
  have h3 : 5 ≤ o := by omega
  have h3b : ¬ o ≤ 10 := by omega
  have h4 : ¬ o = 16 := by omega
  have h5 : ¬ o = 11 := by omega
  have h6 : ¬ o = 12 := by omega
  have h56 : (o == 11 || o == 12) = false := by simp [h5, h6]
  have h7 : 13 ≤ o := by omega
  have h8 : ¬ o ≤ 15 := by omega
  go_enter Tryz.func53, Tryz.ntmps53
  go_wp2
  go_ret
  exact ⟨rfl, rfl⟩
set_option maxRecDepth 100000 in
theorem rbinary_calls (o : Int) (w : World) : Calls Tryz.prog 53 #[.int .i64 o] w fun e w' => e = .returned (.int .i64 (bnG o)) ∧ w' = w := by
  by_cases hl : o < 3
  · rw [show bnG o = 0 by unfold bnG; rw [if_neg (by omega)]]
    exact rbinary_lo o hl w
  by_cases hh : 16 < o
  · rw [show bnG o = 0 by unfold bnG; rw [if_neg (by omega)]]
    exact rbinary_hi o hh w
  rcases (show o = 3 ∨ o = 4 ∨ o = 5 ∨ o = 6 ∨ o = 7 ∨ o = 8 ∨ o = 9 ∨ o = 10 ∨ o = 11 ∨ o = 12 ∨ o = 13 ∨ o = 14 ∨ o = 15 ∨ o = 16 by omega) with rfl | rfl | rfl | rfl | rfl | rfl | rfl | rfl | rfl | rfl | rfl | rfl | rfl | rfl <;> (go_enter Tryz.func53, Tryz.ntmps53; go_wp2; go_ret; exact ⟨rfl, rfl⟩)
set_option maxRecDepth 100000 in
theorem lvl_1 (a2 a3 a7 a8 : Int) (s4 s5 s6 : ByteArray) (A : Option Addr) (c : Nat) (w : World) (o : Int) (n : Nat) (L : Int) (hL : lnG 1 o n = L) :
    Calls Tryz.prog 26 #[.agg #[.int .i64 1, .int .i64 o, .int .i64 a2, .int .i64 a3, .string s4, .string s5, .string s6, .int .i64 a7, .int .i64 a8, .slice A n c]] w (LineR L w) := by
  have hc : (n = 0 ∧ L = 9) ∨ (¬ (n : Int) = 0 ∧ L = 0) := by
    unfold lnG at hL
    (repeat' split at hL) <;> omega
  clear hL
  rcases hc with ⟨rfl, rfl⟩ | ⟨h1, rfl⟩
  all_goals go_enter Tryz.func26, Tryz.ntmps26
  all_goals go_wp2
  all_goals go_ret
  all_goals exact ⟨rfl, below_alloc (Below.refl _ w) _⟩
set_option maxRecDepth 100000 in
theorem lvl_2 (a2 a3 a7 a8 : Int) (s4 s5 s6 : ByteArray) (A : Option Addr) (c : Nat) (w : World) (o : Int) (n : Nat) (L : Int) (hL : lnG 2 o n = L) :
    Calls Tryz.prog 26 #[.agg #[.int .i64 2, .int .i64 o, .int .i64 a2, .int .i64 a3, .string s4, .string s5, .string s6, .int .i64 a7, .int .i64 a8, .slice A n c]] w (LineR L w) := by
  have hc : (n = 0 ∧ L = 9) ∨ (¬ (n : Int) = 0 ∧ L = 0) := by
    unfold lnG at hL
    (repeat' split at hL) <;> omega
  clear hL
  rcases hc with ⟨rfl, rfl⟩ | ⟨h1, rfl⟩
  all_goals go_enter Tryz.func26, Tryz.ntmps26
  all_goals go_wp2
  all_goals go_ret
  all_goals exact ⟨rfl, below_alloc (Below.refl _ w) _⟩
set_option maxRecDepth 100000 in
theorem lvl_3 (a2 a3 a7 a8 : Int) (s4 s5 s6 : ByteArray) (A : Option Addr) (c : Nat) (w : World) (o : Int) (n : Nat) (L : Int) (hL : lnG 3 o n = L) :
    Calls Tryz.prog 26 #[.agg #[.int .i64 3, .int .i64 o, .int .i64 a2, .int .i64 a3, .string s4, .string s5, .string s6, .int .i64 a7, .int .i64 a8, .slice A n c]] w (LineR L w) := by
  have hc : (o = 2 ∧ n = 1 ∧ L = 3) ∨ (o = 1 ∧ n = 1 ∧ L = 8) ∨ (¬ (n : Int) = 1 ∧ L = 0) ∨ (n = 1 ∧ ¬ o = 1 ∧ ¬ o = 2 ∧ L = 0) := by
    unfold lnG at hL
    (repeat' split at hL) <;> omega
  clear hL
  rcases hc with ⟨rfl, rfl, rfl⟩ | ⟨rfl, rfl, rfl⟩ | ⟨h1, rfl⟩ | ⟨rfl, h2, h3, rfl⟩
  all_goals go_enter Tryz.func26, Tryz.ntmps26
  all_goals go_wp2
  all_goals go_ret
  all_goals exact ⟨rfl, below_alloc (Below.refl _ w) _⟩
set_option maxRecDepth 100000 in
theorem lvl_7 (a2 a3 a7 a8 : Int) (s4 s5 s6 : ByteArray) (A : Option Addr) (c : Nat) (w : World) (o : Int) (n : Nat) (L : Int) (hL : lnG 7 o n = L) :
    Calls Tryz.prog 26 #[.agg #[.int .i64 7, .int .i64 o, .int .i64 a2, .int .i64 a3, .string s4, .string s5, .string s6, .int .i64 a7, .int .i64 a8, .slice A n c]] w (LineR L w) := by
  have hc : (o = 0 ∧ n = 1 ∧ L = 4) ∨ (o = 1 ∧ n = 1 ∧ L = 4) ∨ (¬ (n : Int) = 1 ∧ L = 0) ∨ (n = 1 ∧ ¬ o = 0 ∧ ¬ o = 1 ∧ L = 0) := by
    unfold lnG at hL
    (repeat' split at hL) <;> omega
  clear hL
  rcases hc with ⟨rfl, rfl, rfl⟩ | ⟨rfl, rfl, rfl⟩ | ⟨h1, rfl⟩ | ⟨rfl, h2, h3, rfl⟩
  all_goals try (have hor : (o == 0 || o == 1) = false := by simp [*])
  all_goals go_enter Tryz.func26, Tryz.ntmps26
  all_goals go_wp2
  all_goals go_ret
  all_goals exact ⟨rfl, below_alloc (Below.refl _ w) _⟩
set_option maxRecDepth 100000 in
theorem lvl_6 (a2 a3 a7 a8 : Int) (s4 s5 s6 : ByteArray) (A : Option Addr) (c : Nat) (w : World) (o : Int) (n : Nat) (L : Int) (hL : lnG 6 o n = L) :
    Calls Tryz.prog 26 #[.agg #[.int .i64 6, .int .i64 o, .int .i64 a2, .int .i64 a3, .string s4, .string s5, .string s6, .int .i64 a7, .int .i64 a8, .slice A n c]] w (LineR L w) := by
  have hc : (¬ 1 ≤ o ∧ L = 0) ∨ (1 ≤ o ∧ ¬ o ≤ 4 ∧ L = 0) ∨ (1 ≤ o ∧ o ≤ 4 ∧ n = 1 ∧ L = 9) ∨ (o = 1 ∧ n = 0 ∧ L = 9) ∨ (1 ≤ o ∧ o ≤ 4 ∧ ¬ o = 1 ∧ n = 0 ∧ L = 0) ∨ (1 ≤ o ∧ o ≤ 4 ∧ ¬ (n : Int) = 1 ∧ ¬ (n : Int) = 0 ∧ L = 0) := by
    unfold lnG at hL
    (repeat' split at hL) <;> omega
  clear hL
  rcases hc with ⟨h1, rfl⟩ | ⟨h1, h2, rfl⟩ | ⟨h1, h2, rfl, rfl⟩ | ⟨rfl, rfl, rfl⟩ | ⟨h1, h2, h3, rfl, rfl⟩ | ⟨h1, h2, h3, h4, rfl⟩
  all_goals go_enter Tryz.func26, Tryz.ntmps26
  all_goals go_wp2
  all_goals go_ret
  all_goals exact ⟨rfl, below_alloc (Below.refl _ w) _⟩
set_option maxRecDepth 100000 in
theorem lvl_5_lo (a2 a3 a7 a8 : Int) (s4 s5 s6 : ByteArray) (A : Option Addr) (c : Nat) (w : World) (o : Int) (n : Nat) (h : ¬ 1 ≤ o) :
    Calls Tryz.prog 26 #[.agg #[.int .i64 5, .int .i64 o, .int .i64 a2, .int .i64 a3, .string s4, .string s5, .string s6, .int .i64 a7, .int .i64 a8, .slice A n c]] w (LineR 0 w) := by
  go_enter Tryz.func26, Tryz.ntmps26
  go_wp2
  all_goals go_ret
  all_goals exact ⟨rfl, below_alloc (Below.refl _ w) _⟩
set_option maxRecDepth 100000 in
theorem lvl_5_hi (a2 a3 a7 a8 : Int) (s4 s5 s6 : ByteArray) (A : Option Addr) (c : Nat) (w : World) (o : Int) (n : Nat) (h : ¬ o ≤ 6) :
    Calls Tryz.prog 26 #[.agg #[.int .i64 5, .int .i64 o, .int .i64 a2, .int .i64 a3, .string s4, .string s5, .string s6, .int .i64 a7, .int .i64 a8, .slice A n c]] w (LineR 0 w) := by
  have h1 : 1 ≤ o := by omega
  go_enter Tryz.func26, Tryz.ntmps26
  go_wp2
  all_goals go_ret
  all_goals exact ⟨rfl, below_alloc (Below.refl _ w) _⟩
set_option maxRecDepth 100000 in
theorem lvl_5_yes (a2 a3 a7 a8 : Int) (s4 s5 s6 : ByteArray) (A : Option Addr) (c : Nat) (w : World) (k n : Nat) (h : 1 ≤ k) (h' : k ≤ 6) (hn : n = opn k) :
    Calls Tryz.prog 26 #[.agg #[.int .i64 5, .int .i64 (k : Nat), .int .i64 a2, .int .i64 a3, .string s4, .string s5, .string s6, .int .i64 a7, .int .i64 a8, .slice A n c]] w (LineR 9 w) := by
  have h1 : (1 : Int) ≤ (k : Int) := by omega
  have h2 : (k : Int) ≤ 6 := by omega
  have HO := Asd.mk (roperands_calls k h h')
  clear h h'
  subst hn
  generalize opn k = m at *
  go_enter Tryz.func26, Tryz.ntmps26
  go_wp2_with fail
  refine (HO.out _).mono ?_
  rintro e w2 ⟨rfl, rfl⟩
  go_wp2
  go_ret
  exact ⟨rfl, below_alloc (Below.refl _ w) _⟩
set_option maxRecDepth 100000 in
theorem lvl_5_no (a2 a3 a7 a8 : Int) (s4 s5 s6 : ByteArray) (A : Option Addr) (c : Nat) (w : World) (k n : Nat) (h : 1 ≤ k) (h' : k ≤ 6) (hn : ¬ (n : Int) = (opn k : Int)) :
    Calls Tryz.prog 26 #[.agg #[.int .i64 5, .int .i64 (k : Nat), .int .i64 a2, .int .i64 a3, .string s4, .string s5, .string s6, .int .i64 a7, .int .i64 a8, .slice A n c]] w (LineR 0 w) := by
  have h1 : (1 : Int) ≤ (k : Int) := by omega
  have h2 : (k : Int) ≤ 6 := by omega
  have HO := Asd.mk (roperands_calls k h h')
  clear h h'
  generalize opn k = m at *
  go_enter Tryz.func26, Tryz.ntmps26
  go_wp2_with fail
  refine (HO.out _).mono ?_
  rintro e w2 ⟨rfl, rfl⟩
  go_wp2
  go_ret
  exact ⟨rfl, below_alloc (Below.refl _ w) _⟩
set_option maxRecDepth 100000 in
theorem lvl_4_n (a2 a3 a7 a8 : Int) (s4 s5 s6 : ByteArray) (A : Option Addr) (c : Nat) (w : World) (o : Int) (n : Nat) (hn : ¬ (n : Int) = 2) :
    Calls Tryz.prog 26 #[.agg #[.int .i64 4, .int .i64 o, .int .i64 a2, .int .i64 a3, .string s4, .string s5, .string s6, .int .i64 a7, .int .i64 a8, .slice A n c]] w (LineR 0 w) := by
  go_enter Tryz.func26, Tryz.ntmps26
  go_wp2
  all_goals go_ret
  all_goals exact ⟨rfl, below_alloc (Below.refl _ w) _⟩
set_option maxRecDepth 100000 in
theorem lvl_4_2 (a2 a3 a7 a8 : Int) (s4 s5 s6 : ByteArray) (A : Option Addr) (c : Nat) (w : World) (o : Int) :
    Calls Tryz.prog 26 #[.agg #[.int .i64 4, .int .i64 o, .int .i64 a2, .int .i64 a3, .string s4, .string s5, .string s6, .int .i64 a7, .int .i64 a8, .slice A 2 c]] w (LineR (bnG o) w) := by
  have HO := Asd.mk (rbinary_calls o)
  generalize bnG o = m at *
  go_enter Tryz.func26, Tryz.ntmps26
  go_wp2_with fail
  refine (HO.out _).mono ?_
  rintro e w2 ⟨rfl, rfl⟩
  go_wp2
  go_ret
  exact ⟨rfl, below_alloc (Below.refl _ w) _⟩
set_option maxRecDepth 100000 in
theorem lvl_k (a2 a3 a7 a8 : Int) (s4 s5 s6 : ByteArray) (A : Option Addr) (c : Nat) (w : World) (k o : Int) (n : Nat) (h1 : ¬ k = 1) (h2 : ¬ k = 2) (h3 : ¬ k = 3) (h4 : ¬ k = 4) (h5 : ¬ k = 5) (h6 : ¬ k = 6) (h7 : ¬ k = 7) :
    Calls Tryz.prog 26 #[.agg #[.int .i64 k, .int .i64 o, .int .i64 a2, .int .i64 a3, .string s4, .string s5, .string s6, .int .i64 a7, .int .i64 a8, .slice A n c]] w (LineR 0 w) := by
  go_enter Tryz.func26, Tryz.ntmps26
  go_wp2
  all_goals go_ret
  all_goals exact ⟨rfl, below_alloc (Below.refl _ w) _⟩
theorem lvl_any (a2 a3 a7 a8 : Int) (s4 s5 s6 : ByteArray) (A : Option Addr) (c : Nat) (w : World) (k o : Int) (n : Nat) :
    Calls Tryz.prog 26 #[.agg #[.int .i64 k, .int .i64 o, .int .i64 a2, .int .i64 a3, .string s4, .string s5, .string s6, .int .i64 a7, .int .i64 a8, .slice A n c]] w (LineR (lnG k o n) w) := by
  have cast : ∀ m : Nat, ¬ n = m → ¬ (n : Int) = (m : Int) := fun m h h' => h (by omega)
  by_cases h1 : k = 1
  · subst h1; exact lvl_1 a2 a3 a7 a8 s4 s5 s6 A c w o n _ rfl
  by_cases h2 : k = 2
  · subst h2; exact lvl_2 a2 a3 a7 a8 s4 s5 s6 A c w o n _ rfl
  by_cases h3 : k = 3
  · subst h3; exact lvl_3 a2 a3 a7 a8 s4 s5 s6 A c w o n _ rfl
  by_cases h7 : k = 7
  · subst h7; exact lvl_7 a2 a3 a7 a8 s4 s5 s6 A c w o n _ rfl
  by_cases h6 : k = 6
  · subst h6; exact lvl_6 a2 a3 a7 a8 s4 s5 s6 A c w o n _ rfl
  by_cases h5 : k = 5
  · subst h5
    by_cases ol : 1 ≤ o
    · by_cases oh : o ≤ 6
      · obtain ⟨p, rfl⟩ := Int.eq_ofNat_of_zero_le (show 0 ≤ o by omega)
        by_cases hn : n = opn p
        · rw [show lnG 5 (p : Int) n = 9 by simp [lnG, ol, oh, hn]]; exact lvl_5_yes a2 a3 a7 a8 s4 s5 s6 A c w p n (by omega) (by omega) hn
        · rw [show lnG 5 (p : Int) n = 0 by simp [lnG, ol, oh, hn]]; exact lvl_5_no a2 a3 a7 a8 s4 s5 s6 A c w p n (by omega) (by omega) (cast _ hn)
      · rw [show lnG 5 o n = 0 by simp [lnG, oh]]; exact lvl_5_hi a2 a3 a7 a8 s4 s5 s6 A c w o n oh
    · rw [show lnG 5 o n = 0 by simp [lnG, ol]]; exact lvl_5_lo a2 a3 a7 a8 s4 s5 s6 A c w o n ol
  by_cases h4 : k = 4
  · subst h4
    by_cases hn : n = 2
    · subst hn
      rw [show lnG 4 o 2 = bnG o by simp [lnG, bnG]]
      exact lvl_4_2 a2 a3 a7 a8 s4 s5 s6 A c w o
    · rw [show lnG 4 o n = 0 by simp [lnG, hn]]
      exact lvl_4_n a2 a3 a7 a8 s4 s5 s6 A c w o n (cast 2 hn)
  rw [show lnG k o n = 0 by simp [lnG, h1, h2, h3, h4, h5, h6, h7]]
  exact lvl_k a2 a3 a7 a8 s4 s5 s6 A c w k o n h1 h2 h3 h4 h5 h6 h7
end Go.Proofs.YtbeeaikilcnpgaaGreatDoor.Exp

namespace Go.Proofs.YtbeeaikilcnpgaaGreatDoor.Lex
open Go.RowKit Go.Proofs.YtbeeaikilcnpgaaGreatDoor.Base Go.Proofs.YtbeeaikilcnpgaaGreatDoor.App Go.Proofs.YtbeeaikilcnpgaaGreatDoor.Byt
set_option maxRecDepth 100000 in
theorem rlit_blob (s : ByteArray) (w : World) (hs : s.size ≤ 1048576) :
    Calls Tryz.prog 27 #[.agg #[.int .i64 4, .int .i64 0, .string s]] w fun e w' => e = .returned (.string ⟨(litBlob s.data.toList).toArray⟩) ∧ Below w.heap.size w w' := by
  go_enter Tryz.func27, Tryz.ntmps27
  go_wp2_with fail
  refine (rcheck_calls 4 (.inr rfl) s _).mono ?_
  rintro e w1 ⟨rfl, hb1⟩
  have HB0 := Asd.mk (below_alloc (Below.refl _ w) (.cells #[.int .i64 4, .int .i64 0, .string s] 23))
  have HX := Asd.mk (blk_below hb1 (blk_new w (.cells #[.int .i64 4, .int .i64 0, .string s] 23)))
  have HB1 : Asd (Below w.heap.size w w1) := Asd.mk (below_step HB0.out hb1)
  have x0 := (blk_cell HX.out 0).trans rfl
  have y0 := (blk_cell (blk_alloc HX.out (.cells #[.int .u8 39] 5)) 0).trans rfl
  have HO0 : Asd (((w1.alloc (.cells #[.int .u8 39] 5)).alloc (.cells #[.int .u8 88, .int .u8 39] 5)).ownsRow w1.heap.size 5 1 (.slice (some ⟨w1.heap.size + 1, 0, none⟩) 2 2) 2 (bcells [88, 39])) := Asd.mk (own_made (xs := [88, 39]) (by
    have h := blk_new (w1.alloc (.cells #[.int .u8 39] 5)) (.cells #[.int .u8 88, .int .u8 39] 5)
    rw [show (w1.alloc (.cells #[.int .u8 39] 5)).heap.size = w1.heap.size + 1 by simp] at h
    exact h) (Nat.le_succ _) (by simp))
  have HBW : Asd (w.heap.size < w1.heap.size) := Asd.mk (blk_lt HX.out)
  clear hb1
  go_wp2
  go_loopw [3, 4] (fun v3 v4 wr => ∃ (k m c : Nat) (A : Option Addr), k ≤ s.size ∧ v4 = .int .i64 (k : Int) ∧ v3 = .slice A m c ∧ Asd (wr.ownsRow w1.heap.size 5 1 (.slice A m c) m (bcells (88 :: 39 :: hexs (s.data.toList.take k)))) ∧ Asd (Below w1.heap.size w1 wr)) (fun _ v4 _ => s.size - (intOf v4).toNat)
  case atStart => exact ⟨0, 2, 2, _, by omega, rfl, rfl, ⟨HO0.out⟩, ⟨below_alloc (below_alloc (Below.refl _ _) _) _⟩⟩
  case round =>
    obtain ⟨k, m, c, A, hk, rfl, rfl, HO, HBR⟩ := hrel
    have HXR := Asd.mk (blk_below HBR.out HX.out)
    have x0 := (blk_cell HXR.out 0).trans rfl
    have x2 := (blk_cell HXR.out 2).trans rfl
    have hm : m ≤ 2097154 := by
      have h1 := HO.out.1
      have h2 := hexs_len (s.data.toList.take k)
      have h3 : (s.data.toList.take k).length ≤ k := by rw [List.length_take]; omega
      simp only [bcells, List.length_map, List.length_cons, Nat.mul_one] at h1
      omega
    have hsz : w1.heap.size ≤ wr.heap.size := HBR.out.size
    by_cases hlt : k < s.size
    · have hc := s[k].toNat_lt
      have HTS := Asd.mk (take_snoc s k hlt)
      generalize hsk : s[k] = b at hc HTS
      have e1 : IntKind.u8.wrap ((b.toNat : Int).tdiv 16) = ((b.toNat / 16 : Nat) : Int) := by
        simp [IntKind.wrap, IntKind.signed, IntKind.bits]
        omega
      have e2 : (b.toNat : Int).tmod 16 = ((b.toNat % 16 : Nat) : Int) := by rw [Int.tmod_eq_emod_of_nonneg (by omega)]; omega
      have e1b : (b.toNat : Int) / 16 = ((b.toNat / 16 : Nat) : Int) := by omega
      have e1c : (b.toNat : Int).tdiv 16 = ((b.toNat / 16 : Nat) : Int) := by rw [Int.tdiv_eq_ediv_of_nonneg (by omega)]; omega
      have e1d : IntKind.u8.wrap ((b.toNat / 16 : Nat) : Int) = ((b.toNat / 16 : Nat) : Int) := by
        simp [IntKind.wrap, IntKind.signed, IntKind.bits]
        omega
      have e2b : (b.toNat : Int) % 16 = ((b.toNat % 16 : Nat) : Int) := by omega
      have HN1 : Asd (b.toNat / 16 < 16) := Asd.mk (by omega)
      have HN2 : Asd (b.toNat % 16 < 16) := Asd.mk (by omega)
      have HTS2 : Asd (hexs (s.data.toList.take (k + 1)) = hexs (s.data.toList.take k) ++ [hexB (b.toNat / 16), hexB (b.toNat % 16)]) := Asd.mk (by rw [HTS.out, hexs_snoc])
      generalize b.toNat / 16 = n1 at e1 e1b e1c e1d HN1 HTS2
      generalize b.toNat % 16 = n2 at e2 e2b HN2 HTS2
      have hn1 := HN1.out
      have hn2 := HN2.out
      have hn1a : (0 : Int) ≤ (n1 : Int) := by omega
      have hn1b : (n1 : Int) < 16 := by omega
      have hn2a : (0 : Int) ≤ (n2 : Int) := by omega
      have hn2b : (n2 : Int) < 16 := by omega
      have g1 := hex_at n1 hn1
      have g2 := hex_at n2 hn2
      have HOA : Asd (∀ o, (wr.drew.alloc o).ownsRow w1.heap.size 5 1 (.slice A m c) m (bcells (88 :: 39 :: hexs (s.data.toList.take k)))) := Asd.mk fun o => World.ownsRow.alloc (w := wr.drew) HO.out o
      have HBD := Asd.mk (HBR.out.drew)
      go_upto_region 21 with fail
      go_region_held3 (fun _ => True)
        (trivial)
        (first
          | (refine step_src (by rfl) _ _ _ (by rfl) rowB (.slice A m c) (by rfl) (n := m) (HOA.out _) (some ⟨wr.heap.size, 0, none⟩) 2 2 (by rfl) (Feeds.of_block (size := 1) (blk_new wr.drew _) rfl (by simp [Value.oneCell'])) (by unfold maxLen; omega) (by omega) (by simp; omega) ?_
             intro A9 c9 w9 ho9 hg9
             have HB9 : Asd (Below w1.heap.size w1 w9) := Asd.mk (below_own (below_alloc HBD.out _) (HOA.out _) hg9 (Nat.le_refl _))
             have HO9 : Asd (w9.ownsRow w1.heap.size 5 1 (.slice A9 (m + 2) c9) (m + 2) (bcells (88 :: 39 :: hexs (s.data.toList.take (k + 1))))) := Asd.mk (by
               rw [HTS2.out]
               simpa [bcells, bcell] using ho9)
             clear ho9 hg9)
          | fail)
      all_goals
        go_wp2
        go_roundw
        case rel => exact ⟨k + 1, _, _, _, by omega, by go_num, rfl, HO9, HB9⟩
        case measure => simp [intOf]; omega
    · obtain rfl : k = s.size := by omega
      have HOA := Asd.mk (HO.out.alloc (.cells #[.int .u8 39] 5))
      have HF := Asd.mk (Feeds.of_block (size := 1) (m := 1) (c := 1) (blk_new wr (.cells #[.int .u8 39] 5)) rfl (by simp [Value.oneCell']))
      have HTK := Asd.mk (List.take_of_length_le (Nat.le_of_eq (show s.data.toList.length = s.size from rfl)))
      clear hlt
      go_wp2_with (at_builtin; refine wpList_src rfl (.tmp 62) (.tmp 63) _ rfl rowB _ rfl HOA.out (some ⟨wr.heap.size, 0, none⟩) 1 1 rfl HF.out (by unfold maxLen; omega) (by omega) (by simp; omega) ?_)
      intro A9 c9 w9 ho9 hg9
      have HB9 : Asd (Below w1.heap.size w1 w9) := Asd.mk (below_own (below_alloc HBR.out _) HOA.out hg9 (Nat.le_refl _))
      have HO9 : w9.ownsRow w1.heap.size 5 1 (.slice A9 (m + 1) c9) (m + 1) (bcells (litBlob s.data.toList)) := by
        rw [HTK.out] at ho9
        simpa [bcells, bcell, litBlob] using ho9
      obtain ⟨A8, c8, e8, hib, _⟩ := of_own HO9 (by omega)
      injection e8 with e1 e2 e3
      subst e1 e3
      have hcv := run_string 81 9 5 Tryz.underlying81 Tryz.underlying5 Tryz.underlying9 c9 hib
      have HBE : Asd (Below w.heap.size w w9) := Asd.mk (HB1.out.trans (HB9.out.mono HB1.out.size))
      clear ho9 hg9 HO9 hib
      generalize hrr : (⟨(litBlob s.data.toList).toArray⟩ : ByteArray) = rr at hcv
      have HRR := Asd.mk hrr
      clear hrr
      go_wp2
      go_ret
      exact ⟨ret_eq (by rw [HRR.out]; rfl), HBE.out⟩
end Go.Proofs.YtbeeaikilcnpgaaGreatDoor.Lex

namespace Go.Proofs.YtbeeaikilcnpgaaGreatDoor.Exp
open Go.RowKit Go.Proofs.YtbeeaikilcnpgaaGreatDoor.Base Go.Proofs.YtbeeaikilcnpgaaGreatDoor.App Go.Proofs.YtbeeaikilcnpgaaGreatDoor.Byt Go.Proofs.YtbeeaikilcnpgaaGreatDoor.Lex
def TxtR (n : Nat) (w : World) (e : Ending) (w' : World) : Prop := Below w.heap.size w w' ∧ ∃ s : ByteArray, e = .returned (.string s) ∧ s.size ≤ n
theorem itoa_len (n : Int) (h : inI n) : (Lib.itoa n).length ≤ 21 := by
  have h1 := digits_small (u := n.natAbs) (by unfold inI at h; omega)
  unfold Lib.itoa
  split
  · simp only [List.length_cons]; omega
  · have : n.toNat = n.natAbs := by omega
    rw [this] at *
    omega
theorem sz_list (l : List UInt8) : (⟨l.toArray⟩ : ByteArray).size = l.length := by simp [ByteArray.size]
set_option maxRecDepth 100000 in
theorem rlit_any {v : Vl} (h : RV v) (hl : v.text.length ≤ 1048576) (w : World) : Calls Tryz.prog 27 #[vC v] w (TxtR (2 * v.text.length + 22) w) := by
  have HV := Asd.mk h
  cases h with
  | null =>
    have HB0 := Asd.mk (below_alloc (Below.refl _ w) (.cells #[.int .i64 0, .int .i64 0, .string ⟨#[]⟩] 23 (0, 0)))
    have HX := Asd.mk (blk_new w (.cells #[.int .i64 0, .int .i64 0, .string ⟨#[]⟩] 23 (0, 0)))
    have HC := Asd.mk (fun W => rchk_calls (vNull) W)
    rw [chk_of HV.out] at HC
    show Calls Tryz.prog 27 #[.agg #[.int .i64 0, .int .i64 0, .string ⟨#[]⟩]] w _
    go_enter Tryz.func27, Tryz.ntmps27
    go_wp2_with fail
    refine (HC.out _).mono ?_
    rintro e w1 ⟨rfl, hb1⟩
    have HB1 : Asd (Below w.heap.size w w1) := Asd.mk (below_step HB0.out hb1)
    have x0 := (blk_cell (blk_below hb1 HX.out) 0).trans rfl
    have x1 := (blk_cell (blk_below hb1 HX.out) 1).trans rfl
    have x2 := (blk_cell (blk_below hb1 HX.out) 2).trans rfl
    clear hb1 HC HV
    go_wp2
    go_ret
    exact ⟨HB1.out, _, ret_eq rfl, by decide⟩
  | bool b =>
    cases b with
    | true =>
      have HB0 := Asd.mk (below_alloc (Below.refl _ w) (.cells #[.int .i64 1, .int .i64 1, .string ⟨#[]⟩] 23 (0, 0)))
      have HX := Asd.mk (blk_new w (.cells #[.int .i64 1, .int .i64 1, .string ⟨#[]⟩] 23 (0, 0)))
      have HC := Asd.mk (fun W => rchk_calls (vTru true) W)
      rw [chk_of HV.out] at HC
      show Calls Tryz.prog 27 #[.agg #[.int .i64 1, .int .i64 1, .string ⟨#[]⟩]] w _
      go_enter Tryz.func27, Tryz.ntmps27
      go_wp2_with fail
      refine (HC.out _).mono ?_
      rintro e w1 ⟨rfl, hb1⟩
      have HB1 : Asd (Below w.heap.size w w1) := Asd.mk (below_step HB0.out hb1)
      have x0 := (blk_cell (blk_below hb1 HX.out) 0).trans rfl
      have x1 := (blk_cell (blk_below hb1 HX.out) 1).trans rfl
      have x2 := (blk_cell (blk_below hb1 HX.out) 2).trans rfl
      clear hb1 HC HV
      go_wp2
      go_ret
      exact ⟨HB1.out, _, ret_eq rfl, by decide⟩
    | false =>
      have HB0 := Asd.mk (below_alloc (Below.refl _ w) (.cells #[.int .i64 1, .int .i64 0, .string ⟨#[]⟩] 23 (0, 0)))
      have HX := Asd.mk (blk_new w (.cells #[.int .i64 1, .int .i64 0, .string ⟨#[]⟩] 23 (0, 0)))
      have HC := Asd.mk (fun W => rchk_calls (vTru false) W)
      rw [chk_of HV.out] at HC
      show Calls Tryz.prog 27 #[.agg #[.int .i64 1, .int .i64 0, .string ⟨#[]⟩]] w _
      go_enter Tryz.func27, Tryz.ntmps27
      go_wp2_with fail
      refine (HC.out _).mono ?_
      rintro e w1 ⟨rfl, hb1⟩
      have HB1 : Asd (Below w.heap.size w w1) := Asd.mk (below_step HB0.out hb1)
      have x0 := (blk_cell (blk_below hb1 HX.out) 0).trans rfl
      have x1 := (blk_cell (blk_below hb1 HX.out) 1).trans rfl
      have x2 := (blk_cell (blk_below hb1 HX.out) 2).trans rfl
      clear hb1 HC HV
      go_wp2
      go_ret
      exact ⟨HB1.out, _, ret_eq rfl, by decide⟩
  | num n h =>
    have HB0 := Asd.mk (below_alloc (Below.refl _ w) (.cells #[.int .i64 2, .int .i64 n, .string ⟨#[]⟩] 23 (0, 0)))
    have HX := Asd.mk (blk_new w (.cells #[.int .i64 2, .int .i64 n, .string ⟨#[]⟩] 23 (0, 0)))
    have HC := Asd.mk (fun W => rchk_calls (vNum n) W)
    rw [chk_of HV.out] at HC
    show Calls Tryz.prog 27 #[.agg #[.int .i64 2, .int .i64 n, .string ⟨#[]⟩]] w _
    go_enter Tryz.func27, Tryz.ntmps27
    go_wp2_with fail
    refine (HC.out _).mono ?_
    rintro e w1 ⟨rfl, hb1⟩
    have HB1 : Asd (Below w.heap.size w w1) := Asd.mk (below_step HB0.out hb1)
    have x0 := (blk_cell (blk_below hb1 HX.out) 0).trans rfl
    have x1 := (blk_cell (blk_below hb1 HX.out) 1).trans rfl
    have x2 := (blk_cell (blk_below hb1 HX.out) 2).trans rfl
    clear hb1 HC HV
    have HN := Asd.mk (fun W => Lex.number_calls n h.1 h.2 W)
    have HL := Asd.mk (itoa_len n h)
    generalize Lib.itoa n = t at HN HL
    go_wp2_with fail
    refine (HN.out _).mono ?_
    rintro e w2 ⟨rfl, hb2⟩
    have HB2 : Asd (Below w.heap.size w w2) := Asd.mk (below_step HB1.out hb2)
    clear hb2 x0 x1 x2 HN
    go_wp2
    go_ret
    exact ⟨HB2.out, _, ret_eq rfl, by rw [sz_list]; have := HL.out; omega⟩
  | text s hs =>
    refine (rlit_text ⟨s.toArray⟩ w (by rw [sz_list]; exact hl)).mono ?_
    rintro e w1 ⟨rfl, hb1⟩
    refine ⟨hb1, _, rfl, ?_⟩
    rw [sz_list]
    have h1 := quotes_len s
    show (litText s).length ≤ 2 * s.length + 22
    simp only [litText, List.length_cons, List.length_append, List.length_nil]
    omega
  | blob s hs =>
    refine (rlit_blob ⟨s.toArray⟩ w (by rw [sz_list]; exact hl)).mono ?_
    rintro e w1 ⟨rfl, hb1⟩
    refine ⟨hb1, _, rfl, ?_⟩
    rw [sz_list]
    have h1 := hexs_len s
    show (litBlob s).length ≤ 2 * s.length + 22
    simp only [litBlob, List.length_cons, List.length_append, List.length_nil]
    omega
theorem sg_cell (p : Nat) (h1 : 1 ≤ p) (h2 : p ≤ 16) : ∃ st : ByteArray, (#[.string ⟨#[]⟩, .string ⟨#[45]⟩, .string ⟨#[78, 79, 84]⟩, .string ⟨#[79, 82]⟩, .string ⟨#[65, 78, 68]⟩, .string ⟨#[61]⟩, .string ⟨#[60, 62]⟩, .string ⟨#[60]⟩, .string ⟨#[60, 61]⟩, .string ⟨#[62]⟩, .string ⟨#[62, 61]⟩, .string ⟨#[43]⟩, .string ⟨#[45]⟩, .string ⟨#[42]⟩, .string ⟨#[47]⟩, .string ⟨#[37]⟩, .string ⟨#[124, 124]⟩] : Array Value)[p]? = some (.string st) ∧ st.size ≤ 3 := by
  rcases (show p = 1 ∨ p = 2 ∨ p = 3 ∨ p = 4 ∨ p = 5 ∨ p = 6 ∨ p = 7 ∨ p = 8 ∨ p = 9 ∨ p = 10 ∨ p = 11 ∨ p = 12 ∨ p = 13 ∨ p = 14 ∨ p = 15 ∨ p = 16 by omega) with rfl | rfl | rfl | rfl | rfl | rfl | rfl | rfl | rfl | rfl | rfl | rfl | rfl | rfl | rfl | rfl <;> exact ⟨_, rfl, by decide⟩
set_option maxRecDepth 100000 in
theorem rsign_calls (k : Nat) (h : 1 ≤ k) (h' : k ≤ 16) (w : World) : Calls Tryz.prog 28 #[.int .i64 (k : Nat)] w (TxtR 3 w) := by
  obtain ⟨st, hst, hss⟩ := sg_cell k h h'
  have HB := Asd.mk (below_alloc (Below.refl _ w) (.cells #[.string ⟨#[]⟩, .string ⟨#[45]⟩, .string ⟨#[78, 79, 84]⟩, .string ⟨#[79, 82]⟩, .string ⟨#[65, 78, 68]⟩, .string ⟨#[61]⟩, .string ⟨#[60, 62]⟩, .string ⟨#[60]⟩, .string ⟨#[60, 61]⟩, .string ⟨#[62]⟩, .string ⟨#[62, 61]⟩, .string ⟨#[43]⟩, .string ⟨#[45]⟩, .string ⟨#[42]⟩, .string ⟨#[47]⟩, .string ⟨#[37]⟩, .string ⟨#[124, 124]⟩] 9 (0, 0)))
  have HX := Asd.mk (blk_new w (.cells #[.string ⟨#[]⟩, .string ⟨#[45]⟩, .string ⟨#[78, 79, 84]⟩, .string ⟨#[79, 82]⟩, .string ⟨#[65, 78, 68]⟩, .string ⟨#[61]⟩, .string ⟨#[60, 62]⟩, .string ⟨#[60]⟩, .string ⟨#[60, 61]⟩, .string ⟨#[62]⟩, .string ⟨#[62, 61]⟩, .string ⟨#[43]⟩, .string ⟨#[45]⟩, .string ⟨#[42]⟩, .string ⟨#[47]⟩, .string ⟨#[37]⟩, .string ⟨#[124, 124]⟩] 9 (0, 0)))
  have x0 := (blk_cell HX.out k).trans hst
  have h0 : (0 : Int) ≤ (k : Int) := by omega
  have h17 : (k : Int) < 17 := by omega
  have HS := Asd.mk hss
  clear h h' hss
  go_enter Tryz.func28, Tryz.ntmps28
  go_wp2
  go_ret
  exact ⟨HB.out, _, ret_eq rfl, HS.out⟩

theorem bulkXL_take : ∀ (l : List Ex) (k : Nat), bulkXL (l.take k) ≤ bulkXL l
  | [], k => by simp
  | x :: l, 0 => by simp [bulkXL]
  | x :: l, k + 1 => by
    rw [List.take_succ_cons, bulkXL, bulkXL]
    have := bulkXL_take l k
    omega
theorem bulkXL_take_succ : ∀ (l : List Ex) (k : Nat) (h : k < l.length), bulkXL (l.take (k + 1)) = bulkXL (l.take k) + bulkX l[k]
  | x :: l, 0, _ => by simp [bulkXL]
  | x :: l, k + 1, h => by
    have hk : k < l.length := by simpa using h
    rw [List.take_succ_cons, List.take_succ_cons, bulkXL, bulkXL, bulkXL_take_succ l k hk, List.getElem_cons_succ]
    omega
def PrnOK (x : Ex) : Prop := ∀ (Q : Nat → Prop) (A : Option Addr) (c : Nat) (w : World), Held Q w x.args (.slice A x.args.length c) → Calls Tryz.prog 13 #[exV x (.slice A x.args.length c)] w (TxtR (30 * bulkX x - 4) w)
theorem level_calls (x : Ex) (A : Option Addr) (c : Nat) (w : World) : Calls Tryz.prog 26 #[exV x (.slice A x.args.length c)] w (LineR (lnG x.kind x.op x.args.length) w) := lvl_any _ _ _ _ _ _ _ A c w _ _ _
set_option maxRecDepth 100000 in
theorem roperand_calls (x : Ex) (hN : bulkX x ≤ 1048576) (hx : PrnOK x) (least : Int) (Q : Nat → Prop) (A : Option Addr) (c : Nat) (w : World) (hh : Held Q w x.args (.slice A x.args.length c)) :
    Calls Tryz.prog 29 #[exV x (.slice A x.args.length c), .int .i64 least] w (TxtR (30 * bulkX x - 2) w) := by
  have HH := Asd.mk hh
  have HP := Asd.mk hx
  have HLV := Asd.mk (level_calls x A c)
  have hb1 := bulkX_pos x
  unfold PrnOK at HP
  clear hh hx
  generalize hm : x.args.length = m at HH HP HLV ⊢
  clear hm
  generalize hz : bulkX x = z at hN HP hb1 ⊢
  clear hz
  have HX := Asd.mk (blk_new w (xK x (.slice A m c)))
  have HB : Asd (Below w.heap.size w (w.alloc (xK x (.slice A m c)))) := Asd.mk (below_alloc (Below.refl _ _) _)
  generalize lnG x.kind x.op m = L at HLV
  unfold exV
  go_enter Tryz.func29, Tryz.ntmps29
  go_upto_region 1 with fail
  generalize w.alloc _ = w1 at HX HB ⊢
  obtain ⟨f0, f1, f2, f3, f4, f5, f6, f7, f8, f9⟩ := ex_cells (x := x) HX.out
  go_wp2_with fail
  refine (HLV.out _).mono ?_
  rintro e w2 ⟨rfl, hb2⟩
  have HB2 := Asd.mk (below_step HB.out hb2)
  have HX2 := Asd.mk (blk_below hb2 HX.out)
  clear f0 f1 f2 f3 f4 f5 f6 f7 f8 f9 hb2
  obtain ⟨f0, f1, f2, f3, f4, f5, f6, f7, f8, f9⟩ := ex_cells (x := x) HX2.out
  have HC := Asd.mk (HP.out Q A c w2 (held_below HH.out HB2.out))
  by_cases hg : (L ≠ 0 ∧ L < least)
  · obtain ⟨hg1, hg2⟩ := hg
    have hg3 : (L != 0) = true := by rw [bne_iff_ne]; exact hg1
    go_wp2_with fail
    refine HC.out.mono ?_
    rintro e w3 ⟨hb3, s, rfl, hs⟩
    have HB3 := Asd.mk (below_step HB2.out hb3)
    have hs2 : s.size ≤ 31457280 := by omega
    have HS : Asd (s.size ≤ 30 * z - 4) := Asd.mk hs
    clear f0 f1 f2 f3 f4 f5 f6 f7 f8 f9 hb3 hs
    go_wp2
    go_ret
    refine ⟨HB3.out, _, ret_eq rfl, ?_⟩
    rw [ByteArray.size_append, ByteArray.size_append]
    have := HS.out
    show 1 + s.size + 1 ≤ _
    omega
  · have hor : L = 0 ∨ ¬ L < least := by omega
    have hno : (L != 0 && decide (L < least)) = false := by
      rcases hor with rfl | h
      · rfl
      · simp [h]
    rcases hor with rfl | hg2
    · go_wp2_with fail
      refine HC.out.mono ?_
      rintro e w3 ⟨hb3, s, rfl, hs⟩
      have HB3 := Asd.mk (below_step HB2.out hb3)
      have HS : Asd (s.size ≤ 30 * z - 4) := Asd.mk hs
      clear f0 f1 f2 f3 f4 f5 f6 f7 f8 f9 hb3 hs
      go_wp2
      go_ret
      exact ⟨HB3.out, _, ret_eq rfl, by have := HS.out; omega⟩
    · by_cases hg1 : L = 0
      · subst hg1
        go_wp2_with fail
        refine HC.out.mono ?_
        rintro e w3 ⟨hb3, s, rfl, hs⟩
        have HB3 := Asd.mk (below_step HB2.out hb3)
        have HS : Asd (s.size ≤ 30 * z - 4) := Asd.mk hs
        clear f0 f1 f2 f3 f4 f5 f6 f7 f8 f9 hb3 hs
        go_wp2
        go_ret
        exact ⟨HB3.out, _, ret_eq rfl, by have := HS.out; omega⟩
      · have hg3 : (L != 0) = true := by rw [bne_iff_ne]; exact hg1
        go_wp2_with fail
        refine HC.out.mono ?_
        rintro e w3 ⟨hb3, s, rfl, hs⟩
        have HB3 := Asd.mk (below_step HB2.out hb3)
        have HS : Asd (s.size ≤ 30 * z - 4) := Asd.mk hs
        clear f0 f1 f2 f3 f4 f5 f6 f7 f8 f9 hb3 hs
        go_wp2
        go_ret
        exact ⟨HB3.out, _, ret_eq rfl, by have := HS.out; omega⟩
set_option maxRecDepth 100000 in
theorem rlist_calls (xs : List Ex) (hN : bulkXL xs ≤ 1048576) (hsub : ∀ i (h : i < xs.length), PrnOK xs[i]) (Q : Nat → Prop) (A : Option Addr) (c : Nat) (w : World) (hheld : Held Q w xs (.slice A xs.length c)) :
    Calls Tryz.prog 30 #[.slice A xs.length c] w (TxtR (30 * bulkXL xs) w) := by
  have HH := Asd.mk hheld
  have HSUB := Asd.mk hsub
  have hn := bulkXL_len xs
  clear hheld hsub
  generalize hm : xs.length = m at hn HH ⊢
  have HM := Asd.mk hm
  clear hm
  have HBL : Asd (∀ k, k ≤ m → bulkXL (xs.take k) ≤ bulkXL xs) := Asd.mk fun k _ => bulkXL_take xs k
  have HNN := Asd.mk hN
  go_enter Tryz.func30, Tryz.ntmps30
  go_wp2
  go_loopw [3, 4] (fun v i wr => ∃ (k : Nat) (s : ByteArray), k ≤ m ∧ i = .int .i64 (k : Int) ∧ v = .string s ∧ Asd (Below w.heap.size w wr) ∧ Asd (s.size ≤ 30 * bulkXL (xs.take k))) (fun _ i _ => m - (intOf i).toNat)
  case atStart => exact ⟨0, _, by omega, rfl, rfl, ⟨Below.refl _ _⟩, ⟨by show (0 : Nat) ≤ _; omega⟩⟩
  case round =>
    obtain ⟨k, s, hk, rfl, rfl, HBR, HQ⟩ := hrel
    have hsz : s.size ≤ 31457280 := by have h1 := HQ.out; have h2 := HBL.out k hk; omega
    by_cases hlt : k < m
    · have hkx : k < xs.length := by rw [HM.out]; exact hlt
      obtain ⟨g, o, A1, n1, c1, he1, hr1, hh1⟩ := held_at (held_below HH.out HBR.out) k hkx
      subst he1
      obtain ⟨A1', c1', he2⟩ := held_len hh1
      have hn1 : n1 = xs[k].args.length := by
        injection he2
      subst hn1
      clear he2
      have HTK : Asd (bulkXL (xs.take (k + 1)) = bulkXL (xs.take k) + bulkX xs[k]) := Asd.mk (bulkXL_take_succ xs k hkx)
      have HTL := Asd.mk (HBL.out (k + 1) (by omega))
      have HPO := Asd.mk (bulkX_pos xs[k])
      have HSK := Asd.mk (HSUB.out k hkx)
      unfold PrnOK at HSK
      generalize xs[k] = a at hr1 hh1 HSK HTK HPO
      have HHA := Asd.mk hh1
      clear hkx
      have hgl := World.block_lt_of_cell? wr _ (hr1 0 (by omega))
      have hk0 : (0 : Int) ≤ (k : Int) := by omega
      have x0 : wr.cell? ⟨g, o + k * 10, none⟩ = some (.int .i64 a.kind) := hr1 0 (by omega)
      have x1 : wr.cell? ⟨g, o + k * 10 + 1, none⟩ = some (.int .i64 a.op) := hr1 1 (by omega)
      have x2 : wr.cell? ⟨g, o + k * 10 + 2, none⟩ = some (.int .i64 a.v.kind) := hr1 2 (by omega)
      have x3 : wr.cell? ⟨g, o + k * 10 + 3, none⟩ = some (.int .i64 a.v.int) := hr1 3 (by omega)
      have x4 : wr.cell? ⟨g, o + k * 10 + 4, none⟩ = some (.string ⟨a.v.text.toArray⟩) := hr1 4 (by omega)
      have x5 : wr.cell? ⟨g, o + k * 10 + 5, none⟩ = some (.string ⟨a.table.toArray⟩) := hr1 5 (by omega)
      have x6 : wr.cell? ⟨g, o + k * 10 + 6, none⟩ = some (.string ⟨a.name.toArray⟩) := hr1 6 (by omega)
      have x7 : wr.cell? ⟨g, o + k * 10 + 7, none⟩ = some (.int .i64 a.col) := hr1 7 (by omega)
      have x8 : wr.cell? ⟨g, o + k * 10 + 8, none⟩ = some (.int .i64 a.ty) := hr1 8 (by omega)
      have x9 : wr.cell? ⟨g, o + k * 10 + 9, none⟩ = some (.slice A1 a.args.length c1) := hr1 9 (by omega)
      clear hr1 hh1
      by_cases h0 : 0 < k
      · go_wp2_with fail
        refine (HSK.out Q A1 c1 wr HHA.out).mono ?_
        rintro e w5 ⟨hb5, s2, rfl, hs2⟩
        have HB5 : Asd (Below w.heap.size w w5) := Asd.mk (HBR.out.trans (hb5.mono HBR.out.size))
        have hs3 : s2.size ≤ 31457280 := by have h1 := HTK.out; have h2 := HTL.out; have h3 := HNN.out; omega
        have HS2 := Asd.mk hs2
        clear x0 x1 x2 x3 x4 x5 x6 x7 x8 x9 hb5 hs2
        go_wp2
        go_roundw
        case rel => exact ⟨k + 1, _, by omega, by go_num, rfl, HB5, ⟨by
          rw [ByteArray.size_append, ByteArray.size_append]
          have h1 := HTK.out
          have h2 := HQ.out
          have h3 := HS2.out
          have h4 := HPO.out
          show s.size + 2 + s2.size ≤ _
          omega⟩⟩
        case measure => simp [intOf]; omega
      · go_wp2_with fail
        refine (HSK.out Q A1 c1 wr HHA.out).mono ?_
        rintro e w5 ⟨hb5, s2, rfl, hs2⟩
        have HB5 : Asd (Below w.heap.size w w5) := Asd.mk (HBR.out.trans (hb5.mono HBR.out.size))
        have hs3 : s2.size ≤ 31457280 := by have h1 := HTK.out; have h2 := HTL.out; have h3 := HNN.out; omega
        have HS2 := Asd.mk hs2
        clear x0 x1 x2 x3 x4 x5 x6 x7 x8 x9 hb5 hs2
        go_wp2
        go_roundw
        case rel => exact ⟨k + 1, _, by omega, by go_num, rfl, HB5, ⟨by
          rw [ByteArray.size_append]
          have h1 := HTK.out
          have h2 := HQ.out
          have h3 := HS2.out
          have h4 := HPO.out
          omega⟩⟩
        case measure => simp [intOf]; omega
    · have HQ2 : Asd (s.size ≤ 30 * bulkXL xs) := Asd.mk (by have h1 := HQ.out; have h2 := HBL.out k hk; omega)
      clear hsz
      go_wp2
      go_ret
      exact ⟨HBR.out, _, ret_eq rfl, HQ2.out⟩

set_option maxRecDepth 100000 in
theorem prn_none (k op : Int) (n : Nat) (v : Vl) (tb nm : List UInt8) (col tp : Int) (A : Option Addr) (c : Nat) (w : World) (h0 : lnG k op n = 0):
    Calls Tryz.prog 13 #[.agg #[.int .i64 k, .int .i64 op, .int .i64 v.kind, .int .i64 v.int, .string ⟨v.text.toArray⟩, .string ⟨tb.toArray⟩, .string ⟨nm.toArray⟩, .int .i64 col, .int .i64 tp, .slice A n c]] w (TxtR (0) w) := by
  have HLVL : ∀ W, Calls Tryz.prog 26 #[.agg #[.int .i64 k, .int .i64 op, .int .i64 v.kind, .int .i64 v.int, .string ⟨v.text.toArray⟩, .string ⟨tb.toArray⟩, .string ⟨nm.toArray⟩, .int .i64 col, .int .i64 tp, .slice A n c]] W (LineR (0) W) := fun W => by
    have h := lvl_any v.kind v.int col tp ⟨v.text.toArray⟩ ⟨tb.toArray⟩ ⟨nm.toArray⟩ A c W k op n
    rw [show lnG (k) (op) n = 0 from h0] at h
    exact h
  clear h0
  have HX := Asd.mk (blk_new w (.cells #[.int .i64 k, .int .i64 op, .int .i64 v.kind, .int .i64 v.int, .string ⟨v.text.toArray⟩, .string ⟨tb.toArray⟩, .string ⟨nm.toArray⟩, .int .i64 col, .int .i64 tp, .slice A n c] 26 (0, 0)))
  have HB : Asd (Below w.heap.size w (w.alloc (.cells #[.int .i64 k, .int .i64 op, .int .i64 v.kind, .int .i64 v.int, .string ⟨v.text.toArray⟩, .string ⟨tb.toArray⟩, .string ⟨nm.toArray⟩, .int .i64 col, .int .i64 tp, .slice A n c] 26 (0, 0)))) := Asd.mk (below_alloc (Below.refl _ _) _)
  have HLV : Asd (∀ W, Calls Tryz.prog 26 #[.agg #[.int .i64 k, .int .i64 op, .int .i64 v.kind, .int .i64 v.int, .string ⟨v.text.toArray⟩, .string ⟨tb.toArray⟩, .string ⟨nm.toArray⟩, .int .i64 col, .int .i64 tp, .slice A n c]] W (LineR (0) W)) := Asd.mk (fun W => HLVL W)
  clear HLVL
  go_enter Tryz.func13, Tryz.ntmps13
  go_upto_region 1 with fail
  generalize w.alloc (.cells #[.int .i64 k, .int .i64 op, .int .i64 v.kind, .int .i64 v.int, .string ⟨v.text.toArray⟩, .string ⟨tb.toArray⟩, .string ⟨nm.toArray⟩, .int .i64 col, .int .i64 tp, .slice A n c] 26 (0, 0)) = w1 at HX HB ⊢
  have f0 := (blk_cell HX.out 0).trans rfl
  have f1 := (blk_cell HX.out 1).trans rfl
  have f2 := (blk_cell HX.out 2).trans rfl
  have f3 := (blk_cell HX.out 3).trans rfl
  have f4 := (blk_cell HX.out 4).trans rfl
  have f5 := (blk_cell HX.out 5).trans rfl
  have f6 := (blk_cell HX.out 6).trans rfl
  have f7 := (blk_cell HX.out 7).trans rfl
  have f8 := (blk_cell HX.out 8).trans rfl
  have f9 := (blk_cell HX.out 9).trans rfl
  go_wp2_with fail
  refine (HLV.out _).mono ?_
  rintro e w2 ⟨rfl, hb2⟩
  have HB2 := Asd.mk (below_step HB.out hb2)
  have HX2 := Asd.mk (blk_below hb2 HX.out)
  clear f0 f1 f2 f3 f4 f5 f6 f7 f8 f9 hb2
  have f0 := (blk_cell HX2.out 0).trans rfl
  have f1 := (blk_cell HX2.out 1).trans rfl
  have f2 := (blk_cell HX2.out 2).trans rfl
  have f3 := (blk_cell HX2.out 3).trans rfl
  have f4 := (blk_cell HX2.out 4).trans rfl
  have f5 := (blk_cell HX2.out 5).trans rfl
  have f6 := (blk_cell HX2.out 6).trans rfl
  have f7 := (blk_cell HX2.out 7).trans rfl
  have f8 := (blk_cell HX2.out 8).trans rfl
  have f9 := (blk_cell HX2.out 9).trans rfl
  go_wp2
  go_ret
  exact ⟨HB2.out, _, ret_eq rfl, by decide⟩
set_option maxRecDepth 100000 in
theorem prn_lit (op : Int) (v : Vl) (tb nm : List UInt8) (col tp : Int) (A : Option Addr) (c : Nat) (w : World) (hv : RV v) (hl : v.text.length ≤ 1048576):
    Calls Tryz.prog 13 #[.agg #[.int .i64 1, .int .i64 op, .int .i64 v.kind, .int .i64 v.int, .string ⟨v.text.toArray⟩, .string ⟨tb.toArray⟩, .string ⟨nm.toArray⟩, .int .i64 col, .int .i64 tp, .slice A 0 c]] w (TxtR (2 * v.text.length + 22) w) := by
  have HLVL : ∀ W, Calls Tryz.prog 26 #[.agg #[.int .i64 1, .int .i64 op, .int .i64 v.kind, .int .i64 v.int, .string ⟨v.text.toArray⟩, .string ⟨tb.toArray⟩, .string ⟨nm.toArray⟩, .int .i64 col, .int .i64 tp, .slice A 0 c]] W (LineR (9) W) := fun W => by
    have h := lvl_any v.kind v.int col tp ⟨v.text.toArray⟩ ⟨tb.toArray⟩ ⟨nm.toArray⟩ A c W 1 op 0
    rw [show lnG (1) (op) 0 = 9 from by simp [lnG]] at h
    exact h
  have HLI := Asd.mk (fun W => rlit_any hv hl W)
  clear hv hl
  unfold vC at HLI
  have HX := Asd.mk (blk_new w (.cells #[.int .i64 1, .int .i64 op, .int .i64 v.kind, .int .i64 v.int, .string ⟨v.text.toArray⟩, .string ⟨tb.toArray⟩, .string ⟨nm.toArray⟩, .int .i64 col, .int .i64 tp, .slice A 0 c] 26 (0, 0)))
  have HB : Asd (Below w.heap.size w (w.alloc (.cells #[.int .i64 1, .int .i64 op, .int .i64 v.kind, .int .i64 v.int, .string ⟨v.text.toArray⟩, .string ⟨tb.toArray⟩, .string ⟨nm.toArray⟩, .int .i64 col, .int .i64 tp, .slice A 0 c] 26 (0, 0)))) := Asd.mk (below_alloc (Below.refl _ _) _)
  have HLV : Asd (∀ W, Calls Tryz.prog 26 #[.agg #[.int .i64 1, .int .i64 op, .int .i64 v.kind, .int .i64 v.int, .string ⟨v.text.toArray⟩, .string ⟨tb.toArray⟩, .string ⟨nm.toArray⟩, .int .i64 col, .int .i64 tp, .slice A 0 c]] W (LineR (9) W)) := Asd.mk (fun W => HLVL W)
  clear HLVL
  go_enter Tryz.func13, Tryz.ntmps13
  go_upto_region 1 with fail
  generalize w.alloc (.cells #[.int .i64 1, .int .i64 op, .int .i64 v.kind, .int .i64 v.int, .string ⟨v.text.toArray⟩, .string ⟨tb.toArray⟩, .string ⟨nm.toArray⟩, .int .i64 col, .int .i64 tp, .slice A 0 c] 26 (0, 0)) = w1 at HX HB ⊢
  have f0 := (blk_cell HX.out 0).trans rfl
  have f1 := (blk_cell HX.out 1).trans rfl
  have f2 := (blk_cell HX.out 2).trans rfl
  have f3 := (blk_cell HX.out 3).trans rfl
  have f4 := (blk_cell HX.out 4).trans rfl
  have f5 := (blk_cell HX.out 5).trans rfl
  have f6 := (blk_cell HX.out 6).trans rfl
  have f7 := (blk_cell HX.out 7).trans rfl
  have f8 := (blk_cell HX.out 8).trans rfl
  have f9 := (blk_cell HX.out 9).trans rfl
  go_wp2_with fail
  refine (HLV.out _).mono ?_
  rintro e w2 ⟨rfl, hb2⟩
  have HB2 := Asd.mk (below_step HB.out hb2)
  have HX2 := Asd.mk (blk_below hb2 HX.out)
  clear f0 f1 f2 f3 f4 f5 f6 f7 f8 f9 hb2
  have f0 := (blk_cell HX2.out 0).trans rfl
  have f1 := (blk_cell HX2.out 1).trans rfl
  have f2 := (blk_cell HX2.out 2).trans rfl
  have f3 := (blk_cell HX2.out 3).trans rfl
  have f4 := (blk_cell HX2.out 4).trans rfl
  have f5 := (blk_cell HX2.out 5).trans rfl
  have f6 := (blk_cell HX2.out 6).trans rfl
  have f7 := (blk_cell HX2.out 7).trans rfl
  have f8 := (blk_cell HX2.out 8).trans rfl
  have f9 := (blk_cell HX2.out 9).trans rfl
  go_wp2_with fail
  refine (HLI.out _).mono ?_
  rintro e w3 ⟨hb3, s, rfl, hs⟩
  have HB3 := Asd.mk (below_step HB2.out hb3)
  have HS := Asd.mk hs
  clear f0 f1 f2 f3 f4 f5 f6 f7 f8 f9 hb3 hs
  go_wp2
  go_ret
  exact ⟨HB3.out, _, ret_eq rfl, HS.out⟩
set_option maxRecDepth 100000 in
theorem prn_col (op : Int) (v : Vl) (tb nm : List UInt8) (col tp : Int) (A : Option Addr) (c : Nat) (w : World) (ht : tb.length ≤ 1048576) (hn : nm.length ≤ 1048576):
    Calls Tryz.prog 13 #[.agg #[.int .i64 2, .int .i64 op, .int .i64 v.kind, .int .i64 v.int, .string ⟨v.text.toArray⟩, .string ⟨tb.toArray⟩, .string ⟨nm.toArray⟩, .int .i64 col, .int .i64 tp, .slice A 0 c]] w (TxtR (tb.length + nm.length + 1) w) := by
  have HLVL : ∀ W, Calls Tryz.prog 26 #[.agg #[.int .i64 2, .int .i64 op, .int .i64 v.kind, .int .i64 v.int, .string ⟨v.text.toArray⟩, .string ⟨tb.toArray⟩, .string ⟨nm.toArray⟩, .int .i64 col, .int .i64 tp, .slice A 0 c]] W (LineR (9) W) := fun W => by
    have h := lvl_any v.kind v.int col tp ⟨v.text.toArray⟩ ⟨tb.toArray⟩ ⟨nm.toArray⟩ A c W 2 op 0
    rw [show lnG (2) (op) 0 = 9 from by simp [lnG]] at h
    exact h
  have HX := Asd.mk (blk_new w (.cells #[.int .i64 2, .int .i64 op, .int .i64 v.kind, .int .i64 v.int, .string ⟨v.text.toArray⟩, .string ⟨tb.toArray⟩, .string ⟨nm.toArray⟩, .int .i64 col, .int .i64 tp, .slice A 0 c] 26 (0, 0)))
  have HB : Asd (Below w.heap.size w (w.alloc (.cells #[.int .i64 2, .int .i64 op, .int .i64 v.kind, .int .i64 v.int, .string ⟨v.text.toArray⟩, .string ⟨tb.toArray⟩, .string ⟨nm.toArray⟩, .int .i64 col, .int .i64 tp, .slice A 0 c] 26 (0, 0)))) := Asd.mk (below_alloc (Below.refl _ _) _)
  have HLV : Asd (∀ W, Calls Tryz.prog 26 #[.agg #[.int .i64 2, .int .i64 op, .int .i64 v.kind, .int .i64 v.int, .string ⟨v.text.toArray⟩, .string ⟨tb.toArray⟩, .string ⟨nm.toArray⟩, .int .i64 col, .int .i64 tp, .slice A 0 c]] W (LineR (9) W)) := Asd.mk (fun W => HLVL W)
  clear HLVL
  go_enter Tryz.func13, Tryz.ntmps13
  go_upto_region 1 with fail
  generalize w.alloc (.cells #[.int .i64 2, .int .i64 op, .int .i64 v.kind, .int .i64 v.int, .string ⟨v.text.toArray⟩, .string ⟨tb.toArray⟩, .string ⟨nm.toArray⟩, .int .i64 col, .int .i64 tp, .slice A 0 c] 26 (0, 0)) = w1 at HX HB ⊢
  have f0 := (blk_cell HX.out 0).trans rfl
  have f1 := (blk_cell HX.out 1).trans rfl
  have f2 := (blk_cell HX.out 2).trans rfl
  have f3 := (blk_cell HX.out 3).trans rfl
  have f4 := (blk_cell HX.out 4).trans rfl
  have f5 := (blk_cell HX.out 5).trans rfl
  have f6 := (blk_cell HX.out 6).trans rfl
  have f7 := (blk_cell HX.out 7).trans rfl
  have f8 := (blk_cell HX.out 8).trans rfl
  have f9 := (blk_cell HX.out 9).trans rfl
  go_wp2_with fail
  refine (HLV.out _).mono ?_
  rintro e w2 ⟨rfl, hb2⟩
  have HB2 := Asd.mk (below_step HB.out hb2)
  have HX2 := Asd.mk (blk_below hb2 HX.out)
  clear f0 f1 f2 f3 f4 f5 f6 f7 f8 f9 hb2
  have f0 := (blk_cell HX2.out 0).trans rfl
  have f1 := (blk_cell HX2.out 1).trans rfl
  have f2 := (blk_cell HX2.out 2).trans rfl
  have f3 := (blk_cell HX2.out 3).trans rfl
  have f4 := (blk_cell HX2.out 4).trans rfl
  have f5 := (blk_cell HX2.out 5).trans rfl
  have f6 := (blk_cell HX2.out 6).trans rfl
  have f7 := (blk_cell HX2.out 7).trans rfl
  have f8 := (blk_cell HX2.out 8).trans rfl
  have f9 := (blk_cell HX2.out 9).trans rfl
  have hts : (⟨tb.toArray⟩ : ByteArray).size ≤ 1048576 := by rw [sz_list]; exact ht
  have hns : (⟨nm.toArray⟩ : ByteArray).size ≤ 1048576 := by rw [sz_list]; exact hn
  have HT : Asd ((⟨tb.toArray⟩ : ByteArray).size = tb.length) := Asd.mk (sz_list tb)
  have HN : Asd ((⟨nm.toArray⟩ : ByteArray).size = nm.length) := Asd.mk (sz_list nm)
  cases htb : tb with
  | nil =>
    subst htb
    go_wp2
    go_ret
    exact ⟨HB2.out, _, ret_eq rfl, by rw [HN.out]; omega⟩
  | cons t0 tr =>
    have hie : (⟨tb.toArray⟩ : ByteArray).toList.isEmpty = false := by rw [Lib.toList_data, htb]; rfl
    have hct : tb.length + 1 ≤ 1048577 := by omega
    rw [← htb]
    clear htb
    generalize hg : (⟨tb.toArray⟩ : ByteArray) = st at *
    generalize hg2 : (⟨nm.toArray⟩ : ByteArray) = sn at *
    go_wp2
    go_ret
    refine ⟨HB2.out, _, ret_eq rfl, ?_⟩
    rw [ByteArray.size_append, ByteArray.size_append, HT.out, HN.out]
    show tb.length + 1 + nm.length ≤ _
    omega
set_option maxRecDepth 100000 in
theorem prn_null0  (v : Vl) (tb nm : List UInt8) (col tp : Int) (A : Option Addr) (c : Nat) (w : World) (a : Ex) (hN : bulkX a ≤ 1048576) (ha : PrnOK a) (Q : Nat → Prop) (hh : Held Q w [a] (.slice A 1 c)):
    Calls Tryz.prog 13 #[.agg #[.int .i64 7, .int .i64 0, .int .i64 v.kind, .int .i64 v.int, .string ⟨v.text.toArray⟩, .string ⟨tb.toArray⟩, .string ⟨nm.toArray⟩, .int .i64 col, .int .i64 tp, .slice A 1 c]] w (TxtR (30 * bulkX a + 10) w) := by
  have HLVL : ∀ W, Calls Tryz.prog 26 #[.agg #[.int .i64 7, .int .i64 0, .int .i64 v.kind, .int .i64 v.int, .string ⟨v.text.toArray⟩, .string ⟨tb.toArray⟩, .string ⟨nm.toArray⟩, .int .i64 col, .int .i64 tp, .slice A 1 c]] W (LineR (4) W) := fun W => by
    have h := lvl_any v.kind v.int col tp ⟨v.text.toArray⟩ ⟨tb.toArray⟩ ⟨nm.toArray⟩ A c W 7 0 1
    rw [show lnG (7) (0) 1 = 4 from by simp [lnG]] at h
    exact h
  have HH := Asd.mk hh
  have HP := Asd.mk (roperand_calls a hN ha 5)
  clear hh ha
  have HX := Asd.mk (blk_new w (.cells #[.int .i64 7, .int .i64 0, .int .i64 v.kind, .int .i64 v.int, .string ⟨v.text.toArray⟩, .string ⟨tb.toArray⟩, .string ⟨nm.toArray⟩, .int .i64 col, .int .i64 tp, .slice A 1 c] 26 (0, 0)))
  have HB : Asd (Below w.heap.size w (w.alloc (.cells #[.int .i64 7, .int .i64 0, .int .i64 v.kind, .int .i64 v.int, .string ⟨v.text.toArray⟩, .string ⟨tb.toArray⟩, .string ⟨nm.toArray⟩, .int .i64 col, .int .i64 tp, .slice A 1 c] 26 (0, 0)))) := Asd.mk (below_alloc (Below.refl _ _) _)
  have HLV : Asd (∀ W, Calls Tryz.prog 26 #[.agg #[.int .i64 7, .int .i64 0, .int .i64 v.kind, .int .i64 v.int, .string ⟨v.text.toArray⟩, .string ⟨tb.toArray⟩, .string ⟨nm.toArray⟩, .int .i64 col, .int .i64 tp, .slice A 1 c]] W (LineR (4) W)) := Asd.mk (fun W => HLVL W)
  clear HLVL
  go_enter Tryz.func13, Tryz.ntmps13
  go_upto_region 1 with fail
  generalize w.alloc (.cells #[.int .i64 7, .int .i64 0, .int .i64 v.kind, .int .i64 v.int, .string ⟨v.text.toArray⟩, .string ⟨tb.toArray⟩, .string ⟨nm.toArray⟩, .int .i64 col, .int .i64 tp, .slice A 1 c] 26 (0, 0)) = w1 at HX HB ⊢
  have f0 := (blk_cell HX.out 0).trans rfl
  have f1 := (blk_cell HX.out 1).trans rfl
  have f2 := (blk_cell HX.out 2).trans rfl
  have f3 := (blk_cell HX.out 3).trans rfl
  have f4 := (blk_cell HX.out 4).trans rfl
  have f5 := (blk_cell HX.out 5).trans rfl
  have f6 := (blk_cell HX.out 6).trans rfl
  have f7 := (blk_cell HX.out 7).trans rfl
  have f8 := (blk_cell HX.out 8).trans rfl
  have f9 := (blk_cell HX.out 9).trans rfl
  go_wp2_with fail
  refine (HLV.out _).mono ?_
  rintro e w2 ⟨rfl, hb2⟩
  have HB2 := Asd.mk (below_step HB.out hb2)
  have HX2 := Asd.mk (blk_below hb2 HX.out)
  clear f0 f1 f2 f3 f4 f5 f6 f7 f8 f9 hb2
  have f0 := (blk_cell HX2.out 0).trans rfl
  have f1 := (blk_cell HX2.out 1).trans rfl
  have f2 := (blk_cell HX2.out 2).trans rfl
  have f3 := (blk_cell HX2.out 3).trans rfl
  have f4 := (blk_cell HX2.out 4).trans rfl
  have f5 := (blk_cell HX2.out 5).trans rfl
  have f6 := (blk_cell HX2.out 6).trans rfl
  have f7 := (blk_cell HX2.out 7).trans rfl
  have f8 := (blk_cell HX2.out 8).trans rfl
  have f9 := (blk_cell HX2.out 9).trans rfl
  obtain ⟨g0, o0, A1, n0, c1, he0, hr0, hh0⟩ := held_at (held_below HH.out HB2.out) 0 (by simp)
  obtain ⟨A0', c0', hx0⟩ := held_len hh0
  have hn0 : n0 = a.args.length := by injection hx0
  subst hn0
  clear hx0 A0' c0'
  simp only [List.getElem_cons_zero] at hr0 hh0
  subst he0
  simp only [Nat.zero_mul, Nat.add_zero] at hr0
  have y0 : w2.cell? ⟨g0, o0, none⟩ = some (.int .i64 a.kind) := hr0 0 (by omega)
  have y1 : w2.cell? ⟨g0, o0 + 1, none⟩ = some (.int .i64 a.op) := hr0 1 (by omega)
  have y2 : w2.cell? ⟨g0, o0 + 2, none⟩ = some (.int .i64 a.v.kind) := hr0 2 (by omega)
  have y3 : w2.cell? ⟨g0, o0 + 3, none⟩ = some (.int .i64 a.v.int) := hr0 3 (by omega)
  have y4 : w2.cell? ⟨g0, o0 + 4, none⟩ = some (.string ⟨a.v.text.toArray⟩) := hr0 4 (by omega)
  have y5 : w2.cell? ⟨g0, o0 + 5, none⟩ = some (.string ⟨a.table.toArray⟩) := hr0 5 (by omega)
  have y6 : w2.cell? ⟨g0, o0 + 6, none⟩ = some (.string ⟨a.name.toArray⟩) := hr0 6 (by omega)
  have y7 : w2.cell? ⟨g0, o0 + 7, none⟩ = some (.int .i64 a.col) := hr0 7 (by omega)
  have y8 : w2.cell? ⟨g0, o0 + 8, none⟩ = some (.int .i64 a.ty) := hr0 8 (by omega)
  have y9 : w2.cell? ⟨g0, o0 + 9, none⟩ = some (.slice A1 a.args.length c1) := hr0 9 (by omega)
  have HC := Asd.mk (HP.out Q A1 c1 w2 hh0)
  have hgl := World.block_lt_of_cell? w2 _ y0
  clear hr0 hh0
  go_wp2_with fail
  refine HC.out.mono ?_
  rintro e w3 ⟨hb3, s, rfl, hs⟩
  have HB3 := Asd.mk (below_step HB2.out hb3)
  have hs2 : s.size ≤ 31457280 := by omega
  have HS := Asd.mk hs
  clear f0 f1 f2 f3 f4 f5 f6 f7 f8 f9 y0 y1 y2 y3 y4 y5 y6 y7 y8 y9 hb3 hs
  go_wp2
  go_ret
  refine ⟨HB3.out, _, ret_eq rfl, ?_⟩
  rw [ByteArray.size_append]
  have h1 := HS.out
  have h2 := bulkX_pos a
  show s.size + 8 ≤ _
  omega
set_option maxRecDepth 100000 in
theorem prn_null1  (v : Vl) (tb nm : List UInt8) (col tp : Int) (A : Option Addr) (c : Nat) (w : World) (a : Ex) (hN : bulkX a ≤ 1048576) (ha : PrnOK a) (Q : Nat → Prop) (hh : Held Q w [a] (.slice A 1 c)):
    Calls Tryz.prog 13 #[.agg #[.int .i64 7, .int .i64 1, .int .i64 v.kind, .int .i64 v.int, .string ⟨v.text.toArray⟩, .string ⟨tb.toArray⟩, .string ⟨nm.toArray⟩, .int .i64 col, .int .i64 tp, .slice A 1 c]] w (TxtR (30 * bulkX a + 10) w) := by
  have HLVL : ∀ W, Calls Tryz.prog 26 #[.agg #[.int .i64 7, .int .i64 1, .int .i64 v.kind, .int .i64 v.int, .string ⟨v.text.toArray⟩, .string ⟨tb.toArray⟩, .string ⟨nm.toArray⟩, .int .i64 col, .int .i64 tp, .slice A 1 c]] W (LineR (4) W) := fun W => by
    have h := lvl_any v.kind v.int col tp ⟨v.text.toArray⟩ ⟨tb.toArray⟩ ⟨nm.toArray⟩ A c W 7 1 1
    rw [show lnG (7) (1) 1 = 4 from by simp [lnG]] at h
    exact h
  have HH := Asd.mk hh
  have HP := Asd.mk (roperand_calls a hN ha 5)
  clear hh ha
  have HX := Asd.mk (blk_new w (.cells #[.int .i64 7, .int .i64 1, .int .i64 v.kind, .int .i64 v.int, .string ⟨v.text.toArray⟩, .string ⟨tb.toArray⟩, .string ⟨nm.toArray⟩, .int .i64 col, .int .i64 tp, .slice A 1 c] 26 (0, 0)))
  have HB : Asd (Below w.heap.size w (w.alloc (.cells #[.int .i64 7, .int .i64 1, .int .i64 v.kind, .int .i64 v.int, .string ⟨v.text.toArray⟩, .string ⟨tb.toArray⟩, .string ⟨nm.toArray⟩, .int .i64 col, .int .i64 tp, .slice A 1 c] 26 (0, 0)))) := Asd.mk (below_alloc (Below.refl _ _) _)
  have HLV : Asd (∀ W, Calls Tryz.prog 26 #[.agg #[.int .i64 7, .int .i64 1, .int .i64 v.kind, .int .i64 v.int, .string ⟨v.text.toArray⟩, .string ⟨tb.toArray⟩, .string ⟨nm.toArray⟩, .int .i64 col, .int .i64 tp, .slice A 1 c]] W (LineR (4) W)) := Asd.mk (fun W => HLVL W)
  clear HLVL
  go_enter Tryz.func13, Tryz.ntmps13
  go_upto_region 1 with fail
  generalize w.alloc (.cells #[.int .i64 7, .int .i64 1, .int .i64 v.kind, .int .i64 v.int, .string ⟨v.text.toArray⟩, .string ⟨tb.toArray⟩, .string ⟨nm.toArray⟩, .int .i64 col, .int .i64 tp, .slice A 1 c] 26 (0, 0)) = w1 at HX HB ⊢
  have f0 := (blk_cell HX.out 0).trans rfl
  have f1 := (blk_cell HX.out 1).trans rfl
  have f2 := (blk_cell HX.out 2).trans rfl
  have f3 := (blk_cell HX.out 3).trans rfl
  have f4 := (blk_cell HX.out 4).trans rfl
  have f5 := (blk_cell HX.out 5).trans rfl
  have f6 := (blk_cell HX.out 6).trans rfl
  have f7 := (blk_cell HX.out 7).trans rfl
  have f8 := (blk_cell HX.out 8).trans rfl
  have f9 := (blk_cell HX.out 9).trans rfl
  go_wp2_with fail
  refine (HLV.out _).mono ?_
  rintro e w2 ⟨rfl, hb2⟩
  have HB2 := Asd.mk (below_step HB.out hb2)
  have HX2 := Asd.mk (blk_below hb2 HX.out)
  clear f0 f1 f2 f3 f4 f5 f6 f7 f8 f9 hb2
  have f0 := (blk_cell HX2.out 0).trans rfl
  have f1 := (blk_cell HX2.out 1).trans rfl
  have f2 := (blk_cell HX2.out 2).trans rfl
  have f3 := (blk_cell HX2.out 3).trans rfl
  have f4 := (blk_cell HX2.out 4).trans rfl
  have f5 := (blk_cell HX2.out 5).trans rfl
  have f6 := (blk_cell HX2.out 6).trans rfl
  have f7 := (blk_cell HX2.out 7).trans rfl
  have f8 := (blk_cell HX2.out 8).trans rfl
  have f9 := (blk_cell HX2.out 9).trans rfl
  obtain ⟨g0, o0, A1, n0, c1, he0, hr0, hh0⟩ := held_at (held_below HH.out HB2.out) 0 (by simp)
  obtain ⟨A0', c0', hx0⟩ := held_len hh0
  have hn0 : n0 = a.args.length := by injection hx0
  subst hn0
  clear hx0 A0' c0'
  simp only [List.getElem_cons_zero] at hr0 hh0
  subst he0
  simp only [Nat.zero_mul, Nat.add_zero] at hr0
  have y0 : w2.cell? ⟨g0, o0, none⟩ = some (.int .i64 a.kind) := hr0 0 (by omega)
  have y1 : w2.cell? ⟨g0, o0 + 1, none⟩ = some (.int .i64 a.op) := hr0 1 (by omega)
  have y2 : w2.cell? ⟨g0, o0 + 2, none⟩ = some (.int .i64 a.v.kind) := hr0 2 (by omega)
  have y3 : w2.cell? ⟨g0, o0 + 3, none⟩ = some (.int .i64 a.v.int) := hr0 3 (by omega)
  have y4 : w2.cell? ⟨g0, o0 + 4, none⟩ = some (.string ⟨a.v.text.toArray⟩) := hr0 4 (by omega)
  have y5 : w2.cell? ⟨g0, o0 + 5, none⟩ = some (.string ⟨a.table.toArray⟩) := hr0 5 (by omega)
  have y6 : w2.cell? ⟨g0, o0 + 6, none⟩ = some (.string ⟨a.name.toArray⟩) := hr0 6 (by omega)
  have y7 : w2.cell? ⟨g0, o0 + 7, none⟩ = some (.int .i64 a.col) := hr0 7 (by omega)
  have y8 : w2.cell? ⟨g0, o0 + 8, none⟩ = some (.int .i64 a.ty) := hr0 8 (by omega)
  have y9 : w2.cell? ⟨g0, o0 + 9, none⟩ = some (.slice A1 a.args.length c1) := hr0 9 (by omega)
  have HC := Asd.mk (HP.out Q A1 c1 w2 hh0)
  have hgl := World.block_lt_of_cell? w2 _ y0
  clear hr0 hh0
  go_wp2_with fail
  refine HC.out.mono ?_
  rintro e w3 ⟨hb3, s, rfl, hs⟩
  have HB3 := Asd.mk (below_step HB2.out hb3)
  have hs2 : s.size ≤ 31457280 := by omega
  have HS := Asd.mk hs
  clear f0 f1 f2 f3 f4 f5 f6 f7 f8 f9 y0 y1 y2 y3 y4 y5 y6 y7 y8 y9 hb3 hs
  go_wp2
  go_ret
  refine ⟨HB3.out, _, ret_eq rfl, ?_⟩
  rw [ByteArray.size_append]
  have h1 := HS.out
  have h2 := bulkX_pos a
  show s.size + 12 ≤ _
  omega
set_option maxRecDepth 100000 in
theorem prn_un  (v : Vl) (tb nm : List UInt8) (col tp : Int) (A : Option Addr) (c : Nat) (w : World) (k : Nat) (L : Int) (hk : 1 ≤ k) (hk2 : k ≤ 2) (hL : lnG 3 ((k : Nat) : Int) 1 = L) (hl0 : (L == 0) = false) (hl0n : ¬ L = 0) (a : Ex) (hN : bulkX a ≤ 1048576) (ha : PrnOK a) (Q : Nat → Prop) (hh : Held Q w [a] (.slice A 1 c)):
    Calls Tryz.prog 13 #[.agg #[.int .i64 3, .int .i64 ((k : Nat) : Int), .int .i64 v.kind, .int .i64 v.int, .string ⟨v.text.toArray⟩, .string ⟨tb.toArray⟩, .string ⟨nm.toArray⟩, .int .i64 col, .int .i64 tp, .slice A 1 c]] w (TxtR (30 * bulkX a + 10) w) := by
  have HLVL : ∀ W, Calls Tryz.prog 26 #[.agg #[.int .i64 3, .int .i64 ((k : Nat) : Int), .int .i64 v.kind, .int .i64 v.int, .string ⟨v.text.toArray⟩, .string ⟨tb.toArray⟩, .string ⟨nm.toArray⟩, .int .i64 col, .int .i64 tp, .slice A 1 c]] W (LineR (L) W) := fun W => by
    have h := lvl_any v.kind v.int col tp ⟨v.text.toArray⟩ ⟨tb.toArray⟩ ⟨nm.toArray⟩ A c W 3 ((k : Nat) : Int) 1
    rw [show lnG (3) ((k : Nat) : Int) 1 = L from hL] at h
    exact h
  have HH := Asd.mk hh
  have HPa := Asd.mk (roperand_calls a hN ha L)
  have HSG := Asd.mk (fun W => rsign_calls k hk (by omega) W)
  clear hh ha hL hk hk2
  have HX := Asd.mk (blk_new w (.cells #[.int .i64 3, .int .i64 ((k : Nat) : Int), .int .i64 v.kind, .int .i64 v.int, .string ⟨v.text.toArray⟩, .string ⟨tb.toArray⟩, .string ⟨nm.toArray⟩, .int .i64 col, .int .i64 tp, .slice A 1 c] 26 (0, 0)))
  have HB : Asd (Below w.heap.size w (w.alloc (.cells #[.int .i64 3, .int .i64 ((k : Nat) : Int), .int .i64 v.kind, .int .i64 v.int, .string ⟨v.text.toArray⟩, .string ⟨tb.toArray⟩, .string ⟨nm.toArray⟩, .int .i64 col, .int .i64 tp, .slice A 1 c] 26 (0, 0)))) := Asd.mk (below_alloc (Below.refl _ _) _)
  have HLV : Asd (∀ W, Calls Tryz.prog 26 #[.agg #[.int .i64 3, .int .i64 ((k : Nat) : Int), .int .i64 v.kind, .int .i64 v.int, .string ⟨v.text.toArray⟩, .string ⟨tb.toArray⟩, .string ⟨nm.toArray⟩, .int .i64 col, .int .i64 tp, .slice A 1 c]] W (LineR (L) W)) := Asd.mk (fun W => HLVL W)
  clear HLVL
  go_enter Tryz.func13, Tryz.ntmps13
  go_upto_region 1 with fail
  generalize w.alloc (.cells #[.int .i64 3, .int .i64 ((k : Nat) : Int), .int .i64 v.kind, .int .i64 v.int, .string ⟨v.text.toArray⟩, .string ⟨tb.toArray⟩, .string ⟨nm.toArray⟩, .int .i64 col, .int .i64 tp, .slice A 1 c] 26 (0, 0)) = w1 at HX HB ⊢
  have f0 := (blk_cell HX.out 0).trans rfl
  have f1 := (blk_cell HX.out 1).trans rfl
  have f2 := (blk_cell HX.out 2).trans rfl
  have f3 := (blk_cell HX.out 3).trans rfl
  have f4 := (blk_cell HX.out 4).trans rfl
  have f5 := (blk_cell HX.out 5).trans rfl
  have f6 := (blk_cell HX.out 6).trans rfl
  have f7 := (blk_cell HX.out 7).trans rfl
  have f8 := (blk_cell HX.out 8).trans rfl
  have f9 := (blk_cell HX.out 9).trans rfl
  go_wp2_with fail
  refine (HLV.out _).mono ?_
  rintro e w2 ⟨rfl, hb2⟩
  have HB2 := Asd.mk (below_step HB.out hb2)
  have HX2 := Asd.mk (blk_below hb2 HX.out)
  clear f0 f1 f2 f3 f4 f5 f6 f7 f8 f9 hb2
  have f0 := (blk_cell HX2.out 0).trans rfl
  have f1 := (blk_cell HX2.out 1).trans rfl
  have f2 := (blk_cell HX2.out 2).trans rfl
  have f3 := (blk_cell HX2.out 3).trans rfl
  have f4 := (blk_cell HX2.out 4).trans rfl
  have f5 := (blk_cell HX2.out 5).trans rfl
  have f6 := (blk_cell HX2.out 6).trans rfl
  have f7 := (blk_cell HX2.out 7).trans rfl
  have f8 := (blk_cell HX2.out 8).trans rfl
  have f9 := (blk_cell HX2.out 9).trans rfl
  obtain ⟨g0, o0, A1, n0, c1, he0, hr0, hh0⟩ := held_at (held_below HH.out HB2.out) 0 (by simp)
  obtain ⟨A0', c0', hx0⟩ := held_len hh0
  have hn0 : n0 = a.args.length := by injection hx0
  subst hn0
  clear hx0 A0' c0'
  simp only [List.getElem_cons_zero] at hr0 hh0
  subst he0
  simp only [Nat.zero_mul, Nat.add_zero] at hr0
  have y0 : w2.cell? ⟨g0, o0, none⟩ = some (.int .i64 a.kind) := hr0 0 (by omega)
  have y1 : w2.cell? ⟨g0, o0 + 1, none⟩ = some (.int .i64 a.op) := hr0 1 (by omega)
  have y2 : w2.cell? ⟨g0, o0 + 2, none⟩ = some (.int .i64 a.v.kind) := hr0 2 (by omega)
  have y3 : w2.cell? ⟨g0, o0 + 3, none⟩ = some (.int .i64 a.v.int) := hr0 3 (by omega)
  have y4 : w2.cell? ⟨g0, o0 + 4, none⟩ = some (.string ⟨a.v.text.toArray⟩) := hr0 4 (by omega)
  have y5 : w2.cell? ⟨g0, o0 + 5, none⟩ = some (.string ⟨a.table.toArray⟩) := hr0 5 (by omega)
  have y6 : w2.cell? ⟨g0, o0 + 6, none⟩ = some (.string ⟨a.name.toArray⟩) := hr0 6 (by omega)
  have y7 : w2.cell? ⟨g0, o0 + 7, none⟩ = some (.int .i64 a.col) := hr0 7 (by omega)
  have y8 : w2.cell? ⟨g0, o0 + 8, none⟩ = some (.int .i64 a.ty) := hr0 8 (by omega)
  have y9 : w2.cell? ⟨g0, o0 + 9, none⟩ = some (.slice A1 a.args.length c1) := hr0 9 (by omega)
  have hgl : g0 < w2.heap.size := World.block_lt_of_cell? w2 _ y0
  have HO : Asd (∀ W, Below w2.heap.size w2 W → Calls Tryz.prog 29 #[(.agg #[.int .i64 a.kind, .int .i64 a.op, .int .i64 a.v.kind, .int .i64 a.v.int, .string ⟨a.v.text.toArray⟩, .string ⟨a.table.toArray⟩, .string ⟨a.name.toArray⟩, .int .i64 a.col, .int .i64 a.ty, .slice A1 a.args.length c1]), .int .i64 L] W (TxtR (30 * bulkX a - 2) W)) := Asd.mk fun W hb => HPa.out Q A1 c1 W (held_below hh0 hb)
  unfold TxtR at HO HSG
  have HS : Asd (∀ w', Below w2.heap.size w2 w' → w'.cell? ⟨w.heap.size, 1, none⟩ = some (.int .i64 ((k : Nat) : Int)) ∧ w'.cell? ⟨w.heap.size, 9, none⟩ = some (.slice (some ⟨g0, o0, none⟩) 1 c) ∧ w'.cell? ⟨g0, o0, none⟩ = some (.int .i64 a.kind) ∧ w'.cell? ⟨g0, o0 + 1, none⟩ = some (.int .i64 a.op) ∧ w'.cell? ⟨g0, o0 + 2, none⟩ = some (.int .i64 a.v.kind) ∧ w'.cell? ⟨g0, o0 + 3, none⟩ = some (.int .i64 a.v.int) ∧ w'.cell? ⟨g0, o0 + 4, none⟩ = some (.string ⟨a.v.text.toArray⟩) ∧ w'.cell? ⟨g0, o0 + 5, none⟩ = some (.string ⟨a.table.toArray⟩) ∧ w'.cell? ⟨g0, o0 + 6, none⟩ = some (.string ⟨a.name.toArray⟩) ∧ w'.cell? ⟨g0, o0 + 7, none⟩ = some (.int .i64 a.col) ∧ w'.cell? ⟨g0, o0 + 8, none⟩ = some (.int .i64 a.ty) ∧ w'.cell? ⟨g0, o0 + 9, none⟩ = some (.slice A1 a.args.length c1) ∧ Below w2.heap.size w2 w') := Asd.mk fun w' hb =>
    ⟨(hb.cell (blk_lt HX2.out)).trans f1, (hb.cell (blk_lt HX2.out)).trans f9, (hb.cell hgl).trans y0, (hb.cell hgl).trans y1, (hb.cell hgl).trans y2, (hb.cell hgl).trans y3, (hb.cell hgl).trans y4, (hb.cell hgl).trans y5, (hb.cell hgl).trans y6, (hb.cell hgl).trans y7, (hb.cell hgl).trans y8, (hb.cell hgl).trans y9, hb⟩
  clear hr0 hh0 HH HPa HX HB HLV
  have hab : 30 * bulkX a - 2 ≤ 31457280 := by omega
  have hap := bulkX_pos a
  go_upto_region 12 with fail
  clear f0 f1 f2 f3 f4 f5 f6 f7 f8 f9 y0 y1 y2 y3 y4 y5 y6 y7 y8 y9
  go_region_held3 (fun w' => w'.cell? ⟨w.heap.size, 1, none⟩ = some (.int .i64 ((k : Nat) : Int)) ∧ w'.cell? ⟨w.heap.size, 9, none⟩ = some (.slice (some ⟨g0, o0, none⟩) 1 c) ∧ w'.cell? ⟨g0, o0, none⟩ = some (.int .i64 a.kind) ∧ w'.cell? ⟨g0, o0 + 1, none⟩ = some (.int .i64 a.op) ∧ w'.cell? ⟨g0, o0 + 2, none⟩ = some (.int .i64 a.v.kind) ∧ w'.cell? ⟨g0, o0 + 3, none⟩ = some (.int .i64 a.v.int) ∧ w'.cell? ⟨g0, o0 + 4, none⟩ = some (.string ⟨a.v.text.toArray⟩) ∧ w'.cell? ⟨g0, o0 + 5, none⟩ = some (.string ⟨a.table.toArray⟩) ∧ w'.cell? ⟨g0, o0 + 6, none⟩ = some (.string ⟨a.name.toArray⟩) ∧ w'.cell? ⟨g0, o0 + 7, none⟩ = some (.int .i64 a.col) ∧ w'.cell? ⟨g0, o0 + 8, none⟩ = some (.int .i64 a.ty) ∧ w'.cell? ⟨g0, o0 + 9, none⟩ = some (.slice A1 a.args.length c1) ∧ Below w2.heap.size w2 w')
    (first
      | exact HS.out _ (Below.refl _ _)
      | exact HS.out _ (Below.refl _ _).drew
      | exact HS.out _ HB3.out
      | exact HS.out _ HB3.out.drew
      | exact HS.out _ HB4.out
      | exact HS.out _ HB4.out.drew
      | (go_split_ands; exact HS.out _ (by assumption))
      | fail)
    (first
      | (go_at_call 28
         refine (HSG.out _).mono ?_
         rintro e w3 ⟨hb3, s1, rfl, hs1⟩
         have hc1 : ¬ 9223372036854775807 < s1.size + 1 := by omega
         have HB3 : Asd (Below w2.heap.size w2 w3) := Asd.mk (below_step (Below.refl _ _).drew hb3))
      | (go_at_call 29
         refine (HO.out _ HB3.out).mono ?_
         rintro e w4 ⟨hb4, s2, rfl, hs2⟩
         have hc2 : ¬ 9223372036854775807 < s1.size + 1 + s2.size := by omega
         have HB4 : Asd (Below w2.heap.size w2 w4) := Asd.mk (below_step HB3.out hb4))
      | fail)
  go_wp2
  go_ret
  refine ⟨chain_below HB2.out HB4.out HB2.out.size, _, ret_eq rfl, ?_⟩
  rw [ByteArray.size_append, ByteArray.size_append]
  show s1.size + 1 + s2.size ≤ _
  omega

theorem bin_ln {k : Nat} {L : Int} (h : 3 ≤ k) (h' : k ≤ 16) (hL : pairLn k = L) : lnG 4 ((k : Nat) : Int) 2 = L := by
  have h1 : (3 : Int) ≤ (k : Int) := by omega
  have h2 : (k : Int) ≤ 16 := by omega
  rw [← hL]
  simp [lnG, h, h', h1, h2]
set_option maxRecDepth 100000 in
theorem prn_bin4  (v : Vl) (tb nm : List UInt8) (col tp : Int) (A : Option Addr) (c : Nat) (w : World) (k : Nat) (hk : 3 ≤ k) (hk' : k ≤ 16) (hL : pairLn k = 4) (a b : Ex) (hNa : bulkX a + bulkX b ≤ 1048576) (ha : PrnOK a) (hb : PrnOK b) (Q : Nat → Prop) (hh : Held Q w [a, b] (.slice A 2 c)):
    Calls Tryz.prog 13 #[.agg #[.int .i64 4, .int .i64 ((k : Nat) : Int), .int .i64 v.kind, .int .i64 v.int, .string ⟨v.text.toArray⟩, .string ⟨tb.toArray⟩, .string ⟨nm.toArray⟩, .int .i64 col, .int .i64 tp, .slice A 2 c]] w (TxtR (30 * (bulkX a + bulkX b) + 10) w) := by
  have HLVL : ∀ W, Calls Tryz.prog 26 #[.agg #[.int .i64 4, .int .i64 ((k : Nat) : Int), .int .i64 v.kind, .int .i64 v.int, .string ⟨v.text.toArray⟩, .string ⟨tb.toArray⟩, .string ⟨nm.toArray⟩, .int .i64 col, .int .i64 tp, .slice A 2 c]] W (LineR (4) W) := fun W => by
    have h := lvl_any v.kind v.int col tp ⟨v.text.toArray⟩ ⟨tb.toArray⟩ ⟨nm.toArray⟩ A c W 4 ((k : Nat) : Int) 2
    rw [show lnG (4) ((k : Nat) : Int) 2 = 4 from bin_ln hk hk' hL] at h
    exact h
  have HH := Asd.mk hh
  have HPa := Asd.mk (roperand_calls a (by omega) ha 5)
  have HPb := Asd.mk (roperand_calls b (by omega) hb 5)
  have HSG := Asd.mk (fun W => rsign_calls k (by omega) hk' W)
  clear hh ha hb hL hk hk'
  have HX := Asd.mk (blk_new w (.cells #[.int .i64 4, .int .i64 ((k : Nat) : Int), .int .i64 v.kind, .int .i64 v.int, .string ⟨v.text.toArray⟩, .string ⟨tb.toArray⟩, .string ⟨nm.toArray⟩, .int .i64 col, .int .i64 tp, .slice A 2 c] 26 (0, 0)))
  have HB : Asd (Below w.heap.size w (w.alloc (.cells #[.int .i64 4, .int .i64 ((k : Nat) : Int), .int .i64 v.kind, .int .i64 v.int, .string ⟨v.text.toArray⟩, .string ⟨tb.toArray⟩, .string ⟨nm.toArray⟩, .int .i64 col, .int .i64 tp, .slice A 2 c] 26 (0, 0)))) := Asd.mk (below_alloc (Below.refl _ _) _)
  have HLV : Asd (∀ W, Calls Tryz.prog 26 #[.agg #[.int .i64 4, .int .i64 ((k : Nat) : Int), .int .i64 v.kind, .int .i64 v.int, .string ⟨v.text.toArray⟩, .string ⟨tb.toArray⟩, .string ⟨nm.toArray⟩, .int .i64 col, .int .i64 tp, .slice A 2 c]] W (LineR (4) W)) := Asd.mk (fun W => HLVL W)
  clear HLVL
  go_enter Tryz.func13, Tryz.ntmps13
  go_upto_region 1 with fail
  generalize w.alloc (.cells #[.int .i64 4, .int .i64 ((k : Nat) : Int), .int .i64 v.kind, .int .i64 v.int, .string ⟨v.text.toArray⟩, .string ⟨tb.toArray⟩, .string ⟨nm.toArray⟩, .int .i64 col, .int .i64 tp, .slice A 2 c] 26 (0, 0)) = w1 at HX HB ⊢
  have f0 := (blk_cell HX.out 0).trans rfl
  have f1 := (blk_cell HX.out 1).trans rfl
  have f2 := (blk_cell HX.out 2).trans rfl
  have f3 := (blk_cell HX.out 3).trans rfl
  have f4 := (blk_cell HX.out 4).trans rfl
  have f5 := (blk_cell HX.out 5).trans rfl
  have f6 := (blk_cell HX.out 6).trans rfl
  have f7 := (blk_cell HX.out 7).trans rfl
  have f8 := (blk_cell HX.out 8).trans rfl
  have f9 := (blk_cell HX.out 9).trans rfl
  go_wp2_with fail
  refine (HLV.out _).mono ?_
  rintro e w2 ⟨rfl, hb2⟩
  have HB2 := Asd.mk (below_step HB.out hb2)
  have HX2 := Asd.mk (blk_below hb2 HX.out)
  clear f0 f1 f2 f3 f4 f5 f6 f7 f8 f9 hb2
  have f0 := (blk_cell HX2.out 0).trans rfl
  have f1 := (blk_cell HX2.out 1).trans rfl
  have f2 := (blk_cell HX2.out 2).trans rfl
  have f3 := (blk_cell HX2.out 3).trans rfl
  have f4 := (blk_cell HX2.out 4).trans rfl
  have f5 := (blk_cell HX2.out 5).trans rfl
  have f6 := (blk_cell HX2.out 6).trans rfl
  have f7 := (blk_cell HX2.out 7).trans rfl
  have f8 := (blk_cell HX2.out 8).trans rfl
  have f9 := (blk_cell HX2.out 9).trans rfl
  obtain ⟨g0, o0, A1, n0, c1, he0, hr0, hh0⟩ := held_at (held_below HH.out HB2.out) 0 (by simp)
  obtain ⟨A0', c0', hx0⟩ := held_len hh0
  have hn0 : n0 = a.args.length := by injection hx0
  subst hn0
  clear hx0 A0' c0'
  simp only [List.getElem_cons_zero] at hr0 hh0
  have he0' := he0
  obtain ⟨g1, o1, A2, n1, c2, he1', hr1, hh1⟩ := held_at (held_below HH.out HB2.out) 1 (by simp)
  obtain ⟨A1', c1', hx1⟩ := held_len hh1
  have hn1 : n1 = b.args.length := by injection hx1
  subst hn1
  clear hx1 A1' c1'
  simp only [List.getElem_cons_succ, List.getElem_cons_zero] at hr1 hh1
  subst he0
  injection he1' with he2
  injection he2 with he3 he4
  subst he3 he4
  clear he0'
  simp only [Nat.zero_mul, Nat.add_zero] at hr0
  simp only [Nat.one_mul, Nat.add_assoc, Nat.reduceAdd] at hr1
  have y0 : w2.cell? ⟨g0, o0, none⟩ = some (.int .i64 a.kind) := hr0 0 (by omega)
  have y1 : w2.cell? ⟨g0, o0 + 1, none⟩ = some (.int .i64 a.op) := hr0 1 (by omega)
  have y2 : w2.cell? ⟨g0, o0 + 2, none⟩ = some (.int .i64 a.v.kind) := hr0 2 (by omega)
  have y3 : w2.cell? ⟨g0, o0 + 3, none⟩ = some (.int .i64 a.v.int) := hr0 3 (by omega)
  have y4 : w2.cell? ⟨g0, o0 + 4, none⟩ = some (.string ⟨a.v.text.toArray⟩) := hr0 4 (by omega)
  have y5 : w2.cell? ⟨g0, o0 + 5, none⟩ = some (.string ⟨a.table.toArray⟩) := hr0 5 (by omega)
  have y6 : w2.cell? ⟨g0, o0 + 6, none⟩ = some (.string ⟨a.name.toArray⟩) := hr0 6 (by omega)
  have y7 : w2.cell? ⟨g0, o0 + 7, none⟩ = some (.int .i64 a.col) := hr0 7 (by omega)
  have y8 : w2.cell? ⟨g0, o0 + 8, none⟩ = some (.int .i64 a.ty) := hr0 8 (by omega)
  have y9 : w2.cell? ⟨g0, o0 + 9, none⟩ = some (.slice A1 a.args.length c1) := hr0 9 (by omega)
  have z0 : w2.cell? ⟨g0, o0 + 10, none⟩ = some (.int .i64 b.kind) := hr1 0 (by omega)
  have z1 : w2.cell? ⟨g0, o0 + 11, none⟩ = some (.int .i64 b.op) := hr1 1 (by omega)
  have z2 : w2.cell? ⟨g0, o0 + 12, none⟩ = some (.int .i64 b.v.kind) := hr1 2 (by omega)
  have z3 : w2.cell? ⟨g0, o0 + 13, none⟩ = some (.int .i64 b.v.int) := hr1 3 (by omega)
  have z4 : w2.cell? ⟨g0, o0 + 14, none⟩ = some (.string ⟨b.v.text.toArray⟩) := hr1 4 (by omega)
  have z5 : w2.cell? ⟨g0, o0 + 15, none⟩ = some (.string ⟨b.table.toArray⟩) := hr1 5 (by omega)
  have z6 : w2.cell? ⟨g0, o0 + 16, none⟩ = some (.string ⟨b.name.toArray⟩) := hr1 6 (by omega)
  have z7 : w2.cell? ⟨g0, o0 + 17, none⟩ = some (.int .i64 b.col) := hr1 7 (by omega)
  have z8 : w2.cell? ⟨g0, o0 + 18, none⟩ = some (.int .i64 b.ty) := hr1 8 (by omega)
  have z9 : w2.cell? ⟨g0, o0 + 19, none⟩ = some (.slice A2 b.args.length c2) := hr1 9 (by omega)
  have hgl : g0 < w2.heap.size := World.block_lt_of_cell? w2 _ y0
  have HOa : Asd (∀ W, Below w2.heap.size w2 W → Calls Tryz.prog 29 #[(.agg #[.int .i64 a.kind, .int .i64 a.op, .int .i64 a.v.kind, .int .i64 a.v.int, .string ⟨a.v.text.toArray⟩, .string ⟨a.table.toArray⟩, .string ⟨a.name.toArray⟩, .int .i64 a.col, .int .i64 a.ty, .slice A1 a.args.length c1]), .int .i64 5] W (TxtR (30 * bulkX a - 2) W)) := Asd.mk fun W hb => HPa.out Q A1 c1 W (held_below hh0 hb)
  have HOb : Asd (∀ W, Below w2.heap.size w2 W → Calls Tryz.prog 29 #[(.agg #[.int .i64 b.kind, .int .i64 b.op, .int .i64 b.v.kind, .int .i64 b.v.int, .string ⟨b.v.text.toArray⟩, .string ⟨b.table.toArray⟩, .string ⟨b.name.toArray⟩, .int .i64 b.col, .int .i64 b.ty, .slice A2 b.args.length c2]), .int .i64 5] W (TxtR (30 * bulkX b - 2) W)) := Asd.mk fun W hb => HPb.out Q A2 c2 W (held_below hh1 hb)
  unfold TxtR at HOa HOb HSG
  have HS : Asd (∀ w', Below w2.heap.size w2 w' → w'.cell? ⟨w.heap.size, 1, none⟩ = some (.int .i64 ((k : Nat) : Int)) ∧ w'.cell? ⟨w.heap.size, 9, none⟩ = some (.slice (some ⟨g0, o0, none⟩) 2 c) ∧ w'.cell? ⟨g0, o0, none⟩ = some (.int .i64 a.kind) ∧ w'.cell? ⟨g0, o0 + 1, none⟩ = some (.int .i64 a.op) ∧ w'.cell? ⟨g0, o0 + 2, none⟩ = some (.int .i64 a.v.kind) ∧ w'.cell? ⟨g0, o0 + 3, none⟩ = some (.int .i64 a.v.int) ∧ w'.cell? ⟨g0, o0 + 4, none⟩ = some (.string ⟨a.v.text.toArray⟩) ∧ w'.cell? ⟨g0, o0 + 5, none⟩ = some (.string ⟨a.table.toArray⟩) ∧ w'.cell? ⟨g0, o0 + 6, none⟩ = some (.string ⟨a.name.toArray⟩) ∧ w'.cell? ⟨g0, o0 + 7, none⟩ = some (.int .i64 a.col) ∧ w'.cell? ⟨g0, o0 + 8, none⟩ = some (.int .i64 a.ty) ∧ w'.cell? ⟨g0, o0 + 9, none⟩ = some (.slice A1 a.args.length c1) ∧ w'.cell? ⟨g0, o0 + 10, none⟩ = some (.int .i64 b.kind) ∧ w'.cell? ⟨g0, o0 + 11, none⟩ = some (.int .i64 b.op) ∧ w'.cell? ⟨g0, o0 + 12, none⟩ = some (.int .i64 b.v.kind) ∧ w'.cell? ⟨g0, o0 + 13, none⟩ = some (.int .i64 b.v.int) ∧ w'.cell? ⟨g0, o0 + 14, none⟩ = some (.string ⟨b.v.text.toArray⟩) ∧ w'.cell? ⟨g0, o0 + 15, none⟩ = some (.string ⟨b.table.toArray⟩) ∧ w'.cell? ⟨g0, o0 + 16, none⟩ = some (.string ⟨b.name.toArray⟩) ∧ w'.cell? ⟨g0, o0 + 17, none⟩ = some (.int .i64 b.col) ∧ w'.cell? ⟨g0, o0 + 18, none⟩ = some (.int .i64 b.ty) ∧ w'.cell? ⟨g0, o0 + 19, none⟩ = some (.slice A2 b.args.length c2) ∧ Below w2.heap.size w2 w') := Asd.mk fun w' hb =>
    ⟨(hb.cell (blk_lt HX2.out)).trans f1, (hb.cell (blk_lt HX2.out)).trans f9, (hb.cell hgl).trans y0, (hb.cell hgl).trans y1, (hb.cell hgl).trans y2, (hb.cell hgl).trans y3, (hb.cell hgl).trans y4, (hb.cell hgl).trans y5, (hb.cell hgl).trans y6, (hb.cell hgl).trans y7, (hb.cell hgl).trans y8, (hb.cell hgl).trans y9, (hb.cell hgl).trans z0, (hb.cell hgl).trans z1, (hb.cell hgl).trans z2, (hb.cell hgl).trans z3, (hb.cell hgl).trans z4, (hb.cell hgl).trans z5, (hb.cell hgl).trans z6, (hb.cell hgl).trans z7, (hb.cell hgl).trans z8, (hb.cell hgl).trans z9, hb⟩
  clear hr0 hh0 hr1 hh1 HH HPa HPb HX HB HLV
  have hap := bulkX_pos a
  have hbp := bulkX_pos b
  have hab : 30 * bulkX a - 2 ≤ 31457280 := by omega
  have hbb : 30 * bulkX b - 2 ≤ 31457280 := by omega
  go_upto_region 27 with fail
  clear f0 f1 f2 f3 f4 f5 f6 f7 f8 f9 y0 y1 y2 y3 y4 y5 y6 y7 y8 y9 z0 z1 z2 z3 z4 z5 z6 z7 z8 z9
  refine wp_region_held_drew (S := fun w' => w'.cell? ⟨w.heap.size, 1, none⟩ = some (.int .i64 ((k : Nat) : Int)) ∧ w'.cell? ⟨w.heap.size, 9, none⟩ = some (.slice (some ⟨g0, o0, none⟩) 2 c) ∧ w'.cell? ⟨g0, o0, none⟩ = some (.int .i64 a.kind) ∧ w'.cell? ⟨g0, o0 + 1, none⟩ = some (.int .i64 a.op) ∧ w'.cell? ⟨g0, o0 + 2, none⟩ = some (.int .i64 a.v.kind) ∧ w'.cell? ⟨g0, o0 + 3, none⟩ = some (.int .i64 a.v.int) ∧ w'.cell? ⟨g0, o0 + 4, none⟩ = some (.string ⟨a.v.text.toArray⟩) ∧ w'.cell? ⟨g0, o0 + 5, none⟩ = some (.string ⟨a.table.toArray⟩) ∧ w'.cell? ⟨g0, o0 + 6, none⟩ = some (.string ⟨a.name.toArray⟩) ∧ w'.cell? ⟨g0, o0 + 7, none⟩ = some (.int .i64 a.col) ∧ w'.cell? ⟨g0, o0 + 8, none⟩ = some (.int .i64 a.ty) ∧ w'.cell? ⟨g0, o0 + 9, none⟩ = some (.slice A1 a.args.length c1) ∧ w'.cell? ⟨g0, o0 + 10, none⟩ = some (.int .i64 b.kind) ∧ w'.cell? ⟨g0, o0 + 11, none⟩ = some (.int .i64 b.op) ∧ w'.cell? ⟨g0, o0 + 12, none⟩ = some (.int .i64 b.v.kind) ∧ w'.cell? ⟨g0, o0 + 13, none⟩ = some (.int .i64 b.v.int) ∧ w'.cell? ⟨g0, o0 + 14, none⟩ = some (.string ⟨b.v.text.toArray⟩) ∧ w'.cell? ⟨g0, o0 + 15, none⟩ = some (.string ⟨b.table.toArray⟩) ∧ w'.cell? ⟨g0, o0 + 16, none⟩ = some (.string ⟨b.name.toArray⟩) ∧ w'.cell? ⟨g0, o0 + 17, none⟩ = some (.int .i64 b.col) ∧ w'.cell? ⟨g0, o0 + 18, none⟩ = some (.int .i64 b.ty) ∧ w'.cell? ⟨g0, o0 + 19, none⟩ = some (.slice A2 b.args.length c2) ∧ Below w2.heap.size w2 w') (by kernel_rfl) (HS.out _ (Below.refl _ _).drew) (fun hHeld => ?_)
  refine wpAnyH_take (i := 0) (oi := ({ dst := some 96, op := Op.fieldAddr 26 (Operand.tmp 1) 7, type := 0, pos := "ref.go:461", after := #[], guard := none } : Oper)) (v := ?vq27) rfl (by kernel_rfl) (by kernel_rfl) (by kernel_rfl) (fun _ _ _ h => h) (Or.inl ⟨by rfl, ?hq27⟩) (by assumption) ?rq27
  case hq27 => (intro w hSw; (try dsimp only at hSw); go_simp; try (with_reducible rfl))
  try simp only [Act.put, List.setIfInBounds_toArray, List.set_cons_zero, List.set_cons_succ]
  refine wpAnyH_take (i := 1) (oi := ({ dst := some 97, op := Op.load 24 (Operand.tmp 96), type := 24, pos := "ref.go:461", after := #[{ on := 0, ground := Ground.data }], guard := none } : Oper)) (v := ?vq28) rfl (by kernel_rfl) (by kernel_rfl) (by kernel_rfl) (fun _ _ _ h => h) (Or.inl ⟨by rfl, ?hq28⟩) (by assumption) ?rq28
  case hq28 => (intro w hSw; (try dsimp only at hSw); go_simp; try (with_reducible rfl))
  try simp only [Act.put, List.setIfInBounds_toArray, List.set_cons_zero, List.set_cons_succ]
  refine wpAnyH_take (i := 2) (oi := ({ dst := some 98, op := Op.indexAddr 24 (Operand.tmp 97) (Operand.const (Value.int IntKind.i64 0)), type := 0, pos := "ref.go:461", after := #[{ on := 1, ground := Ground.data }], guard := none } : Oper)) (v := ?vq29) rfl (by kernel_rfl) (by kernel_rfl) (by kernel_rfl) (fun _ _ _ h => h) (Or.inl ⟨by rfl, ?hq29⟩) (by assumption) ?rq29
  case hq29 => (intro w hSw; (try dsimp only at hSw); go_simp; try (with_reducible rfl))
  try simp only [Act.put, List.setIfInBounds_toArray, List.set_cons_zero, List.set_cons_succ]
  refine wpAnyH_take (i := 3) (oi := ({ dst := some 99, op := Op.load 26 (Operand.tmp 98), type := 26, pos := "ref.go:461", after := #[{ on := 2, ground := Ground.data }], guard := none } : Oper)) (v := ?vq30) rfl (by kernel_rfl) (by kernel_rfl) (by kernel_rfl) (fun _ _ _ h => h) (Or.inl ⟨by rfl, ?hq30⟩) (by assumption) ?rq30
  case hq30 => (intro w hSw; (try dsimp only at hSw); go_simp; try (with_reducible rfl))
  try simp only [Act.put, List.setIfInBounds_toArray, List.set_cons_zero, List.set_cons_succ]
  refine wpAnyH_take (i := 4) (oi := ({ dst := some 100, op := Op.move (Operand.tmp 5), type := 3, pos := "ref.go:461", after := #[], guard := none } : Oper)) (v := ?vq31) rfl (by kernel_rfl) (by kernel_rfl) (by kernel_rfl) (fun _ _ _ h => h) (Or.inl ⟨by rfl, ?hq31⟩) (by assumption) ?rq31
  case hq31 => (intro w hSw; (try dsimp only at hSw); go_simp; try (with_reducible rfl))
  try simp only [Act.put, List.setIfInBounds_toArray, List.set_cons_zero, List.set_cons_succ]
  refine wpAnyH_take (i := 7) (oi := ({ dst := some 103, op := Op.fieldAddr 26 (Operand.tmp 1) 1, type := 0, pos := "ref.go:461", after := #[], guard := none } : Oper)) (v := ?vq32) rfl (by kernel_rfl) (by kernel_rfl) (by kernel_rfl) (fun _ _ _ h => h) (Or.inl ⟨by rfl, ?hq32⟩) (by assumption) ?rq32
  case hq32 => (intro w hSw; (try dsimp only at hSw); go_simp; try (with_reducible rfl))
  try simp only [Act.put, List.setIfInBounds_toArray, List.set_cons_zero, List.set_cons_succ]
  refine wpAnyH_take (i := 8) (oi := ({ dst := some 104, op := Op.load 3 (Operand.tmp 103), type := 3, pos := "ref.go:461", after := #[{ on := 7, ground := Ground.data }], guard := none } : Oper)) (v := ?vq33) rfl (by kernel_rfl) (by kernel_rfl) (by kernel_rfl) (fun _ _ _ h => h) (Or.inl ⟨by rfl, ?hq33⟩) (by assumption) ?rq33
  case hq33 => (intro w hSw; (try dsimp only at hSw); go_simp; try (with_reducible rfl))
  try simp only [Act.put, List.setIfInBounds_toArray, List.set_cons_zero, List.set_cons_succ]
  refine wpAnyH_take (i := 12) (oi := ({ dst := some 108, op := Op.fieldAddr 26 (Operand.tmp 1) 7, type := 0, pos := "ref.go:461", after := #[], guard := none } : Oper)) (v := ?vq34) rfl (by kernel_rfl) (by kernel_rfl) (by kernel_rfl) (fun _ _ _ h => h) (Or.inl ⟨by rfl, ?hq34⟩) (by assumption) ?rq34
  case hq34 => (intro w hSw; (try dsimp only at hSw); go_simp; try (with_reducible rfl))
  try simp only [Act.put, List.setIfInBounds_toArray, List.set_cons_zero, List.set_cons_succ]
  refine wpAnyH_take (i := 13) (oi := ({ dst := some 109, op := Op.load 24 (Operand.tmp 108), type := 24, pos := "ref.go:461", after := #[{ on := 12, ground := Ground.data }], guard := none } : Oper)) (v := ?vq35) rfl (by kernel_rfl) (by kernel_rfl) (by kernel_rfl) (fun _ _ _ h => h) (Or.inl ⟨by rfl, ?hq35⟩) (by assumption) ?rq35
  case hq35 => (intro w hSw; (try dsimp only at hSw); go_simp; try (with_reducible rfl))
  try simp only [Act.put, List.setIfInBounds_toArray, List.set_cons_zero, List.set_cons_succ]
  refine wpAnyH_take (i := 14) (oi := ({ dst := some 110, op := Op.indexAddr 24 (Operand.tmp 109) (Operand.const (Value.int IntKind.i64 1)), type := 0, pos := "ref.go:461", after := #[{ on := 13, ground := Ground.data }], guard := none } : Oper)) (v := ?vq36) rfl (by kernel_rfl) (by kernel_rfl) (by kernel_rfl) (fun _ _ _ h => h) (Or.inl ⟨by rfl, ?hq36⟩) (by assumption) ?rq36
  case hq36 => (intro w hSw; (try dsimp only at hSw); go_simp; try (with_reducible rfl))
  try simp only [Act.put, List.setIfInBounds_toArray, List.set_cons_zero, List.set_cons_succ]
  refine wpAnyH_take (i := 15) (oi := ({ dst := some 111, op := Op.load 26 (Operand.tmp 110), type := 26, pos := "ref.go:461", after := #[{ on := 14, ground := Ground.data }], guard := none } : Oper)) (v := ?vq37) rfl (by kernel_rfl) (by kernel_rfl) (by kernel_rfl) (fun _ _ _ h => h) (Or.inl ⟨by rfl, ?hq37⟩) (by assumption) ?rq37
  case hq37 => (intro w hSw; (try dsimp only at hSw); go_simp; try (with_reducible rfl))
  try simp only [Act.put, List.setIfInBounds_toArray, List.set_cons_zero, List.set_cons_succ]
  refine wpAnyH_take (i := 16) (oi := ({ dst := some 112, op := Op.move (Operand.tmp 3), type := 3, pos := "ref.go:461", after := #[], guard := none } : Oper)) (v := ?vq38) rfl (by kernel_rfl) (by kernel_rfl) (by kernel_rfl) (fun _ _ _ h => h) (Or.inl ⟨by rfl, ?hq38⟩) (by assumption) ?rq38
  case hq38 => (intro w hSw; (try dsimp only at hSw); go_simp; try (with_reducible rfl))
  try simp only [Act.put, List.setIfInBounds_toArray, List.set_cons_zero, List.set_cons_succ]
  refine wpAnyH_take (i := 17) (oi := ({ dst := some 113, op := Op.binOp BinOp.add 3 (Operand.tmp 112) (Operand.const (Value.int IntKind.i64 1)) 3, type := 3, pos := "ref.go:461", after := #[{ on := 16, ground := Ground.data }], guard := none } : Oper)) (v := ?vq39) rfl (by kernel_rfl) (by kernel_rfl) (by kernel_rfl) (fun _ _ _ h => h) (Or.inl ⟨by rfl, ?hq39⟩) (by assumption) ?rq39
  case hq39 => (intro w hSw; (try dsimp only at hSw); go_simp; try (with_reducible rfl))
  try simp only [Act.put, List.setIfInBounds_toArray, List.set_cons_zero, List.set_cons_succ]
  refine wpAnyH_ready (rs := [5]) (by kernel_rfl) (by simp) ?_
  refine AllReadyH.cons (o := ({ dst := some 101, op := Op.call { callee := Callee.value (Operand.func 29), args := #[Operand.tmp 99, Operand.tmp 100], argTypes := #[26, 3] }, type := 9, pos := "ref.go:461", after := #[{ on := 3, ground := Ground.data }, { on := 4, ground := Ground.data }], guard := none } : Oper)) rfl ?a47 AllReadyH.nil
  case a47 =>
    intro K hK
    go_simp
    refine (HOa.out _ ((Below.refl w2.heap.size w2).drew)).mono ?_
    rintro e w3 ⟨hb3, s1, rfl, hs1⟩
    have hc1 : ¬ 9223372036854775807 < s1.size + 1 := by omega
    have HB3 : Asd (Below w2.heap.size w2 w3) := Asd.mk (below_step ((Below.refl w2.heap.size w2).drew) hb3)
    go_wp2_with fail
    refine hK.out _ _ (HS.out _ HB3.out) (fun hHeld => ?_)
    clear hK K
    try simp only [Act.put, List.setIfInBounds_toArray, List.set_cons_zero, List.set_cons_succ]
    refine wpAnyH_take (i := 6) (oi := ({ dst := some 102, op := Op.binOp BinOp.add 9 (Operand.tmp 101) (Operand.const (Value.string { data := #[32] })) 9, type := 9, pos := "ref.go:461", after := #[{ on := 5, ground := Ground.data }], guard := none } : Oper)) (v := ?vq42) rfl (by kernel_rfl) (by kernel_rfl) (by kernel_rfl) (fun _ _ _ h => h) (Or.inl ⟨by rfl, ?hq42⟩) (by assumption) ?rq42
    case hq42 => (intro w hSw; (try dsimp only at hSw); go_simp; try (with_reducible rfl))
    try simp only [Act.put, List.setIfInBounds_toArray, List.set_cons_zero, List.set_cons_succ]
    refine wpAnyH_ready (rs := [9]) (by kernel_rfl) (by simp) ?_
    refine AllReadyH.cons (o := ({ dst := some 105, op := Op.call { callee := Callee.value (Operand.func 28), args := #[Operand.tmp 104], argTypes := #[3] }, type := 9, pos := "ref.go:461", after := #[{ on := 8, ground := Ground.data }, { on := 5, ground := Ground.chain }], guard := none } : Oper)) rfl ?a46 AllReadyH.nil
    case a46 =>
      intro K hK
      go_simp
      refine (HSG.out _).mono ?_
      rintro e w4 ⟨hb4, s2, rfl, hs2⟩
      have hc2 : ¬ 9223372036854775807 < s1.size + 1 + s2.size := by omega
      have hc3 : ¬ 9223372036854775807 < s1.size + 1 + s2.size + 1 := by omega
      have HB4 : Asd (Below w2.heap.size w2 w4) := Asd.mk (below_step (HB3.out) hb4)
      go_wp2_with fail
      refine hK.out _ _ (HS.out _ HB4.out) (fun hHeld => ?_)
      clear hK K
      try simp only [Act.put, List.setIfInBounds_toArray, List.set_cons_zero, List.set_cons_succ]
      refine wpAnyH_take (i := 10) (oi := ({ dst := some 106, op := Op.binOp BinOp.add 9 (Operand.tmp 102) (Operand.tmp 105) 9, type := 9, pos := "ref.go:461", after := #[{ on := 6, ground := Ground.data }, { on := 9, ground := Ground.data }], guard := none } : Oper)) (v := ?vq43) rfl (by kernel_rfl) (by kernel_rfl) (by kernel_rfl) (fun _ _ _ h => h) (Or.inl ⟨by rfl, ?hq43⟩) (by assumption) ?rq43
      case hq43 => (intro w hSw; (try dsimp only at hSw); go_simp; try (with_reducible rfl))
      try simp only [Act.put, List.setIfInBounds_toArray, List.set_cons_zero, List.set_cons_succ]
      refine wpAnyH_take (i := 11) (oi := ({ dst := some 107, op := Op.binOp BinOp.add 9 (Operand.tmp 106) (Operand.const (Value.string { data := #[32] })) 9, type := 9, pos := "ref.go:461", after := #[{ on := 10, ground := Ground.data }], guard := none } : Oper)) (v := ?vq44) rfl (by kernel_rfl) (by kernel_rfl) (by kernel_rfl) (fun _ _ _ h => h) (Or.inl ⟨by rfl, ?hq44⟩) (by assumption) ?rq44
      case hq44 => (intro w hSw; (try dsimp only at hSw); go_simp; try (with_reducible rfl))
      try simp only [Act.put, List.setIfInBounds_toArray, List.set_cons_zero, List.set_cons_succ]
      refine wpAnyH_ready (rs := [18]) (by kernel_rfl) (by simp) ?_
      refine AllReadyH.cons (o := ({ dst := some 114, op := Op.call { callee := Callee.value (Operand.func 29), args := #[Operand.tmp 111, Operand.tmp 113], argTypes := #[26, 3] }, type := 9, pos := "ref.go:461", after := #[{ on := 15, ground := Ground.data }, { on := 17, ground := Ground.data }, { on := 9, ground := Ground.chain }], guard := none } : Oper)) rfl ?a45 AllReadyH.nil
      case a45 =>
        intro K hK
        go_simp
        refine (HOb.out _ (HB4.out)).mono ?_
        rintro e w5 ⟨hb5, s3, rfl, hs3⟩
        have hc4 : ¬ 9223372036854775807 < s1.size + 1 + s2.size + 1 + s3.size := by omega
        have HB5 : Asd (Below w2.heap.size w2 w5) := Asd.mk (below_step (HB4.out) hb5)
        go_wp2_with fail
        refine hK.out _ _ (HS.out _ HB5.out) (fun hHeld => ?_)
        clear hK K
        try simp only [Act.put, List.setIfInBounds_toArray, List.set_cons_zero, List.set_cons_succ]
        refine wpAnyH_take (i := 19) (oi := ({ dst := some 115, op := Op.binOp BinOp.add 9 (Operand.tmp 107) (Operand.tmp 114) 9, type := 9, pos := "ref.go:461", after := #[{ on := 11, ground := Ground.data }, { on := 18, ground := Ground.data }], guard := none } : Oper)) (v := ?vq40) rfl (by kernel_rfl) (by kernel_rfl) (by kernel_rfl) (fun _ _ _ h => h) (Or.inl ⟨by rfl, ?hq40⟩) (by assumption) ?rq40
        case hq40 => (intro w hSw; (try dsimp only at hSw); go_simp; try (with_reducible rfl))
        try simp only [Act.put, List.setIfInBounds_toArray, List.set_cons_zero, List.set_cons_succ]
        refine wpAnyH_take (i := 20) (oi := ({ dst := some 2, op := Op.assign (Operand.tmp 115), type := 9, pos := "ref.go:461", after := #[{ on := 19, ground := Ground.data }, { on := 18, ground := Ground.chain }, { on := 0, ground := Ground.phase }, { on := 1, ground := Ground.phase }, { on := 2, ground := Ground.phase }, { on := 3, ground := Ground.phase }, { on := 4, ground := Ground.phase }, { on := 5, ground := Ground.phase }, { on := 6, ground := Ground.phase }, { on := 7, ground := Ground.phase }, { on := 8, ground := Ground.phase }, { on := 9, ground := Ground.phase }, { on := 10, ground := Ground.phase }, { on := 11, ground := Ground.phase }, { on := 12, ground := Ground.phase }, { on := 13, ground := Ground.phase }, { on := 14, ground := Ground.phase }, { on := 15, ground := Ground.phase }, { on := 16, ground := Ground.phase }, { on := 17, ground := Ground.phase }, { on := 18, ground := Ground.phase }, { on := 19, ground := Ground.phase }], guard := none } : Oper)) (v := ?vq41) rfl (by kernel_rfl) (by kernel_rfl) (by kernel_rfl) (fun _ _ _ h => h) (Or.inl ⟨by rfl, ?hq41⟩) (by assumption) ?rq41
        case hq41 => (intro w hSw; (try dsimp only at hSw); go_simp; try (with_reducible rfl))
        try simp only [Act.put, List.setIfInBounds_toArray, List.set_cons_zero, List.set_cons_succ]
        refine wpAnyH_done (by kernel_rfl) ?_ _
        clear hHeld
        go_wp2
        go_ret
        refine ⟨chain_below HB2.out HB5.out HB2.out.size, _, ret_eq rfl, ?_⟩
        rw [ByteArray.size_append, ByteArray.size_append, ByteArray.size_append, ByteArray.size_append]
        show s1.size + 1 + s2.size + 1 + s3.size ≤ _
        omega
set_option maxRecDepth 100000 in
theorem prn_binL  (v : Vl) (tb nm : List UInt8) (col tp : Int) (A : Option Addr) (c : Nat) (w : World) (L : Int) (hl0 : (L == 0) = false) (hl4 : (L == 4) = false) (hlw : IntKind.i64.wrap (L + 1) = L + 1) (hl0n : ¬ L = 0) (hl4n : ¬ L = 4) (k : Nat) (hk : 3 ≤ k) (hk' : k ≤ 16) (hL : pairLn k = L) (a b : Ex) (hNa : bulkX a + bulkX b ≤ 1048576) (ha : PrnOK a) (hb : PrnOK b) (Q : Nat → Prop) (hh : Held Q w [a, b] (.slice A 2 c)):
    Calls Tryz.prog 13 #[.agg #[.int .i64 4, .int .i64 ((k : Nat) : Int), .int .i64 v.kind, .int .i64 v.int, .string ⟨v.text.toArray⟩, .string ⟨tb.toArray⟩, .string ⟨nm.toArray⟩, .int .i64 col, .int .i64 tp, .slice A 2 c]] w (TxtR (30 * (bulkX a + bulkX b) + 10) w) := by
  have HLVL : ∀ W, Calls Tryz.prog 26 #[.agg #[.int .i64 4, .int .i64 ((k : Nat) : Int), .int .i64 v.kind, .int .i64 v.int, .string ⟨v.text.toArray⟩, .string ⟨tb.toArray⟩, .string ⟨nm.toArray⟩, .int .i64 col, .int .i64 tp, .slice A 2 c]] W (LineR (L) W) := fun W => by
    have h := lvl_any v.kind v.int col tp ⟨v.text.toArray⟩ ⟨tb.toArray⟩ ⟨nm.toArray⟩ A c W 4 ((k : Nat) : Int) 2
    rw [show lnG (4) ((k : Nat) : Int) 2 = L from bin_ln hk hk' hL] at h
    exact h
  have HH := Asd.mk hh
  have HPa := Asd.mk (roperand_calls a (by omega) ha L)
  have HPb := Asd.mk (roperand_calls b (by omega) hb (L + 1))
  have HSG := Asd.mk (fun W => rsign_calls k (by omega) hk' W)
  clear hh ha hb hL hk hk'
  have HX := Asd.mk (blk_new w (.cells #[.int .i64 4, .int .i64 ((k : Nat) : Int), .int .i64 v.kind, .int .i64 v.int, .string ⟨v.text.toArray⟩, .string ⟨tb.toArray⟩, .string ⟨nm.toArray⟩, .int .i64 col, .int .i64 tp, .slice A 2 c] 26 (0, 0)))
  have HB : Asd (Below w.heap.size w (w.alloc (.cells #[.int .i64 4, .int .i64 ((k : Nat) : Int), .int .i64 v.kind, .int .i64 v.int, .string ⟨v.text.toArray⟩, .string ⟨tb.toArray⟩, .string ⟨nm.toArray⟩, .int .i64 col, .int .i64 tp, .slice A 2 c] 26 (0, 0)))) := Asd.mk (below_alloc (Below.refl _ _) _)
  have HLV : Asd (∀ W, Calls Tryz.prog 26 #[.agg #[.int .i64 4, .int .i64 ((k : Nat) : Int), .int .i64 v.kind, .int .i64 v.int, .string ⟨v.text.toArray⟩, .string ⟨tb.toArray⟩, .string ⟨nm.toArray⟩, .int .i64 col, .int .i64 tp, .slice A 2 c]] W (LineR (L) W)) := Asd.mk (fun W => HLVL W)
  clear HLVL
  go_enter Tryz.func13, Tryz.ntmps13
  go_upto_region 1 with fail
  generalize w.alloc (.cells #[.int .i64 4, .int .i64 ((k : Nat) : Int), .int .i64 v.kind, .int .i64 v.int, .string ⟨v.text.toArray⟩, .string ⟨tb.toArray⟩, .string ⟨nm.toArray⟩, .int .i64 col, .int .i64 tp, .slice A 2 c] 26 (0, 0)) = w1 at HX HB ⊢
  have f0 := (blk_cell HX.out 0).trans rfl
  have f1 := (blk_cell HX.out 1).trans rfl
  have f2 := (blk_cell HX.out 2).trans rfl
  have f3 := (blk_cell HX.out 3).trans rfl
  have f4 := (blk_cell HX.out 4).trans rfl
  have f5 := (blk_cell HX.out 5).trans rfl
  have f6 := (blk_cell HX.out 6).trans rfl
  have f7 := (blk_cell HX.out 7).trans rfl
  have f8 := (blk_cell HX.out 8).trans rfl
  have f9 := (blk_cell HX.out 9).trans rfl
  go_wp2_with fail
  refine (HLV.out _).mono ?_
  rintro e w2 ⟨rfl, hb2⟩
  have HB2 := Asd.mk (below_step HB.out hb2)
  have HX2 := Asd.mk (blk_below hb2 HX.out)
  clear f0 f1 f2 f3 f4 f5 f6 f7 f8 f9 hb2
  have f0 := (blk_cell HX2.out 0).trans rfl
  have f1 := (blk_cell HX2.out 1).trans rfl
  have f2 := (blk_cell HX2.out 2).trans rfl
  have f3 := (blk_cell HX2.out 3).trans rfl
  have f4 := (blk_cell HX2.out 4).trans rfl
  have f5 := (blk_cell HX2.out 5).trans rfl
  have f6 := (blk_cell HX2.out 6).trans rfl
  have f7 := (blk_cell HX2.out 7).trans rfl
  have f8 := (blk_cell HX2.out 8).trans rfl
  have f9 := (blk_cell HX2.out 9).trans rfl
  obtain ⟨g0, o0, A1, n0, c1, he0, hr0, hh0⟩ := held_at (held_below HH.out HB2.out) 0 (by simp)
  obtain ⟨A0', c0', hx0⟩ := held_len hh0
  have hn0 : n0 = a.args.length := by injection hx0
  subst hn0
  clear hx0 A0' c0'
  simp only [List.getElem_cons_zero] at hr0 hh0
  have he0' := he0
  obtain ⟨g1, o1, A2, n1, c2, he1', hr1, hh1⟩ := held_at (held_below HH.out HB2.out) 1 (by simp)
  obtain ⟨A1', c1', hx1⟩ := held_len hh1
  have hn1 : n1 = b.args.length := by injection hx1
  subst hn1
  clear hx1 A1' c1'
  simp only [List.getElem_cons_succ, List.getElem_cons_zero] at hr1 hh1
  subst he0
  injection he1' with he2
  injection he2 with he3 he4
  subst he3 he4
  clear he0'
  simp only [Nat.zero_mul, Nat.add_zero] at hr0
  simp only [Nat.one_mul, Nat.add_assoc, Nat.reduceAdd] at hr1
  have y0 : w2.cell? ⟨g0, o0, none⟩ = some (.int .i64 a.kind) := hr0 0 (by omega)
  have y1 : w2.cell? ⟨g0, o0 + 1, none⟩ = some (.int .i64 a.op) := hr0 1 (by omega)
  have y2 : w2.cell? ⟨g0, o0 + 2, none⟩ = some (.int .i64 a.v.kind) := hr0 2 (by omega)
  have y3 : w2.cell? ⟨g0, o0 + 3, none⟩ = some (.int .i64 a.v.int) := hr0 3 (by omega)
  have y4 : w2.cell? ⟨g0, o0 + 4, none⟩ = some (.string ⟨a.v.text.toArray⟩) := hr0 4 (by omega)
  have y5 : w2.cell? ⟨g0, o0 + 5, none⟩ = some (.string ⟨a.table.toArray⟩) := hr0 5 (by omega)
  have y6 : w2.cell? ⟨g0, o0 + 6, none⟩ = some (.string ⟨a.name.toArray⟩) := hr0 6 (by omega)
  have y7 : w2.cell? ⟨g0, o0 + 7, none⟩ = some (.int .i64 a.col) := hr0 7 (by omega)
  have y8 : w2.cell? ⟨g0, o0 + 8, none⟩ = some (.int .i64 a.ty) := hr0 8 (by omega)
  have y9 : w2.cell? ⟨g0, o0 + 9, none⟩ = some (.slice A1 a.args.length c1) := hr0 9 (by omega)
  have z0 : w2.cell? ⟨g0, o0 + 10, none⟩ = some (.int .i64 b.kind) := hr1 0 (by omega)
  have z1 : w2.cell? ⟨g0, o0 + 11, none⟩ = some (.int .i64 b.op) := hr1 1 (by omega)
  have z2 : w2.cell? ⟨g0, o0 + 12, none⟩ = some (.int .i64 b.v.kind) := hr1 2 (by omega)
  have z3 : w2.cell? ⟨g0, o0 + 13, none⟩ = some (.int .i64 b.v.int) := hr1 3 (by omega)
  have z4 : w2.cell? ⟨g0, o0 + 14, none⟩ = some (.string ⟨b.v.text.toArray⟩) := hr1 4 (by omega)
  have z5 : w2.cell? ⟨g0, o0 + 15, none⟩ = some (.string ⟨b.table.toArray⟩) := hr1 5 (by omega)
  have z6 : w2.cell? ⟨g0, o0 + 16, none⟩ = some (.string ⟨b.name.toArray⟩) := hr1 6 (by omega)
  have z7 : w2.cell? ⟨g0, o0 + 17, none⟩ = some (.int .i64 b.col) := hr1 7 (by omega)
  have z8 : w2.cell? ⟨g0, o0 + 18, none⟩ = some (.int .i64 b.ty) := hr1 8 (by omega)
  have z9 : w2.cell? ⟨g0, o0 + 19, none⟩ = some (.slice A2 b.args.length c2) := hr1 9 (by omega)
  have hgl : g0 < w2.heap.size := World.block_lt_of_cell? w2 _ y0
  have HOa : Asd (∀ W, Below w2.heap.size w2 W → Calls Tryz.prog 29 #[(.agg #[.int .i64 a.kind, .int .i64 a.op, .int .i64 a.v.kind, .int .i64 a.v.int, .string ⟨a.v.text.toArray⟩, .string ⟨a.table.toArray⟩, .string ⟨a.name.toArray⟩, .int .i64 a.col, .int .i64 a.ty, .slice A1 a.args.length c1]), .int .i64 L] W (TxtR (30 * bulkX a - 2) W)) := Asd.mk fun W hb => HPa.out Q A1 c1 W (held_below hh0 hb)
  have HOb : Asd (∀ W, Below w2.heap.size w2 W → Calls Tryz.prog 29 #[(.agg #[.int .i64 b.kind, .int .i64 b.op, .int .i64 b.v.kind, .int .i64 b.v.int, .string ⟨b.v.text.toArray⟩, .string ⟨b.table.toArray⟩, .string ⟨b.name.toArray⟩, .int .i64 b.col, .int .i64 b.ty, .slice A2 b.args.length c2]), .int .i64 (L + 1)] W (TxtR (30 * bulkX b - 2) W)) := Asd.mk fun W hb => HPb.out Q A2 c2 W (held_below hh1 hb)
  unfold TxtR at HOa HOb HSG
  have HS : Asd (∀ w', Below w2.heap.size w2 w' → w'.cell? ⟨w.heap.size, 1, none⟩ = some (.int .i64 ((k : Nat) : Int)) ∧ w'.cell? ⟨w.heap.size, 9, none⟩ = some (.slice (some ⟨g0, o0, none⟩) 2 c) ∧ w'.cell? ⟨g0, o0, none⟩ = some (.int .i64 a.kind) ∧ w'.cell? ⟨g0, o0 + 1, none⟩ = some (.int .i64 a.op) ∧ w'.cell? ⟨g0, o0 + 2, none⟩ = some (.int .i64 a.v.kind) ∧ w'.cell? ⟨g0, o0 + 3, none⟩ = some (.int .i64 a.v.int) ∧ w'.cell? ⟨g0, o0 + 4, none⟩ = some (.string ⟨a.v.text.toArray⟩) ∧ w'.cell? ⟨g0, o0 + 5, none⟩ = some (.string ⟨a.table.toArray⟩) ∧ w'.cell? ⟨g0, o0 + 6, none⟩ = some (.string ⟨a.name.toArray⟩) ∧ w'.cell? ⟨g0, o0 + 7, none⟩ = some (.int .i64 a.col) ∧ w'.cell? ⟨g0, o0 + 8, none⟩ = some (.int .i64 a.ty) ∧ w'.cell? ⟨g0, o0 + 9, none⟩ = some (.slice A1 a.args.length c1) ∧ w'.cell? ⟨g0, o0 + 10, none⟩ = some (.int .i64 b.kind) ∧ w'.cell? ⟨g0, o0 + 11, none⟩ = some (.int .i64 b.op) ∧ w'.cell? ⟨g0, o0 + 12, none⟩ = some (.int .i64 b.v.kind) ∧ w'.cell? ⟨g0, o0 + 13, none⟩ = some (.int .i64 b.v.int) ∧ w'.cell? ⟨g0, o0 + 14, none⟩ = some (.string ⟨b.v.text.toArray⟩) ∧ w'.cell? ⟨g0, o0 + 15, none⟩ = some (.string ⟨b.table.toArray⟩) ∧ w'.cell? ⟨g0, o0 + 16, none⟩ = some (.string ⟨b.name.toArray⟩) ∧ w'.cell? ⟨g0, o0 + 17, none⟩ = some (.int .i64 b.col) ∧ w'.cell? ⟨g0, o0 + 18, none⟩ = some (.int .i64 b.ty) ∧ w'.cell? ⟨g0, o0 + 19, none⟩ = some (.slice A2 b.args.length c2) ∧ Below w2.heap.size w2 w') := Asd.mk fun w' hb =>
    ⟨(hb.cell (blk_lt HX2.out)).trans f1, (hb.cell (blk_lt HX2.out)).trans f9, (hb.cell hgl).trans y0, (hb.cell hgl).trans y1, (hb.cell hgl).trans y2, (hb.cell hgl).trans y3, (hb.cell hgl).trans y4, (hb.cell hgl).trans y5, (hb.cell hgl).trans y6, (hb.cell hgl).trans y7, (hb.cell hgl).trans y8, (hb.cell hgl).trans y9, (hb.cell hgl).trans z0, (hb.cell hgl).trans z1, (hb.cell hgl).trans z2, (hb.cell hgl).trans z3, (hb.cell hgl).trans z4, (hb.cell hgl).trans z5, (hb.cell hgl).trans z6, (hb.cell hgl).trans z7, (hb.cell hgl).trans z8, (hb.cell hgl).trans z9, hb⟩
  clear hr0 hh0 hr1 hh1 HH HPa HPb HX HB HLV
  have hap := bulkX_pos a
  have hbp := bulkX_pos b
  have hab : 30 * bulkX a - 2 ≤ 31457280 := by omega
  have hbb : 30 * bulkX b - 2 ≤ 31457280 := by omega
  go_upto_region 27 with fail
  clear f0 f1 f2 f3 f4 f5 f6 f7 f8 f9 y0 y1 y2 y3 y4 y5 y6 y7 y8 y9 z0 z1 z2 z3 z4 z5 z6 z7 z8 z9
  refine wp_region_held_drew (S := fun w' => w'.cell? ⟨w.heap.size, 1, none⟩ = some (.int .i64 ((k : Nat) : Int)) ∧ w'.cell? ⟨w.heap.size, 9, none⟩ = some (.slice (some ⟨g0, o0, none⟩) 2 c) ∧ w'.cell? ⟨g0, o0, none⟩ = some (.int .i64 a.kind) ∧ w'.cell? ⟨g0, o0 + 1, none⟩ = some (.int .i64 a.op) ∧ w'.cell? ⟨g0, o0 + 2, none⟩ = some (.int .i64 a.v.kind) ∧ w'.cell? ⟨g0, o0 + 3, none⟩ = some (.int .i64 a.v.int) ∧ w'.cell? ⟨g0, o0 + 4, none⟩ = some (.string ⟨a.v.text.toArray⟩) ∧ w'.cell? ⟨g0, o0 + 5, none⟩ = some (.string ⟨a.table.toArray⟩) ∧ w'.cell? ⟨g0, o0 + 6, none⟩ = some (.string ⟨a.name.toArray⟩) ∧ w'.cell? ⟨g0, o0 + 7, none⟩ = some (.int .i64 a.col) ∧ w'.cell? ⟨g0, o0 + 8, none⟩ = some (.int .i64 a.ty) ∧ w'.cell? ⟨g0, o0 + 9, none⟩ = some (.slice A1 a.args.length c1) ∧ w'.cell? ⟨g0, o0 + 10, none⟩ = some (.int .i64 b.kind) ∧ w'.cell? ⟨g0, o0 + 11, none⟩ = some (.int .i64 b.op) ∧ w'.cell? ⟨g0, o0 + 12, none⟩ = some (.int .i64 b.v.kind) ∧ w'.cell? ⟨g0, o0 + 13, none⟩ = some (.int .i64 b.v.int) ∧ w'.cell? ⟨g0, o0 + 14, none⟩ = some (.string ⟨b.v.text.toArray⟩) ∧ w'.cell? ⟨g0, o0 + 15, none⟩ = some (.string ⟨b.table.toArray⟩) ∧ w'.cell? ⟨g0, o0 + 16, none⟩ = some (.string ⟨b.name.toArray⟩) ∧ w'.cell? ⟨g0, o0 + 17, none⟩ = some (.int .i64 b.col) ∧ w'.cell? ⟨g0, o0 + 18, none⟩ = some (.int .i64 b.ty) ∧ w'.cell? ⟨g0, o0 + 19, none⟩ = some (.slice A2 b.args.length c2) ∧ Below w2.heap.size w2 w') (by kernel_rfl) (HS.out _ (Below.refl _ _).drew) (fun hHeld => ?_)
  refine wpAnyH_take (i := 0) (oi := ({ dst := some 96, op := Op.fieldAddr 26 (Operand.tmp 1) 7, type := 0, pos := "ref.go:461", after := #[], guard := none } : Oper)) (v := ?vq27) rfl (by kernel_rfl) (by kernel_rfl) (by kernel_rfl) (fun _ _ _ h => h) (Or.inl ⟨by rfl, ?hq27⟩) (by assumption) ?rq27
  case hq27 => (intro w hSw; (try dsimp only at hSw); go_simp; try (with_reducible rfl))
  try simp only [Act.put, List.setIfInBounds_toArray, List.set_cons_zero, List.set_cons_succ]
  refine wpAnyH_take (i := 1) (oi := ({ dst := some 97, op := Op.load 24 (Operand.tmp 96), type := 24, pos := "ref.go:461", after := #[{ on := 0, ground := Ground.data }], guard := none } : Oper)) (v := ?vq28) rfl (by kernel_rfl) (by kernel_rfl) (by kernel_rfl) (fun _ _ _ h => h) (Or.inl ⟨by rfl, ?hq28⟩) (by assumption) ?rq28
  case hq28 => (intro w hSw; (try dsimp only at hSw); go_simp; try (with_reducible rfl))
  try simp only [Act.put, List.setIfInBounds_toArray, List.set_cons_zero, List.set_cons_succ]
  refine wpAnyH_take (i := 2) (oi := ({ dst := some 98, op := Op.indexAddr 24 (Operand.tmp 97) (Operand.const (Value.int IntKind.i64 0)), type := 0, pos := "ref.go:461", after := #[{ on := 1, ground := Ground.data }], guard := none } : Oper)) (v := ?vq29) rfl (by kernel_rfl) (by kernel_rfl) (by kernel_rfl) (fun _ _ _ h => h) (Or.inl ⟨by rfl, ?hq29⟩) (by assumption) ?rq29
  case hq29 => (intro w hSw; (try dsimp only at hSw); go_simp; try (with_reducible rfl))
  try simp only [Act.put, List.setIfInBounds_toArray, List.set_cons_zero, List.set_cons_succ]
  refine wpAnyH_take (i := 3) (oi := ({ dst := some 99, op := Op.load 26 (Operand.tmp 98), type := 26, pos := "ref.go:461", after := #[{ on := 2, ground := Ground.data }], guard := none } : Oper)) (v := ?vq30) rfl (by kernel_rfl) (by kernel_rfl) (by kernel_rfl) (fun _ _ _ h => h) (Or.inl ⟨by rfl, ?hq30⟩) (by assumption) ?rq30
  case hq30 => (intro w hSw; (try dsimp only at hSw); go_simp; try (with_reducible rfl))
  try simp only [Act.put, List.setIfInBounds_toArray, List.set_cons_zero, List.set_cons_succ]
  refine wpAnyH_take (i := 4) (oi := ({ dst := some 100, op := Op.move (Operand.tmp 5), type := 3, pos := "ref.go:461", after := #[], guard := none } : Oper)) (v := ?vq31) rfl (by kernel_rfl) (by kernel_rfl) (by kernel_rfl) (fun _ _ _ h => h) (Or.inl ⟨by rfl, ?hq31⟩) (by assumption) ?rq31
  case hq31 => (intro w hSw; (try dsimp only at hSw); go_simp; try (with_reducible rfl))
  try simp only [Act.put, List.setIfInBounds_toArray, List.set_cons_zero, List.set_cons_succ]
  refine wpAnyH_take (i := 7) (oi := ({ dst := some 103, op := Op.fieldAddr 26 (Operand.tmp 1) 1, type := 0, pos := "ref.go:461", after := #[], guard := none } : Oper)) (v := ?vq32) rfl (by kernel_rfl) (by kernel_rfl) (by kernel_rfl) (fun _ _ _ h => h) (Or.inl ⟨by rfl, ?hq32⟩) (by assumption) ?rq32
  case hq32 => (intro w hSw; (try dsimp only at hSw); go_simp; try (with_reducible rfl))
  try simp only [Act.put, List.setIfInBounds_toArray, List.set_cons_zero, List.set_cons_succ]
  refine wpAnyH_take (i := 8) (oi := ({ dst := some 104, op := Op.load 3 (Operand.tmp 103), type := 3, pos := "ref.go:461", after := #[{ on := 7, ground := Ground.data }], guard := none } : Oper)) (v := ?vq33) rfl (by kernel_rfl) (by kernel_rfl) (by kernel_rfl) (fun _ _ _ h => h) (Or.inl ⟨by rfl, ?hq33⟩) (by assumption) ?rq33
  case hq33 => (intro w hSw; (try dsimp only at hSw); go_simp; try (with_reducible rfl))
  try simp only [Act.put, List.setIfInBounds_toArray, List.set_cons_zero, List.set_cons_succ]
  refine wpAnyH_take (i := 12) (oi := ({ dst := some 108, op := Op.fieldAddr 26 (Operand.tmp 1) 7, type := 0, pos := "ref.go:461", after := #[], guard := none } : Oper)) (v := ?vq34) rfl (by kernel_rfl) (by kernel_rfl) (by kernel_rfl) (fun _ _ _ h => h) (Or.inl ⟨by rfl, ?hq34⟩) (by assumption) ?rq34
  case hq34 => (intro w hSw; (try dsimp only at hSw); go_simp; try (with_reducible rfl))
  try simp only [Act.put, List.setIfInBounds_toArray, List.set_cons_zero, List.set_cons_succ]
  refine wpAnyH_take (i := 13) (oi := ({ dst := some 109, op := Op.load 24 (Operand.tmp 108), type := 24, pos := "ref.go:461", after := #[{ on := 12, ground := Ground.data }], guard := none } : Oper)) (v := ?vq35) rfl (by kernel_rfl) (by kernel_rfl) (by kernel_rfl) (fun _ _ _ h => h) (Or.inl ⟨by rfl, ?hq35⟩) (by assumption) ?rq35
  case hq35 => (intro w hSw; (try dsimp only at hSw); go_simp; try (with_reducible rfl))
  try simp only [Act.put, List.setIfInBounds_toArray, List.set_cons_zero, List.set_cons_succ]
  refine wpAnyH_take (i := 14) (oi := ({ dst := some 110, op := Op.indexAddr 24 (Operand.tmp 109) (Operand.const (Value.int IntKind.i64 1)), type := 0, pos := "ref.go:461", after := #[{ on := 13, ground := Ground.data }], guard := none } : Oper)) (v := ?vq36) rfl (by kernel_rfl) (by kernel_rfl) (by kernel_rfl) (fun _ _ _ h => h) (Or.inl ⟨by rfl, ?hq36⟩) (by assumption) ?rq36
  case hq36 => (intro w hSw; (try dsimp only at hSw); go_simp; try (with_reducible rfl))
  try simp only [Act.put, List.setIfInBounds_toArray, List.set_cons_zero, List.set_cons_succ]
  refine wpAnyH_take (i := 15) (oi := ({ dst := some 111, op := Op.load 26 (Operand.tmp 110), type := 26, pos := "ref.go:461", after := #[{ on := 14, ground := Ground.data }], guard := none } : Oper)) (v := ?vq37) rfl (by kernel_rfl) (by kernel_rfl) (by kernel_rfl) (fun _ _ _ h => h) (Or.inl ⟨by rfl, ?hq37⟩) (by assumption) ?rq37
  case hq37 => (intro w hSw; (try dsimp only at hSw); go_simp; try (with_reducible rfl))
  try simp only [Act.put, List.setIfInBounds_toArray, List.set_cons_zero, List.set_cons_succ]
  refine wpAnyH_take (i := 16) (oi := ({ dst := some 112, op := Op.move (Operand.tmp 3), type := 3, pos := "ref.go:461", after := #[], guard := none } : Oper)) (v := ?vq38) rfl (by kernel_rfl) (by kernel_rfl) (by kernel_rfl) (fun _ _ _ h => h) (Or.inl ⟨by rfl, ?hq38⟩) (by assumption) ?rq38
  case hq38 => (intro w hSw; (try dsimp only at hSw); go_simp; try (with_reducible rfl))
  try simp only [Act.put, List.setIfInBounds_toArray, List.set_cons_zero, List.set_cons_succ]
  refine wpAnyH_take (i := 17) (oi := ({ dst := some 113, op := Op.binOp BinOp.add 3 (Operand.tmp 112) (Operand.const (Value.int IntKind.i64 1)) 3, type := 3, pos := "ref.go:461", after := #[{ on := 16, ground := Ground.data }], guard := none } : Oper)) (v := ?vq39) rfl (by kernel_rfl) (by kernel_rfl) (by kernel_rfl) (fun _ _ _ h => h) (Or.inl ⟨by rfl, ?hq39⟩) (by assumption) ?rq39
  case hq39 => (intro w hSw; (try dsimp only at hSw); go_simp; try (with_reducible rfl))
  try simp only [Act.put, List.setIfInBounds_toArray, List.set_cons_zero, List.set_cons_succ]
  refine wpAnyH_ready (rs := [5]) (by kernel_rfl) (by simp) ?_
  refine AllReadyH.cons (o := ({ dst := some 101, op := Op.call { callee := Callee.value (Operand.func 29), args := #[Operand.tmp 99, Operand.tmp 100], argTypes := #[26, 3] }, type := 9, pos := "ref.go:461", after := #[{ on := 3, ground := Ground.data }, { on := 4, ground := Ground.data }], guard := none } : Oper)) rfl ?a47 AllReadyH.nil
  case a47 =>
    intro K hK
    go_simp
    refine (HOa.out _ ((Below.refl w2.heap.size w2).drew)).mono ?_
    rintro e w3 ⟨hb3, s1, rfl, hs1⟩
    have hc1 : ¬ 9223372036854775807 < s1.size + 1 := by omega
    have HB3 : Asd (Below w2.heap.size w2 w3) := Asd.mk (below_step ((Below.refl w2.heap.size w2).drew) hb3)
    go_wp2_with fail
    refine hK.out _ _ (HS.out _ HB3.out) (fun hHeld => ?_)
    clear hK K
    try simp only [Act.put, List.setIfInBounds_toArray, List.set_cons_zero, List.set_cons_succ]
    refine wpAnyH_take (i := 6) (oi := ({ dst := some 102, op := Op.binOp BinOp.add 9 (Operand.tmp 101) (Operand.const (Value.string { data := #[32] })) 9, type := 9, pos := "ref.go:461", after := #[{ on := 5, ground := Ground.data }], guard := none } : Oper)) (v := ?vq42) rfl (by kernel_rfl) (by kernel_rfl) (by kernel_rfl) (fun _ _ _ h => h) (Or.inl ⟨by rfl, ?hq42⟩) (by assumption) ?rq42
    case hq42 => (intro w hSw; (try dsimp only at hSw); go_simp; try (with_reducible rfl))
    try simp only [Act.put, List.setIfInBounds_toArray, List.set_cons_zero, List.set_cons_succ]
    refine wpAnyH_ready (rs := [9]) (by kernel_rfl) (by simp) ?_
    refine AllReadyH.cons (o := ({ dst := some 105, op := Op.call { callee := Callee.value (Operand.func 28), args := #[Operand.tmp 104], argTypes := #[3] }, type := 9, pos := "ref.go:461", after := #[{ on := 8, ground := Ground.data }, { on := 5, ground := Ground.chain }], guard := none } : Oper)) rfl ?a46 AllReadyH.nil
    case a46 =>
      intro K hK
      go_simp
      refine (HSG.out _).mono ?_
      rintro e w4 ⟨hb4, s2, rfl, hs2⟩
      have hc2 : ¬ 9223372036854775807 < s1.size + 1 + s2.size := by omega
      have hc3 : ¬ 9223372036854775807 < s1.size + 1 + s2.size + 1 := by omega
      have HB4 : Asd (Below w2.heap.size w2 w4) := Asd.mk (below_step (HB3.out) hb4)
      go_wp2_with fail
      refine hK.out _ _ (HS.out _ HB4.out) (fun hHeld => ?_)
      clear hK K
      try simp only [Act.put, List.setIfInBounds_toArray, List.set_cons_zero, List.set_cons_succ]
      refine wpAnyH_take (i := 10) (oi := ({ dst := some 106, op := Op.binOp BinOp.add 9 (Operand.tmp 102) (Operand.tmp 105) 9, type := 9, pos := "ref.go:461", after := #[{ on := 6, ground := Ground.data }, { on := 9, ground := Ground.data }], guard := none } : Oper)) (v := ?vq43) rfl (by kernel_rfl) (by kernel_rfl) (by kernel_rfl) (fun _ _ _ h => h) (Or.inl ⟨by rfl, ?hq43⟩) (by assumption) ?rq43
      case hq43 => (intro w hSw; (try dsimp only at hSw); go_simp; try (with_reducible rfl))
      try simp only [Act.put, List.setIfInBounds_toArray, List.set_cons_zero, List.set_cons_succ]
      refine wpAnyH_take (i := 11) (oi := ({ dst := some 107, op := Op.binOp BinOp.add 9 (Operand.tmp 106) (Operand.const (Value.string { data := #[32] })) 9, type := 9, pos := "ref.go:461", after := #[{ on := 10, ground := Ground.data }], guard := none } : Oper)) (v := ?vq44) rfl (by kernel_rfl) (by kernel_rfl) (by kernel_rfl) (fun _ _ _ h => h) (Or.inl ⟨by rfl, ?hq44⟩) (by assumption) ?rq44
      case hq44 => (intro w hSw; (try dsimp only at hSw); go_simp; try (with_reducible rfl))
      try simp only [Act.put, List.setIfInBounds_toArray, List.set_cons_zero, List.set_cons_succ]
      refine wpAnyH_ready (rs := [18]) (by kernel_rfl) (by simp) ?_
      refine AllReadyH.cons (o := ({ dst := some 114, op := Op.call { callee := Callee.value (Operand.func 29), args := #[Operand.tmp 111, Operand.tmp 113], argTypes := #[26, 3] }, type := 9, pos := "ref.go:461", after := #[{ on := 15, ground := Ground.data }, { on := 17, ground := Ground.data }, { on := 9, ground := Ground.chain }], guard := none } : Oper)) rfl ?a45 AllReadyH.nil
      case a45 =>
        intro K hK
        go_simp
        refine (HOb.out _ (HB4.out)).mono ?_
        rintro e w5 ⟨hb5, s3, rfl, hs3⟩
        have hc4 : ¬ 9223372036854775807 < s1.size + 1 + s2.size + 1 + s3.size := by omega
        have HB5 : Asd (Below w2.heap.size w2 w5) := Asd.mk (below_step (HB4.out) hb5)
        go_wp2_with fail
        refine hK.out _ _ (HS.out _ HB5.out) (fun hHeld => ?_)
        clear hK K
        try simp only [Act.put, List.setIfInBounds_toArray, List.set_cons_zero, List.set_cons_succ]
        refine wpAnyH_take (i := 19) (oi := ({ dst := some 115, op := Op.binOp BinOp.add 9 (Operand.tmp 107) (Operand.tmp 114) 9, type := 9, pos := "ref.go:461", after := #[{ on := 11, ground := Ground.data }, { on := 18, ground := Ground.data }], guard := none } : Oper)) (v := ?vq40) rfl (by kernel_rfl) (by kernel_rfl) (by kernel_rfl) (fun _ _ _ h => h) (Or.inl ⟨by rfl, ?hq40⟩) (by assumption) ?rq40
        case hq40 => (intro w hSw; (try dsimp only at hSw); go_simp; try (with_reducible rfl))
        try simp only [Act.put, List.setIfInBounds_toArray, List.set_cons_zero, List.set_cons_succ]
        refine wpAnyH_take (i := 20) (oi := ({ dst := some 2, op := Op.assign (Operand.tmp 115), type := 9, pos := "ref.go:461", after := #[{ on := 19, ground := Ground.data }, { on := 18, ground := Ground.chain }, { on := 0, ground := Ground.phase }, { on := 1, ground := Ground.phase }, { on := 2, ground := Ground.phase }, { on := 3, ground := Ground.phase }, { on := 4, ground := Ground.phase }, { on := 5, ground := Ground.phase }, { on := 6, ground := Ground.phase }, { on := 7, ground := Ground.phase }, { on := 8, ground := Ground.phase }, { on := 9, ground := Ground.phase }, { on := 10, ground := Ground.phase }, { on := 11, ground := Ground.phase }, { on := 12, ground := Ground.phase }, { on := 13, ground := Ground.phase }, { on := 14, ground := Ground.phase }, { on := 15, ground := Ground.phase }, { on := 16, ground := Ground.phase }, { on := 17, ground := Ground.phase }, { on := 18, ground := Ground.phase }, { on := 19, ground := Ground.phase }], guard := none } : Oper)) (v := ?vq41) rfl (by kernel_rfl) (by kernel_rfl) (by kernel_rfl) (fun _ _ _ h => h) (Or.inl ⟨by rfl, ?hq41⟩) (by assumption) ?rq41
        case hq41 => (intro w hSw; (try dsimp only at hSw); go_simp; try (with_reducible rfl))
        try simp only [Act.put, List.setIfInBounds_toArray, List.set_cons_zero, List.set_cons_succ]
        refine wpAnyH_done (by kernel_rfl) ?_ _
        clear hHeld
        go_wp2
        go_ret
        refine ⟨chain_below HB2.out HB5.out HB2.out.size, _, ret_eq rfl, ?_⟩
        rw [ByteArray.size_append, ByteArray.size_append, ByteArray.size_append, ByteArray.size_append]
        show s1.size + 1 + s2.size + 1 + s3.size ≤ _
        omega

theorem ag_cell (p : Nat) (h1 : 1 ≤ p) (h2 : p ≤ 4) : ∃ st : ByteArray, (#[.string ⟨#[]⟩, .string ⟨#[67, 79, 85, 78, 84]⟩, .string ⟨#[83, 85, 77]⟩, .string ⟨#[77, 73, 78]⟩, .string ⟨#[77, 65, 88]⟩] : Array Value)[p]? = some (.string st) ∧ st.size ≤ 5 := by
  rcases (show p = 1 ∨ p = 2 ∨ p = 3 ∨ p = 4 by omega) with rfl | rfl | rfl | rfl <;> exact ⟨_, rfl, by decide⟩
set_option maxRecDepth 100000 in
theorem prn_ag0  (v : Vl) (tb nm : List UInt8) (col tp : Int) (A : Option Addr) (c : Nat) (w : World)  :
    Calls Tryz.prog 13 #[.agg #[.int .i64 6, .int .i64 1, .int .i64 v.kind, .int .i64 v.int, .string ⟨v.text.toArray⟩, .string ⟨tb.toArray⟩, .string ⟨nm.toArray⟩, .int .i64 col, .int .i64 tp, .slice A 0 c]] w (TxtR (8) w) := by
  have HLVL : ∀ W, Calls Tryz.prog 26 #[.agg #[.int .i64 6, .int .i64 1, .int .i64 v.kind, .int .i64 v.int, .string ⟨v.text.toArray⟩, .string ⟨tb.toArray⟩, .string ⟨nm.toArray⟩, .int .i64 col, .int .i64 tp, .slice A 0 c]] W (LineR (9) W) := fun W => by
    have h := lvl_any v.kind v.int col tp ⟨v.text.toArray⟩ ⟨tb.toArray⟩ ⟨nm.toArray⟩ A c W 6 1 0
    rw [show lnG (6) (1) 0 = 9 from by simp [lnG]] at h
    exact h
  have HX := Asd.mk (blk_new w (.cells #[.int .i64 6, .int .i64 1, .int .i64 v.kind, .int .i64 v.int, .string ⟨v.text.toArray⟩, .string ⟨tb.toArray⟩, .string ⟨nm.toArray⟩, .int .i64 col, .int .i64 tp, .slice A 0 c] 26 (0, 0)))
  have HB : Asd (Below w.heap.size w (w.alloc (.cells #[.int .i64 6, .int .i64 1, .int .i64 v.kind, .int .i64 v.int, .string ⟨v.text.toArray⟩, .string ⟨tb.toArray⟩, .string ⟨nm.toArray⟩, .int .i64 col, .int .i64 tp, .slice A 0 c] 26 (0, 0)))) := Asd.mk (below_alloc (Below.refl _ _) _)
  have HLV : Asd (∀ W, Calls Tryz.prog 26 #[.agg #[.int .i64 6, .int .i64 1, .int .i64 v.kind, .int .i64 v.int, .string ⟨v.text.toArray⟩, .string ⟨tb.toArray⟩, .string ⟨nm.toArray⟩, .int .i64 col, .int .i64 tp, .slice A 0 c]] W (LineR (9) W)) := Asd.mk (fun W => HLVL W)
  clear HLVL
  go_enter Tryz.func13, Tryz.ntmps13
  go_upto_region 1 with fail
  generalize w.alloc (.cells #[.int .i64 6, .int .i64 1, .int .i64 v.kind, .int .i64 v.int, .string ⟨v.text.toArray⟩, .string ⟨tb.toArray⟩, .string ⟨nm.toArray⟩, .int .i64 col, .int .i64 tp, .slice A 0 c] 26 (0, 0)) = w1 at HX HB ⊢
  have f0 := (blk_cell HX.out 0).trans rfl
  have f1 := (blk_cell HX.out 1).trans rfl
  have f2 := (blk_cell HX.out 2).trans rfl
  have f3 := (blk_cell HX.out 3).trans rfl
  have f4 := (blk_cell HX.out 4).trans rfl
  have f5 := (blk_cell HX.out 5).trans rfl
  have f6 := (blk_cell HX.out 6).trans rfl
  have f7 := (blk_cell HX.out 7).trans rfl
  have f8 := (blk_cell HX.out 8).trans rfl
  have f9 := (blk_cell HX.out 9).trans rfl
  go_wp2_with fail
  refine (HLV.out _).mono ?_
  rintro e w2 ⟨rfl, hb2⟩
  have HB2 := Asd.mk (below_step HB.out hb2)
  have HX2 := Asd.mk (blk_below hb2 HX.out)
  clear f0 f1 f2 f3 f4 f5 f6 f7 f8 f9 hb2
  have f0 := (blk_cell HX2.out 0).trans rfl
  have f1 := (blk_cell HX2.out 1).trans rfl
  have f2 := (blk_cell HX2.out 2).trans rfl
  have f3 := (blk_cell HX2.out 3).trans rfl
  have f4 := (blk_cell HX2.out 4).trans rfl
  have f5 := (blk_cell HX2.out 5).trans rfl
  have f6 := (blk_cell HX2.out 6).trans rfl
  have f7 := (blk_cell HX2.out 7).trans rfl
  have f8 := (blk_cell HX2.out 8).trans rfl
  have f9 := (blk_cell HX2.out 9).trans rfl
  go_upto_region 20 with fail
  have HZ := Asd.mk (blk_new w2 (.cells #[.string ⟨#[]⟩, .string ⟨#[67, 79, 85, 78, 84]⟩, .string ⟨#[83, 85, 77]⟩, .string ⟨#[77, 73, 78]⟩, .string ⟨#[77, 65, 88]⟩] 9 (0, 0)))
  have hba : Below w2.heap.size w2 (w2.alloc (.cells #[.string ⟨#[]⟩, .string ⟨#[67, 79, 85, 78, 84]⟩, .string ⟨#[83, 85, 77]⟩, .string ⟨#[77, 73, 78]⟩, .string ⟨#[77, 65, 88]⟩] 9 (0, 0))) := below_alloc (Below.refl _ _) _
  have HB3 := Asd.mk (below_step HB2.out hba)
  have HX3 := Asd.mk (blk_below hba HX2.out)
  clear f0 f1 f2 f3 f4 f5 f6 f7 f8 f9
  have f0 := (blk_cell HX3.out 0).trans rfl
  have f1 := (blk_cell HX3.out 1).trans rfl
  have f2 := (blk_cell HX3.out 2).trans rfl
  have f3 := (blk_cell HX3.out 3).trans rfl
  have f4 := (blk_cell HX3.out 4).trans rfl
  have f5 := (blk_cell HX3.out 5).trans rfl
  have f6 := (blk_cell HX3.out 6).trans rfl
  have f7 := (blk_cell HX3.out 7).trans rfl
  have f8 := (blk_cell HX3.out 8).trans rfl
  have f9 := (blk_cell HX3.out 9).trans rfl
  have x0 := (blk_cell HZ.out 1).trans rfl
  clear hba
  go_wp2
  go_ret
  exact ⟨HB3.out, _, ret_eq rfl, by decide⟩
set_option maxRecDepth 100000 in
theorem prn_ag  (v : Vl) (tb nm : List UInt8) (col tp : Int) (A : Option Addr) (c : Nat) (w : World) (p : Nat) (hp1 : 1 ≤ p) (hp2 : p ≤ 4) (a : Ex) (hN : bulkX a ≤ 1048576) (ha : PrnOK a) (Q : Nat → Prop) (hh : Held Q w [a] (.slice A 1 c)):
    Calls Tryz.prog 13 #[.agg #[.int .i64 6, .int .i64 ((p : Nat) : Int), .int .i64 v.kind, .int .i64 v.int, .string ⟨v.text.toArray⟩, .string ⟨tb.toArray⟩, .string ⟨nm.toArray⟩, .int .i64 col, .int .i64 tp, .slice A 1 c]] w (TxtR (30 * bulkX a + 10) w) := by
  have hi1 : (1 : Int) ≤ (p : Int) := by omega
  have hi4 : (p : Int) ≤ 4 := by omega
  have HLVL : ∀ W, Calls Tryz.prog 26 #[.agg #[.int .i64 6, .int .i64 ((p : Nat) : Int), .int .i64 v.kind, .int .i64 v.int, .string ⟨v.text.toArray⟩, .string ⟨tb.toArray⟩, .string ⟨nm.toArray⟩, .int .i64 col, .int .i64 tp, .slice A 1 c]] W (LineR (9) W) := fun W => by
    have h := lvl_any v.kind v.int col tp ⟨v.text.toArray⟩ ⟨tb.toArray⟩ ⟨nm.toArray⟩ A c W 6 ((p : Nat) : Int) 1
    rw [show lnG (6) ((p : Nat) : Int) 1 = 9 from by simp [lnG, hi1, hi4, hp1, hp2]] at h
    exact h
  obtain ⟨st, hst, hss⟩ := ag_cell p hp1 hp2
  have hi0 : (0 : Int) ≤ (p : Int) := by omega
  have hi5 : (p : Int) < 5 := by omega
  have hd0 : ¬ 9223372036854775807 < st.size + 1 := by omega
  have HSS := Asd.mk hss
  clear hp1 hp2
  have HBK : Asd (bulkXL [a] = bulkX a) := Asd.mk (by simp [bulkXL])
  have HLI := Asd.mk (fun W (hb : Below w.heap.size w W) => rlist_calls [a] (by rw [HBK.out]; exact hN) (fun i hi => by obtain rfl : i = 0 := (by simp at hi; omega)
                                                                                                                        exact ha) Q A c W (held_below hh hb))
  rw [HBK.out] at HLI
  unfold TxtR at HLI
  clear hh ha
  have HX := Asd.mk (blk_new w (.cells #[.int .i64 6, .int .i64 ((p : Nat) : Int), .int .i64 v.kind, .int .i64 v.int, .string ⟨v.text.toArray⟩, .string ⟨tb.toArray⟩, .string ⟨nm.toArray⟩, .int .i64 col, .int .i64 tp, .slice A 1 c] 26 (0, 0)))
  have HB : Asd (Below w.heap.size w (w.alloc (.cells #[.int .i64 6, .int .i64 ((p : Nat) : Int), .int .i64 v.kind, .int .i64 v.int, .string ⟨v.text.toArray⟩, .string ⟨tb.toArray⟩, .string ⟨nm.toArray⟩, .int .i64 col, .int .i64 tp, .slice A 1 c] 26 (0, 0)))) := Asd.mk (below_alloc (Below.refl _ _) _)
  have HLV : Asd (∀ W, Calls Tryz.prog 26 #[.agg #[.int .i64 6, .int .i64 ((p : Nat) : Int), .int .i64 v.kind, .int .i64 v.int, .string ⟨v.text.toArray⟩, .string ⟨tb.toArray⟩, .string ⟨nm.toArray⟩, .int .i64 col, .int .i64 tp, .slice A 1 c]] W (LineR (9) W)) := Asd.mk (fun W => HLVL W)
  clear HLVL
  go_enter Tryz.func13, Tryz.ntmps13
  go_upto_region 1 with fail
  generalize w.alloc (.cells #[.int .i64 6, .int .i64 ((p : Nat) : Int), .int .i64 v.kind, .int .i64 v.int, .string ⟨v.text.toArray⟩, .string ⟨tb.toArray⟩, .string ⟨nm.toArray⟩, .int .i64 col, .int .i64 tp, .slice A 1 c] 26 (0, 0)) = w1 at HX HB ⊢
  have f0 := (blk_cell HX.out 0).trans rfl
  have f1 := (blk_cell HX.out 1).trans rfl
  have f2 := (blk_cell HX.out 2).trans rfl
  have f3 := (blk_cell HX.out 3).trans rfl
  have f4 := (blk_cell HX.out 4).trans rfl
  have f5 := (blk_cell HX.out 5).trans rfl
  have f6 := (blk_cell HX.out 6).trans rfl
  have f7 := (blk_cell HX.out 7).trans rfl
  have f8 := (blk_cell HX.out 8).trans rfl
  have f9 := (blk_cell HX.out 9).trans rfl
  go_wp2_with fail
  refine (HLV.out _).mono ?_
  rintro e w2 ⟨rfl, hb2⟩
  have HB2 := Asd.mk (below_step HB.out hb2)
  have HX2 := Asd.mk (blk_below hb2 HX.out)
  clear f0 f1 f2 f3 f4 f5 f6 f7 f8 f9 hb2
  have f0 := (blk_cell HX2.out 0).trans rfl
  have f1 := (blk_cell HX2.out 1).trans rfl
  have f2 := (blk_cell HX2.out 2).trans rfl
  have f3 := (blk_cell HX2.out 3).trans rfl
  have f4 := (blk_cell HX2.out 4).trans rfl
  have f5 := (blk_cell HX2.out 5).trans rfl
  have f6 := (blk_cell HX2.out 6).trans rfl
  have f7 := (blk_cell HX2.out 7).trans rfl
  have f8 := (blk_cell HX2.out 8).trans rfl
  have f9 := (blk_cell HX2.out 9).trans rfl
  go_upto_region 20 with fail
  have HZ := Asd.mk (blk_new w2 (.cells #[.string ⟨#[]⟩, .string ⟨#[67, 79, 85, 78, 84]⟩, .string ⟨#[83, 85, 77]⟩, .string ⟨#[77, 73, 78]⟩, .string ⟨#[77, 65, 88]⟩] 9 (0, 0)))
  have hba : Below w2.heap.size w2 (w2.alloc (.cells #[.string ⟨#[]⟩, .string ⟨#[67, 79, 85, 78, 84]⟩, .string ⟨#[83, 85, 77]⟩, .string ⟨#[77, 73, 78]⟩, .string ⟨#[77, 65, 88]⟩] 9 (0, 0))) := below_alloc (Below.refl _ _) _
  have HB3 := Asd.mk (below_step HB2.out hba)
  have HX3 := Asd.mk (blk_below hba HX2.out)
  clear f0 f1 f2 f3 f4 f5 f6 f7 f8 f9
  have f0 := (blk_cell HX3.out 0).trans rfl
  have f1 := (blk_cell HX3.out 1).trans rfl
  have f2 := (blk_cell HX3.out 2).trans rfl
  have f3 := (blk_cell HX3.out 3).trans rfl
  have f4 := (blk_cell HX3.out 4).trans rfl
  have f5 := (blk_cell HX3.out 5).trans rfl
  have f6 := (blk_cell HX3.out 6).trans rfl
  have f7 := (blk_cell HX3.out 7).trans rfl
  have f8 := (blk_cell HX3.out 8).trans rfl
  have f9 := (blk_cell HX3.out 9).trans rfl
  have x0 := (blk_cell HZ.out p).trans hst
  clear hba
  go_upto_region 21 with fail
  generalize w2.alloc (.cells #[.string ⟨#[]⟩, .string ⟨#[67, 79, 85, 78, 84]⟩, .string ⟨#[83, 85, 77]⟩, .string ⟨#[77, 73, 78]⟩, .string ⟨#[77, 65, 88]⟩] 9 (0, 0)) = w3 at HB3 HX3 ⊢
  clear f0 f1 f2 f3 f4 f5 f6 f7 f8 f9 x0 HZ
  have f0 := (blk_cell HX3.out 0).trans rfl
  have f1 := (blk_cell HX3.out 1).trans rfl
  have f2 := (blk_cell HX3.out 2).trans rfl
  have f3 := (blk_cell HX3.out 3).trans rfl
  have f4 := (blk_cell HX3.out 4).trans rfl
  have f5 := (blk_cell HX3.out 5).trans rfl
  have f6 := (blk_cell HX3.out 6).trans rfl
  have f7 := (blk_cell HX3.out 7).trans rfl
  have f8 := (blk_cell HX3.out 8).trans rfl
  have f9 := (blk_cell HX3.out 9).trans rfl
  go_wp2_with fail
  refine (HLI.out _ HB3.out).mono ?_
  rintro e w4 ⟨hb4, s, rfl, hs⟩
  have HB4 := Asd.mk (below_step HB3.out hb4)
  have hs2 : s.size ≤ 31457280 := by omega
  have hc1 : ¬ 9223372036854775807 < st.size + 1 + s.size := by omega
  have hc2 : ¬ 9223372036854775807 < st.size + 1 + s.size + 1 := by omega
  have HSZ := Asd.mk hs
  clear f0 f1 f2 f3 f4 f5 f6 f7 f8 f9 hb4 hs
  go_wp2
  go_ret
  refine ⟨HB4.out, _, ret_eq rfl, ?_⟩
  rw [ByteArray.size_append, ByteArray.size_append, ByteArray.size_append]
  have h1 := HSZ.out
  have h2 := HSS.out
  show st.size + 1 + s.size + 1 ≤ _
  omega

theorem fn_cell (p : Nat) (h1 : 1 ≤ p) (h2 : p ≤ 6) : ∃ st : ByteArray, (#[.string ⟨#[]⟩, .string ⟨#[76, 69, 78, 71, 84, 72]⟩, .string ⟨#[65, 66, 83]⟩, .string ⟨#[85, 80, 80, 69, 82]⟩, .string ⟨#[76, 79, 87, 69, 82]⟩, .string ⟨#[83, 85, 66, 83, 84, 82]⟩, .string ⟨#[67, 79, 65, 76, 69, 83, 67, 69]⟩] : Array Value)[p]? = some (.string st) ∧ st.size ≤ 8 := by
  rcases (show p = 1 ∨ p = 2 ∨ p = 3 ∨ p = 4 ∨ p = 5 ∨ p = 6 by omega) with rfl | rfl | rfl | rfl | rfl | rfl <;> exact ⟨_, rfl, by decide⟩
set_option maxRecDepth 100000 in
theorem prn_fn  (v : Vl) (tb nm : List UInt8) (col tp : Int) (A : Option Addr) (c : Nat) (w : World) (p n : Nat) (hp1 : 1 ≤ p) (hp2 : p ≤ 6) (hpn : n = opn p) (xs : List Ex) (hn : xs.length = n) (hN : bulkXL xs ≤ 1048576) (ha : ∀ i (h : i < xs.length), PrnOK xs[i]) (Q : Nat → Prop) (hh : Held Q w xs (.slice A n c)):
    Calls Tryz.prog 13 #[.agg #[.int .i64 5, .int .i64 ((p : Nat) : Int), .int .i64 v.kind, .int .i64 v.int, .string ⟨v.text.toArray⟩, .string ⟨tb.toArray⟩, .string ⟨nm.toArray⟩, .int .i64 col, .int .i64 tp, .slice A n c]] w (TxtR (30 * bulkXL xs + 10) w) := by
  have hi1 : (1 : Int) ≤ (p : Int) := by omega
  have hi6 : (p : Int) ≤ 6 := by omega
  have HLVL : ∀ W, Calls Tryz.prog 26 #[.agg #[.int .i64 5, .int .i64 ((p : Nat) : Int), .int .i64 v.kind, .int .i64 v.int, .string ⟨v.text.toArray⟩, .string ⟨tb.toArray⟩, .string ⟨nm.toArray⟩, .int .i64 col, .int .i64 tp, .slice A n c]] W (LineR (9) W) := fun W => by
    have h := lvl_any v.kind v.int col tp ⟨v.text.toArray⟩ ⟨tb.toArray⟩ ⟨nm.toArray⟩ A c W 5 ((p : Nat) : Int) n
    rw [show lnG (5) ((p : Nat) : Int) n = 9 from by simp [lnG, hi1, hi6, hp1, hp2, hpn]] at h
    exact h
  obtain ⟨st, hst, hss⟩ := fn_cell p hp1 hp2
  have hi0 : (0 : Int) ≤ (p : Int) := by omega
  have hi7 : (p : Int) < 7 := by omega
  have hd0 : ¬ 9223372036854775807 < st.size + 1 := by omega
  have HSS := Asd.mk hss
  clear hp1 hp2 hpn
  have HLI := Asd.mk (fun W (hb : Below w.heap.size w W) => rlist_calls xs hN ha Q A c W (by rw [hn]; exact held_below hh hb))
  rw [hn] at HLI
  unfold TxtR at HLI
  clear hh ha
  have HX := Asd.mk (blk_new w (.cells #[.int .i64 5, .int .i64 ((p : Nat) : Int), .int .i64 v.kind, .int .i64 v.int, .string ⟨v.text.toArray⟩, .string ⟨tb.toArray⟩, .string ⟨nm.toArray⟩, .int .i64 col, .int .i64 tp, .slice A n c] 26 (0, 0)))
  have HB : Asd (Below w.heap.size w (w.alloc (.cells #[.int .i64 5, .int .i64 ((p : Nat) : Int), .int .i64 v.kind, .int .i64 v.int, .string ⟨v.text.toArray⟩, .string ⟨tb.toArray⟩, .string ⟨nm.toArray⟩, .int .i64 col, .int .i64 tp, .slice A n c] 26 (0, 0)))) := Asd.mk (below_alloc (Below.refl _ _) _)
  have HLV : Asd (∀ W, Calls Tryz.prog 26 #[.agg #[.int .i64 5, .int .i64 ((p : Nat) : Int), .int .i64 v.kind, .int .i64 v.int, .string ⟨v.text.toArray⟩, .string ⟨tb.toArray⟩, .string ⟨nm.toArray⟩, .int .i64 col, .int .i64 tp, .slice A n c]] W (LineR (9) W)) := Asd.mk (fun W => HLVL W)
  clear HLVL
  go_enter Tryz.func13, Tryz.ntmps13
  go_upto_region 1 with fail
  generalize w.alloc (.cells #[.int .i64 5, .int .i64 ((p : Nat) : Int), .int .i64 v.kind, .int .i64 v.int, .string ⟨v.text.toArray⟩, .string ⟨tb.toArray⟩, .string ⟨nm.toArray⟩, .int .i64 col, .int .i64 tp, .slice A n c] 26 (0, 0)) = w1 at HX HB ⊢
  have f0 := (blk_cell HX.out 0).trans rfl
  have f1 := (blk_cell HX.out 1).trans rfl
  have f2 := (blk_cell HX.out 2).trans rfl
  have f3 := (blk_cell HX.out 3).trans rfl
  have f4 := (blk_cell HX.out 4).trans rfl
  have f5 := (blk_cell HX.out 5).trans rfl
  have f6 := (blk_cell HX.out 6).trans rfl
  have f7 := (blk_cell HX.out 7).trans rfl
  have f8 := (blk_cell HX.out 8).trans rfl
  have f9 := (blk_cell HX.out 9).trans rfl
  go_wp2_with fail
  refine (HLV.out _).mono ?_
  rintro e w2 ⟨rfl, hb2⟩
  have HB2 := Asd.mk (below_step HB.out hb2)
  have HX2 := Asd.mk (blk_below hb2 HX.out)
  clear f0 f1 f2 f3 f4 f5 f6 f7 f8 f9 hb2
  have f0 := (blk_cell HX2.out 0).trans rfl
  have f1 := (blk_cell HX2.out 1).trans rfl
  have f2 := (blk_cell HX2.out 2).trans rfl
  have f3 := (blk_cell HX2.out 3).trans rfl
  have f4 := (blk_cell HX2.out 4).trans rfl
  have f5 := (blk_cell HX2.out 5).trans rfl
  have f6 := (blk_cell HX2.out 6).trans rfl
  have f7 := (blk_cell HX2.out 7).trans rfl
  have f8 := (blk_cell HX2.out 8).trans rfl
  have f9 := (blk_cell HX2.out 9).trans rfl
  have HS : Asd (∀ w', Below w2.heap.size w2 w' → w'.cell? ⟨w.heap.size, 1, none⟩ = some (.int .i64 ((p : Nat) : Int)) ∧ w'.cell? ⟨w.heap.size, 9, none⟩ = some (.slice A n c) ∧ Below w2.heap.size w2 w') := Asd.mk fun w' hb => ⟨(hb.cell (blk_lt HX2.out)).trans f1, (hb.cell (blk_lt HX2.out)).trans f9, hb⟩
  go_upto_region 18 with fail
  clear f0 f1 f2 f3 f4 f5 f6 f7 f8 f9
  refine wp_region_held_drew (S := fun w' => w'.cell? ⟨w.heap.size, 1, none⟩ = some (.int .i64 ((p : Nat) : Int)) ∧ w'.cell? ⟨w.heap.size, 9, none⟩ = some (.slice A n c) ∧ Below w2.heap.size w2 w') (by kernel_rfl) (HS.out _ (Below.refl _ _).drew) (fun hHeld => ?_)
  refine wpAnyH_take (i := 1) (oi := ({ dst := some 63, op := Op.fieldAddr 26 (Operand.tmp 1) 1, type := 0, pos := "ref.go:449", after := #[], guard := none } : Oper)) (v := ?vq1) rfl (by kernel_rfl) (by kernel_rfl) (by kernel_rfl) (fun _ _ _ h => h) (Or.inl ⟨by rfl, ?hq1⟩) (by assumption) ?rq1
  case hq1 => (intro w hSw; (try dsimp only at hSw); go_simp; try (with_reducible rfl))
  try simp only [Act.put, List.setIfInBounds_toArray, List.set_cons_zero, List.set_cons_succ]
  refine wpAnyH_take (i := 2) (oi := ({ dst := some 64, op := Op.load 3 (Operand.tmp 63), type := 3, pos := "ref.go:449", after := #[{ on := 1, ground := Ground.data }], guard := none } : Oper)) (v := ?vq2) rfl (by kernel_rfl) (by kernel_rfl) (by kernel_rfl) (fun _ _ _ h => h) (Or.inl ⟨by rfl, ?hq2⟩) (by assumption) ?rq2
  case hq2 => (intro w hSw; (try dsimp only at hSw); go_simp; try (with_reducible rfl))
  try simp only [Act.put, List.setIfInBounds_toArray, List.set_cons_zero, List.set_cons_succ]
  refine wpAnyH_take (i := 6) (oi := ({ dst := some 68, op := Op.fieldAddr 26 (Operand.tmp 1) 7, type := 0, pos := "ref.go:449", after := #[], guard := none } : Oper)) (v := ?vq3) rfl (by kernel_rfl) (by kernel_rfl) (by kernel_rfl) (fun _ _ _ h => h) (Or.inl ⟨by rfl, ?hq3⟩) (by assumption) ?rq3
  case hq3 => (intro w hSw; (try dsimp only at hSw); go_simp; try (with_reducible rfl))
  try simp only [Act.put, List.setIfInBounds_toArray, List.set_cons_zero, List.set_cons_succ]
  refine wpAnyH_take (i := 7) (oi := ({ dst := some 69, op := Op.load 24 (Operand.tmp 68), type := 24, pos := "ref.go:449", after := #[{ on := 6, ground := Ground.data }], guard := none } : Oper)) (v := ?vq4) rfl (by kernel_rfl) (by kernel_rfl) (by kernel_rfl) (fun _ _ _ h => h) (Or.inl ⟨by rfl, ?hq4⟩) (by assumption) ?rq4
  case hq4 => (intro w hSw; (try dsimp only at hSw); go_simp; try (with_reducible rfl))
  try simp only [Act.put, List.setIfInBounds_toArray, List.set_cons_zero, List.set_cons_succ]
  refine wpAnyH_ready (rs := [0, 8]) (by kernel_rfl) (by simp) ?_
  refine AllReadyH.cons (o := ({ dst := some 62, op := Op.buildSlice 58 7 #[(0, Operand.const (Value.string { data := #[] })), (1, Operand.const (Value.string { data := #[76, 69, 78, 71, 84, 72] })), (2, Operand.const (Value.string { data := #[65, 66, 83] })), (3, Operand.const (Value.string { data := #[85, 80, 80, 69, 82] })), (4, Operand.const (Value.string { data := #[76, 79, 87, 69, 82] })), (5, Operand.const (Value.string { data := #[83, 85, 66, 83, 84, 82] })), (6, Operand.const (Value.string { data := #[67, 79, 65, 76, 69, 83, 67, 69] }))], type := 58, pos := "ref.go:449", after := #[], guard := none } : Oper)) rfl ?a25 (AllReadyH.cons (o := ({ dst := some 70, op := Op.call { callee := Callee.value (Operand.func 30), args := #[Operand.tmp 69], argTypes := #[24] }, type := 9, pos := "ref.go:449", after := #[{ on := 7, ground := Ground.data }], guard := none } : Oper)) rfl ?a26 AllReadyH.nil)
  case a25 =>
    intro K hK
    go_simp
    have HZa := Asd.mk (blk_new w2.drew (.cells #[.string ⟨#[]⟩, .string ⟨#[76, 69, 78, 71, 84, 72]⟩, .string ⟨#[65, 66, 83]⟩, .string ⟨#[85, 80, 80, 69, 82]⟩, .string ⟨#[76, 79, 87, 69, 82]⟩, .string ⟨#[83, 85, 66, 83, 84, 82]⟩, .string ⟨#[67, 79, 65, 76, 69, 83, 67, 69]⟩] 9 (0, 0)))
    have HBza : Asd (Below w2.heap.size w2 (w2.drew.alloc (.cells #[.string ⟨#[]⟩, .string ⟨#[76, 69, 78, 71, 84, 72]⟩, .string ⟨#[65, 66, 83]⟩, .string ⟨#[85, 80, 80, 69, 82]⟩, .string ⟨#[76, 79, 87, 69, 82]⟩, .string ⟨#[83, 85, 66, 83, 84, 82]⟩, .string ⟨#[67, 79, 65, 76, 69, 83, 67, 69]⟩] 9 (0, 0)))) := Asd.mk (below_step ((Below.refl w2.heap.size w2).drew) (below_alloc (Below.refl _ _) _))
    have xa := (blk_cell HZa.out p).trans hst
    go_wp2_with fail
    refine hK.out _ _ (HS.out _ HBza.out) (fun hHeld => ?_)
    clear hK K
    try simp only [Act.put, List.setIfInBounds_toArray, List.set_cons_zero, List.set_cons_succ]
    refine wpAnyH_take (i := 3) (oi := ({ dst := some 65, op := Op.indexAddr 58 (Operand.tmp 62) (Operand.tmp 64), type := 0, pos := "ref.go:449", after := #[{ on := 0, ground := Ground.data }, { on := 2, ground := Ground.data }], guard := none } : Oper)) (v := ?vq5) rfl (by kernel_rfl) (by kernel_rfl) (by kernel_rfl) (fun _ _ _ h => h) (Or.inl ⟨by rfl, ?hq5⟩) (by assumption) ?rq5
    case hq5 => (intro w hSw; (try dsimp only at hSw); go_simp; try (with_reducible rfl))
    try simp only [Act.put, List.setIfInBounds_toArray, List.set_cons_zero, List.set_cons_succ]
    refine wpAnyH_ready (rs := [4, 8]) (by kernel_rfl) (by simp) ?_
    refine AllReadyH.cons (o := ({ dst := some 66, op := Op.load 9 (Operand.tmp 65), type := 9, pos := "ref.go:449", after := #[{ on := 3, ground := Ground.data }], guard := none } : Oper)) rfl ?a16 (AllReadyH.cons (o := ({ dst := some 70, op := Op.call { callee := Callee.value (Operand.func 30), args := #[Operand.tmp 69], argTypes := #[24] }, type := 9, pos := "ref.go:449", after := #[{ on := 7, ground := Ground.data }], guard := none } : Oper)) rfl ?a17 AllReadyH.nil)
    case a16 =>
      intro K hK
      go_simp
      go_wp2_with fail
      refine hK.out _ _ (HS.out _ HBza.out) (fun hHeld => ?_)
      clear hK K
      try simp only [Act.put, List.setIfInBounds_toArray, List.set_cons_zero, List.set_cons_succ]
      clear xa
      refine wpAnyH_take (i := 5) (oi := ({ dst := some 67, op := Op.binOp BinOp.add 9 (Operand.tmp 66) (Operand.const (Value.string { data := #[40] })) 9, type := 9, pos := "ref.go:449", after := #[{ on := 4, ground := Ground.data }], guard := none } : Oper)) (v := ?vq6) rfl (by kernel_rfl) (by kernel_rfl) (by kernel_rfl) (fun _ _ _ h => h) (Or.inl ⟨by rfl, ?hq6⟩) (by assumption) ?rq6
      case hq6 => (intro w hSw; (try dsimp only at hSw); go_simp; try (with_reducible rfl))
      try simp only [Act.put, List.setIfInBounds_toArray, List.set_cons_zero, List.set_cons_succ]
      refine wpAnyH_ready (rs := [8]) (by kernel_rfl) (by simp) ?_
      refine AllReadyH.cons (o := ({ dst := some 70, op := Op.call { callee := Callee.value (Operand.func 30), args := #[Operand.tmp 69], argTypes := #[24] }, type := 9, pos := "ref.go:449", after := #[{ on := 7, ground := Ground.data }], guard := none } : Oper)) rfl ?a10 AllReadyH.nil
      case a10 =>
        intro K hK
        go_simp
        refine (HLI.out _ (chain_below HB2.out (HBza.out) HB2.out.size)).mono ?_
        rintro e w4 ⟨hb4, s, rfl, hs⟩
        have HB4 : Asd (Below w2.heap.size w2 w4) := Asd.mk (below_step (HBza.out) hb4)
        have hs2 : s.size ≤ 31457280 := by omega
        have hc1 : ¬ 9223372036854775807 < st.size + 1 + s.size := by omega
        have hc2 : ¬ 9223372036854775807 < st.size + 1 + s.size + 1 := by omega
        have HSZ := Asd.mk hs
        clear hs
        go_wp2_with fail
        refine hK.out _ _ (HS.out _ HB4.out) (fun hHeld => ?_)
        clear hK K
        try simp only [Act.put, List.setIfInBounds_toArray, List.set_cons_zero, List.set_cons_succ]
        refine wpAnyH_take (i := 9) (oi := ({ dst := some 71, op := Op.binOp BinOp.add 9 (Operand.tmp 67) (Operand.tmp 70) 9, type := 9, pos := "ref.go:449", after := #[{ on := 5, ground := Ground.data }, { on := 8, ground := Ground.data }], guard := none } : Oper)) (v := ?vq7) rfl (by kernel_rfl) (by kernel_rfl) (by kernel_rfl) (fun _ _ _ h => h) (Or.inl ⟨by rfl, ?hq7⟩) (by assumption) ?rq7
        case hq7 => (intro w hSw; (try dsimp only at hSw); go_simp; try (with_reducible rfl))
        try simp only [Act.put, List.setIfInBounds_toArray, List.set_cons_zero, List.set_cons_succ]
        refine wpAnyH_take (i := 10) (oi := ({ dst := some 72, op := Op.binOp BinOp.add 9 (Operand.tmp 71) (Operand.const (Value.string { data := #[41] })) 9, type := 9, pos := "ref.go:449", after := #[{ on := 9, ground := Ground.data }], guard := none } : Oper)) (v := ?vq8) rfl (by kernel_rfl) (by kernel_rfl) (by kernel_rfl) (fun _ _ _ h => h) (Or.inl ⟨by rfl, ?hq8⟩) (by assumption) ?rq8
        case hq8 => (intro w hSw; (try dsimp only at hSw); go_simp; try (with_reducible rfl))
        try simp only [Act.put, List.setIfInBounds_toArray, List.set_cons_zero, List.set_cons_succ]
        refine wpAnyH_take (i := 11) (oi := ({ dst := some 2, op := Op.assign (Operand.tmp 72), type := 9, pos := "ref.go:449", after := #[{ on := 10, ground := Ground.data }, { on := 8, ground := Ground.chain }, { on := 0, ground := Ground.phase }, { on := 1, ground := Ground.phase }, { on := 2, ground := Ground.phase }, { on := 3, ground := Ground.phase }, { on := 4, ground := Ground.phase }, { on := 5, ground := Ground.phase }, { on := 6, ground := Ground.phase }, { on := 7, ground := Ground.phase }, { on := 8, ground := Ground.phase }, { on := 9, ground := Ground.phase }, { on := 10, ground := Ground.phase }], guard := none } : Oper)) (v := ?vq9) rfl (by kernel_rfl) (by kernel_rfl) (by kernel_rfl) (fun _ _ _ h => h) (Or.inl ⟨by rfl, ?hq9⟩) (by assumption) ?rq9
        case hq9 => (intro w hSw; (try dsimp only at hSw); go_simp; try (with_reducible rfl))
        try simp only [Act.put, List.setIfInBounds_toArray, List.set_cons_zero, List.set_cons_succ]
        refine wpAnyH_done (by kernel_rfl) ?_ _
        clear hHeld
        go_wp2
        go_ret
        refine ⟨chain_below HB2.out HB4.out HB2.out.size, _, ret_eq rfl, ?_⟩
        rw [ByteArray.size_append, ByteArray.size_append, ByteArray.size_append]
        have h1 := HSZ.out
        have h2 := HSS.out
        show st.size + 1 + s.size + 1 ≤ _
        omega
    case a17 =>
      intro K hK
      go_simp
      refine (HLI.out _ (chain_below HB2.out (HBza.out) HB2.out.size)).mono ?_
      rintro e w4 ⟨hb4, s, rfl, hs⟩
      have HB4 : Asd (Below w2.heap.size w2 w4) := Asd.mk (below_step (HBza.out) hb4)
      have hs2 : s.size ≤ 31457280 := by omega
      have hc1 : ¬ 9223372036854775807 < st.size + 1 + s.size := by omega
      have hc2 : ¬ 9223372036854775807 < st.size + 1 + s.size + 1 := by omega
      have HSZ := Asd.mk hs
      clear hs
      have xb : w4.cell? ⟨w2.heap.size, p, none⟩ = some (.string st) := (blk_cell (blk_below hb4 HZa.out) p).trans hst
      clear xa
      go_wp2_with fail
      refine hK.out _ _ (HS.out _ HB4.out) (fun hHeld => ?_)
      clear hK K
      try simp only [Act.put, List.setIfInBounds_toArray, List.set_cons_zero, List.set_cons_succ]
      refine wpAnyH_ready (rs := [4]) (by kernel_rfl) (by simp) ?_
      refine AllReadyH.cons (o := ({ dst := some 66, op := Op.load 9 (Operand.tmp 65), type := 9, pos := "ref.go:449", after := #[{ on := 3, ground := Ground.data }], guard := none } : Oper)) rfl ?a15 AllReadyH.nil
      case a15 =>
        intro K hK
        go_simp
        go_wp2_with fail
        refine hK.out _ _ (HS.out _ HB4.out) (fun hHeld => ?_)
        clear hK K
        try simp only [Act.put, List.setIfInBounds_toArray, List.set_cons_zero, List.set_cons_succ]
        clear xb
        refine wpAnyH_take (i := 5) (oi := ({ dst := some 67, op := Op.binOp BinOp.add 9 (Operand.tmp 66) (Operand.const (Value.string { data := #[40] })) 9, type := 9, pos := "ref.go:449", after := #[{ on := 4, ground := Ground.data }], guard := none } : Oper)) (v := ?vq11) rfl (by kernel_rfl) (by kernel_rfl) (by kernel_rfl) (fun _ _ _ h => h) (Or.inl ⟨by rfl, ?hq11⟩) (by assumption) ?rq11
        case hq11 => (intro w hSw; (try dsimp only at hSw); go_simp; try (with_reducible rfl))
        try simp only [Act.put, List.setIfInBounds_toArray, List.set_cons_zero, List.set_cons_succ]
        refine wpAnyH_take (i := 9) (oi := ({ dst := some 71, op := Op.binOp BinOp.add 9 (Operand.tmp 67) (Operand.tmp 70) 9, type := 9, pos := "ref.go:449", after := #[{ on := 5, ground := Ground.data }, { on := 8, ground := Ground.data }], guard := none } : Oper)) (v := ?vq12) rfl (by kernel_rfl) (by kernel_rfl) (by kernel_rfl) (fun _ _ _ h => h) (Or.inl ⟨by rfl, ?hq12⟩) (by assumption) ?rq12
        case hq12 => (intro w hSw; (try dsimp only at hSw); go_simp; try (with_reducible rfl))
        try simp only [Act.put, List.setIfInBounds_toArray, List.set_cons_zero, List.set_cons_succ]
        refine wpAnyH_take (i := 10) (oi := ({ dst := some 72, op := Op.binOp BinOp.add 9 (Operand.tmp 71) (Operand.const (Value.string { data := #[41] })) 9, type := 9, pos := "ref.go:449", after := #[{ on := 9, ground := Ground.data }], guard := none } : Oper)) (v := ?vq13) rfl (by kernel_rfl) (by kernel_rfl) (by kernel_rfl) (fun _ _ _ h => h) (Or.inl ⟨by rfl, ?hq13⟩) (by assumption) ?rq13
        case hq13 => (intro w hSw; (try dsimp only at hSw); go_simp; try (with_reducible rfl))
        try simp only [Act.put, List.setIfInBounds_toArray, List.set_cons_zero, List.set_cons_succ]
        refine wpAnyH_take (i := 11) (oi := ({ dst := some 2, op := Op.assign (Operand.tmp 72), type := 9, pos := "ref.go:449", after := #[{ on := 10, ground := Ground.data }, { on := 8, ground := Ground.chain }, { on := 0, ground := Ground.phase }, { on := 1, ground := Ground.phase }, { on := 2, ground := Ground.phase }, { on := 3, ground := Ground.phase }, { on := 4, ground := Ground.phase }, { on := 5, ground := Ground.phase }, { on := 6, ground := Ground.phase }, { on := 7, ground := Ground.phase }, { on := 8, ground := Ground.phase }, { on := 9, ground := Ground.phase }, { on := 10, ground := Ground.phase }], guard := none } : Oper)) (v := ?vq14) rfl (by kernel_rfl) (by kernel_rfl) (by kernel_rfl) (fun _ _ _ h => h) (Or.inl ⟨by rfl, ?hq14⟩) (by assumption) ?rq14
        case hq14 => (intro w hSw; (try dsimp only at hSw); go_simp; try (with_reducible rfl))
        try simp only [Act.put, List.setIfInBounds_toArray, List.set_cons_zero, List.set_cons_succ]
        refine wpAnyH_done (by kernel_rfl) ?_ _
        clear hHeld
        go_wp2
        go_ret
        refine ⟨chain_below HB2.out HB4.out HB2.out.size, _, ret_eq rfl, ?_⟩
        rw [ByteArray.size_append, ByteArray.size_append, ByteArray.size_append]
        have h1 := HSZ.out
        have h2 := HSS.out
        show st.size + 1 + s.size + 1 ≤ _
        omega
  case a26 =>
    intro K hK
    go_simp
    refine (HLI.out _ (chain_below HB2.out ((Below.refl w2.heap.size w2).drew) HB2.out.size)).mono ?_
    rintro e w4 ⟨hb4, s, rfl, hs⟩
    have HB4 : Asd (Below w2.heap.size w2 w4) := Asd.mk (below_step ((Below.refl w2.heap.size w2).drew) hb4)
    have hs2 : s.size ≤ 31457280 := by omega
    have hc1 : ¬ 9223372036854775807 < st.size + 1 + s.size := by omega
    have hc2 : ¬ 9223372036854775807 < st.size + 1 + s.size + 1 := by omega
    have HSZ := Asd.mk hs
    clear hs
    go_wp2_with fail
    refine hK.out _ _ (HS.out _ HB4.out) (fun hHeld => ?_)
    clear hK K
    try simp only [Act.put, List.setIfInBounds_toArray, List.set_cons_zero, List.set_cons_succ]
    refine wpAnyH_ready (rs := [0]) (by kernel_rfl) (by simp) ?_
    refine AllReadyH.cons (o := ({ dst := some 62, op := Op.buildSlice 58 7 #[(0, Operand.const (Value.string { data := #[] })), (1, Operand.const (Value.string { data := #[76, 69, 78, 71, 84, 72] })), (2, Operand.const (Value.string { data := #[65, 66, 83] })), (3, Operand.const (Value.string { data := #[85, 80, 80, 69, 82] })), (4, Operand.const (Value.string { data := #[76, 79, 87, 69, 82] })), (5, Operand.const (Value.string { data := #[83, 85, 66, 83, 84, 82] })), (6, Operand.const (Value.string { data := #[67, 79, 65, 76, 69, 83, 67, 69] }))], type := 58, pos := "ref.go:449", after := #[], guard := none } : Oper)) rfl ?a24 AllReadyH.nil
    case a24 =>
      intro K hK
      go_simp
      have HZc := Asd.mk (blk_new w4 (.cells #[.string ⟨#[]⟩, .string ⟨#[76, 69, 78, 71, 84, 72]⟩, .string ⟨#[65, 66, 83]⟩, .string ⟨#[85, 80, 80, 69, 82]⟩, .string ⟨#[76, 79, 87, 69, 82]⟩, .string ⟨#[83, 85, 66, 83, 84, 82]⟩, .string ⟨#[67, 79, 65, 76, 69, 83, 67, 69]⟩] 9 (0, 0)))
      have HBzc : Asd (Below w2.heap.size w2 (w4.alloc (.cells #[.string ⟨#[]⟩, .string ⟨#[76, 69, 78, 71, 84, 72]⟩, .string ⟨#[65, 66, 83]⟩, .string ⟨#[85, 80, 80, 69, 82]⟩, .string ⟨#[76, 79, 87, 69, 82]⟩, .string ⟨#[83, 85, 66, 83, 84, 82]⟩, .string ⟨#[67, 79, 65, 76, 69, 83, 67, 69]⟩] 9 (0, 0)))) := Asd.mk (below_step (HB4.out) (below_alloc (Below.refl _ _) _))
      have xc := (blk_cell HZc.out p).trans hst
      go_wp2_with fail
      refine hK.out _ _ (HS.out _ HBzc.out) (fun hHeld => ?_)
      clear hK K
      try simp only [Act.put, List.setIfInBounds_toArray, List.set_cons_zero, List.set_cons_succ]
      refine wpAnyH_take (i := 3) (oi := ({ dst := some 65, op := Op.indexAddr 58 (Operand.tmp 62) (Operand.tmp 64), type := 0, pos := "ref.go:449", after := #[{ on := 0, ground := Ground.data }, { on := 2, ground := Ground.data }], guard := none } : Oper)) (v := ?vq18) rfl (by kernel_rfl) (by kernel_rfl) (by kernel_rfl) (fun _ _ _ h => h) (Or.inl ⟨by rfl, ?hq18⟩) (by assumption) ?rq18
      case hq18 => (intro w hSw; (try dsimp only at hSw); go_simp; try (with_reducible rfl))
      try simp only [Act.put, List.setIfInBounds_toArray, List.set_cons_zero, List.set_cons_succ]
      refine wpAnyH_ready (rs := [4]) (by kernel_rfl) (by simp) ?_
      refine AllReadyH.cons (o := ({ dst := some 66, op := Op.load 9 (Operand.tmp 65), type := 9, pos := "ref.go:449", after := #[{ on := 3, ground := Ground.data }], guard := none } : Oper)) rfl ?a23 AllReadyH.nil
      case a23 =>
        intro K hK
        go_simp
        go_wp2_with fail
        refine hK.out _ _ (HS.out _ HBzc.out) (fun hHeld => ?_)
        clear hK K
        try simp only [Act.put, List.setIfInBounds_toArray, List.set_cons_zero, List.set_cons_succ]
        clear xc
        refine wpAnyH_take (i := 5) (oi := ({ dst := some 67, op := Op.binOp BinOp.add 9 (Operand.tmp 66) (Operand.const (Value.string { data := #[40] })) 9, type := 9, pos := "ref.go:449", after := #[{ on := 4, ground := Ground.data }], guard := none } : Oper)) (v := ?vq19) rfl (by kernel_rfl) (by kernel_rfl) (by kernel_rfl) (fun _ _ _ h => h) (Or.inl ⟨by rfl, ?hq19⟩) (by assumption) ?rq19
        case hq19 => (intro w hSw; (try dsimp only at hSw); go_simp; try (with_reducible rfl))
        try simp only [Act.put, List.setIfInBounds_toArray, List.set_cons_zero, List.set_cons_succ]
        refine wpAnyH_take (i := 9) (oi := ({ dst := some 71, op := Op.binOp BinOp.add 9 (Operand.tmp 67) (Operand.tmp 70) 9, type := 9, pos := "ref.go:449", after := #[{ on := 5, ground := Ground.data }, { on := 8, ground := Ground.data }], guard := none } : Oper)) (v := ?vq20) rfl (by kernel_rfl) (by kernel_rfl) (by kernel_rfl) (fun _ _ _ h => h) (Or.inl ⟨by rfl, ?hq20⟩) (by assumption) ?rq20
        case hq20 => (intro w hSw; (try dsimp only at hSw); go_simp; try (with_reducible rfl))
        try simp only [Act.put, List.setIfInBounds_toArray, List.set_cons_zero, List.set_cons_succ]
        refine wpAnyH_take (i := 10) (oi := ({ dst := some 72, op := Op.binOp BinOp.add 9 (Operand.tmp 71) (Operand.const (Value.string { data := #[41] })) 9, type := 9, pos := "ref.go:449", after := #[{ on := 9, ground := Ground.data }], guard := none } : Oper)) (v := ?vq21) rfl (by kernel_rfl) (by kernel_rfl) (by kernel_rfl) (fun _ _ _ h => h) (Or.inl ⟨by rfl, ?hq21⟩) (by assumption) ?rq21
        case hq21 => (intro w hSw; (try dsimp only at hSw); go_simp; try (with_reducible rfl))
        try simp only [Act.put, List.setIfInBounds_toArray, List.set_cons_zero, List.set_cons_succ]
        refine wpAnyH_take (i := 11) (oi := ({ dst := some 2, op := Op.assign (Operand.tmp 72), type := 9, pos := "ref.go:449", after := #[{ on := 10, ground := Ground.data }, { on := 8, ground := Ground.chain }, { on := 0, ground := Ground.phase }, { on := 1, ground := Ground.phase }, { on := 2, ground := Ground.phase }, { on := 3, ground := Ground.phase }, { on := 4, ground := Ground.phase }, { on := 5, ground := Ground.phase }, { on := 6, ground := Ground.phase }, { on := 7, ground := Ground.phase }, { on := 8, ground := Ground.phase }, { on := 9, ground := Ground.phase }, { on := 10, ground := Ground.phase }], guard := none } : Oper)) (v := ?vq22) rfl (by kernel_rfl) (by kernel_rfl) (by kernel_rfl) (fun _ _ _ h => h) (Or.inl ⟨by rfl, ?hq22⟩) (by assumption) ?rq22
        case hq22 => (intro w hSw; (try dsimp only at hSw); go_simp; try (with_reducible rfl))
        try simp only [Act.put, List.setIfInBounds_toArray, List.set_cons_zero, List.set_cons_succ]
        refine wpAnyH_done (by kernel_rfl) ?_ _
        clear hHeld
        go_wp2
        go_ret
        refine ⟨chain_below HB2.out HBzc.out HB2.out.size, _, ret_eq rfl, ?_⟩
        rw [ByteArray.size_append, ByteArray.size_append, ByteArray.size_append]
        have h1 := HSZ.out
        have h2 := HSS.out
        show st.size + 1 + s.size + 1 ≤ _
        omega

theorem txt_le {n m : Nat} (h : n ≤ m) {w : World} {e : Ending} {w' : World} (ht : TxtR n w e w') : TxtR m w e w' := by
  obtain ⟨hb, s, he, hs⟩ := ht
  exact ⟨hb, s, he, Nat.le_trans hs h⟩
theorem rshape {k o : Int} {n : Nat} (h : lnG k o n ≠ 0) : (k = 1 ∧ n = 0) ∨ (k = 2 ∧ n = 0) ∨ (k = 3 ∧ (o = 1 ∨ o = 2) ∧ n = 1) ∨ (k = 7 ∧ (o = 0 ∨ o = 1) ∧ n = 1) ∨ (k = 5 ∧ 1 ≤ o ∧ o ≤ 6 ∧ n = opn o.toNat) ∨ (k = 6 ∧ 1 ≤ o ∧ o ≤ 4 ∧ (n = 1 ∨ (n = 0 ∧ o = 1))) ∨ (k = 4 ∧ 3 ≤ o ∧ o ≤ 16 ∧ n = 2) := by
  unfold lnG at h
  split at h
  · rename_i h1; rcases h1 with ⟨rfl | rfl, h2⟩
    · exact .inl ⟨rfl, h2⟩
    · exact .inr (.inl ⟨rfl, h2⟩)
  split at h
  · rename_i h1; exact .inr (.inr (.inr (.inr (.inl h1))))
  split at h
  · rename_i h1; exact .inr (.inr (.inr (.inr (.inr (.inl h1)))))
  split at h
  · rename_i h1; exact .inr (.inr (.inl ⟨h1.1, .inr h1.2.1, h1.2.2⟩))
  split at h
  · rename_i h1; exact .inr (.inr (.inl ⟨h1.1, .inl h1.2.1, h1.2.2⟩))
  split at h
  · rename_i h1; exact .inr (.inr (.inr (.inl h1)))
  split at h
  · rename_i h1; exact .inr (.inr (.inr (.inr (.inr (.inr h1)))))
  · exact absurd rfl h
theorem pair_ways (p : Nat) (h : 3 ≤ p) (h' : p ≤ 16) : pairLn p = 1 ∨ pairLn p = 2 ∨ pairLn p = 4 ∨ pairLn p = 5 ∨ pairLn p = 6 ∨ pairLn p = 7 := by
  rcases (show p = 3 ∨ p = 4 ∨ p = 5 ∨ p = 6 ∨ p = 7 ∨ p = 8 ∨ p = 9 ∨ p = 10 ∨ p = 11 ∨ p = 12 ∨ p = 13 ∨ p = 14 ∨ p = 15 ∨ p = 16 by omega) with rfl | rfl | rfl | rfl | rfl | rfl | rfl | rfl | rfl | rfl | rfl | rfl | rfl | rfl <;> decide
theorem one_of {xs : List Ex} (h : xs.length = 1) : ∃ a, xs = [a] := by
  match xs, h with
  | [a], _ => exact ⟨a, rfl⟩
theorem two_of {xs : List Ex} (h : xs.length = 2) : ∃ a b, xs = [a, b] := by
  match xs, h with
  | [a, b], _ => exact ⟨a, b, rfl⟩
set_option maxRecDepth 100000 in
theorem prn_mk (k o : Int) (v : Vl) (tb nm : List UInt8) (col tp : Int) (xs : List Ex) (hN : 1 + v.text.length + tb.length + nm.length + bulkXL xs ≤ 1048576) (hvv : RV v) (hsub : ∀ i (h : i < xs.length), PrnOK xs[i]) (Q : Nat → Prop) (A : Option Addr) (c : Nat) (w : World) (m : Nat) (hm : xs.length = m) (hh : Held Q w xs (.slice A m c)) :
    Calls Tryz.prog 13 #[.agg #[.int .i64 k, .int .i64 o, .int .i64 v.kind, .int .i64 v.int, .string ⟨v.text.toArray⟩, .string ⟨tb.toArray⟩, .string ⟨nm.toArray⟩, .int .i64 col, .int .i64 tp, .slice A m c]] w (TxtR (30 * (1 + v.text.length + tb.length + nm.length + bulkXL xs) - 4) w) := by
  by_cases h0 : lnG k o m = 0
  · exact (prn_none k o m v tb nm col tp A c w h0).mono fun e w' h => txt_le (by omega) h
  rcases rshape h0 with ⟨rfl, h1⟩ | ⟨rfl, h1⟩ | ⟨rfl, ho, h1⟩ | ⟨rfl, ho, h1⟩ | ⟨rfl, ho1, ho2, h1⟩ | ⟨rfl, ho1, ho2, h1⟩ | ⟨rfl, ho1, ho2, h1⟩
  · subst h1
    exact (prn_lit o v tb nm col tp A c w hvv (by omega)).mono fun e w' h => txt_le (by omega) h
  · subst h1
    exact (prn_col o v tb nm col tp A c w (by omega) (by omega)).mono fun e w' h => txt_le (by omega) h
  · subst h1
    obtain ⟨a, rfl⟩ := one_of hm
    have hb : bulkXL [a] = bulkX a := by simp [bulkXL]
    rw [hb] at hN ⊢
    have ha : PrnOK a := hsub 0 (Nat.zero_lt_succ _)
    rcases ho with rfl | rfl
    · exact (prn_un v tb nm col tp A c w 1 8 (by decide) (by decide) (by simp [lnG]) (by decide) (by decide) a (by omega) ha Q hh).mono fun e w' h => txt_le (by omega) h
    · exact (prn_un v tb nm col tp A c w 2 3 (by decide) (by decide) (by simp [lnG]) (by decide) (by decide) a (by omega) ha Q hh).mono fun e w' h => txt_le (by omega) h
  · subst h1
    obtain ⟨a, rfl⟩ := one_of hm
    have hb : bulkXL [a] = bulkX a := by simp [bulkXL]
    rw [hb] at hN ⊢
    have ha : PrnOK a := hsub 0 (Nat.zero_lt_succ _)
    rcases ho with rfl | rfl
    · exact (prn_null0 v tb nm col tp A c w a (by omega) ha Q hh).mono fun e w' h => txt_le (by omega) h
    · exact (prn_null1 v tb nm col tp A c w a (by omega) ha Q hh).mono fun e w' h => txt_le (by omega) h
  · obtain ⟨p, rfl⟩ := Int.eq_ofNat_of_zero_le (show 0 ≤ o by omega)
    rw [show ((p : Nat) : Int).toNat = p from Int.toNat_natCast p] at h1
    exact (prn_fn v tb nm col tp A c w p m (by omega) (by omega) h1 xs hm (by omega) hsub Q hh).mono fun e w' h => txt_le (by omega) h
  · rcases h1 with h1 | ⟨h1, rfl⟩
    · subst h1
      obtain ⟨a, rfl⟩ := one_of hm
      have hb : bulkXL [a] = bulkX a := by simp [bulkXL]
      rw [hb] at hN ⊢
      have ha : PrnOK a := hsub 0 (Nat.zero_lt_succ _)
      obtain ⟨p, rfl⟩ := Int.eq_ofNat_of_zero_le (show 0 ≤ o by omega)
      exact (prn_ag v tb nm col tp A c w p (by omega) (by omega) a (by omega) ha Q hh).mono fun e w' h => txt_le (by omega) h
    · subst h1
      exact (prn_ag0 v tb nm col tp A c w).mono fun e w' h => txt_le (by omega) h
  · subst h1
    obtain ⟨a, b, rfl⟩ := two_of hm
    have hb : bulkXL [a, b] = bulkX a + bulkX b := by simp [bulkXL]
    rw [hb] at hN ⊢
    have ha : PrnOK a := hsub 0 (Nat.zero_lt_succ _)
    have hb2 : PrnOK b := hsub 1 (Nat.succ_lt_succ (Nat.zero_lt_succ _))
    obtain ⟨p, rfl⟩ := Int.eq_ofNat_of_zero_le (show 0 ≤ o by omega)
    rcases pair_ways p (by omega) (by omega) with hL | hL | hL | hL | hL | hL
    · exact (prn_binL v tb nm col tp A c w 1 (by decide) (by decide) (by decide) (by decide) (by decide) p (by omega) (by omega) hL a b (by omega) ha hb2 Q hh).mono fun e w' h => txt_le (by omega) h
    · exact (prn_binL v tb nm col tp A c w 2 (by decide) (by decide) (by decide) (by decide) (by decide) p (by omega) (by omega) hL a b (by omega) ha hb2 Q hh).mono fun e w' h => txt_le (by omega) h
    · exact (prn_bin4 v tb nm col tp A c w p (by omega) (by omega) hL a b (by omega) ha hb2 Q hh).mono fun e w' h => txt_le (by omega) h
    · exact (prn_binL v tb nm col tp A c w 5 (by decide) (by decide) (by decide) (by decide) (by decide) p (by omega) (by omega) hL a b (by omega) ha hb2 Q hh).mono fun e w' h => txt_le (by omega) h
    · exact (prn_binL v tb nm col tp A c w 6 (by decide) (by decide) (by decide) (by decide) (by decide) p (by omega) (by omega) hL a b (by omega) ha hb2 Q hh).mono fun e w' h => txt_le (by omega) h
    · exact (prn_binL v tb nm col tp A c w 7 (by decide) (by decide) (by decide) (by decide) (by decide) p (by omega) (by omega) hL a b (by omega) ha hb2 Q hh).mono fun e w' h => txt_le (by omega) h
theorem prn_step (x : Ex) (hN : bulkX x ≤ 1048576) (hv : rvX x) (hsub : ∀ i (h : i < x.args.length), PrnOK x.args[i]) : PrnOK x := by
  intro Q A c w hh
  obtain ⟨k, o, v, tb, nm, col, tp, xs⟩ := x
  have hbk : bulkX (.mk k o v tb nm col tp xs) = 1 + v.text.length + tb.length + nm.length + bulkXL xs := by rw [bulkX]
  rw [hbk] at hN ⊢
  exact prn_mk k o v tb nm col tp xs hN (rvX_v hv) hsub Q A c w xs.length rfl hh
theorem prn_any (x : Ex) (hN : bulkX x ≤ 1048576) (hv : rvX x) : PrnOK x :=
  prn_step x hN hv fun i h => prn_any x.args[i] (by have h1 := bulkXL_mem (List.getElem_mem h); rw [bulkX_eq x] at hN; omega) (rvXL_mem (rvX_args hv) _ (List.getElem_mem h))
termination_by SizeOf.sizeOf x
decreasing_by exact args_lt x i h

def noE : Ex := litE (vTru false)
def yesE : Ex := litE (vTru true)
def numE (n : Int) : Ex := litE (vNum n)
theorem decAnd (row : List Vl) (x : Ex) : evE row [] (pairE 4 noE x) = .ok (vTru false) := by kernel_rfl
theorem decOr (row : List Vl) (x : Ex) : evE row [] (pairE 3 yesE x) = .ok (vTru true) := by kernel_rfl
theorem decCo (row : List Vl) (n : Int) (x : Ex) : evE row [] (callE 5 6 [numE n, x]) = .ok (vNum n) := by kernel_rfl
theorem rvAnd {x : Ex} (h : rvX x) : rvX (pairE 4 noE x) := by
  simp only [pairE, noE, litE, rvX, rvXL, and_true]
  exact ⟨.null, .bool false, h⟩
theorem rvOr {x : Ex} (h : rvX x) : rvX (pairE 3 yesE x) := by
  simp only [pairE, yesE, litE, rvX, rvXL, and_true]
  exact ⟨.null, .bool true, h⟩
theorem rvCo {x : Ex} {n : Int} (hn : inI n) (h : rvX x) : rvX (callE 5 6 [numE n, x]) := by
  simp only [callE, numE, litE, rvX, rvXL, and_true]
  exact ⟨.null, .num n hn, h⟩
abbrev twoK (k n : Int) (x : Ex) (s : Value) : Obj := .cells #[.int .i64 1, .int .i64 0, .int .i64 k, .int .i64 n, .string ⟨#[]⟩, .string ⟨#[]⟩, .string ⟨#[]⟩, .int .i64 0, .int .i64 0, .slice none 0 0, .int .i64 x.kind, .int .i64 x.op, .int .i64 x.v.kind, .int .i64 x.v.int, .string ⟨x.v.text.toArray⟩, .string ⟨x.table.toArray⟩, .string ⟨x.name.toArray⟩, .int .i64 x.col, .int .i64 x.ty, s] 26 (0, 0)
theorem held_two {P : Nat → Prop} {W : World} {b : Nat} (hP : P b) {k n : Int} {x : Ex} {s : Value} (h : W.heap[b]? = some (twoK k n x s)) (hh : Held P W x.args s) : Held P W [litE ⟨k, n, []⟩, x] (.slice (some ⟨b, 0, none⟩) 2 2) :=
  held_of_blk hP [(litE ⟨k, n, []⟩, .slice none 0 0), (x, s)] (by exact h) (fun p hp => by
    rcases (by simpa using hp : p = (litE ⟨k, n, []⟩, .slice none 0 0) ∨ p = (x, s)) with rfl | rfl
    · exact .nil _ _
    · exact hh)
theorem evalT (us : List Vl) {k o kk n : Int} {x : Ex} {r : Ev} (hx : rvX (.mk k o vNull [] [] 0 0 [litE ⟨kk, n, []⟩, x])) (he : evE us [] (.mk k o vNull [] [] 0 0 [litE ⟨kk, n, []⟩, x]) = r) (hu : (us.all fun v => chkV v == 0) = true) {b : Nat} {A : Option Addr} {m c : Nat} (RA : Option Addr) (ca : Nat) {w : World} (hrow : RowW w RA us) (hk : w.heap[b]? = some (twoK kk n x (.slice A m c))) (hh : Held (fun _ => True) w x.args (.slice A m c)) :
    Calls Tryz.prog 11 #[.agg #[.int .i64 k, .int .i64 o, .int .i64 0, .int .i64 0, .string ⟨#[]⟩, .string ⟨#[]⟩, .string ⟨#[]⟩, .int .i64 0, .int .i64 0, .slice (some ⟨b, 0, none⟩) 2 2], .slice RA us.length ca, .slice none 0 0] w fun e w' => e = .returned (.tuple #[vC (resVal r), .int .i64 (resNum r)]) ∧ Below w.heap.size w w' := by
  subst he
  exact (eval_calls us [] (.mk k o vNull [] [] 0 0 [litE ⟨kk, n, []⟩, x]) hx _ _ (some ⟨b, 0, none⟩) RA none 2 ca 0 w (hrow.env hu) (held_two (P := fun _ => True) trivial hk hh)).mono fun e w' h => ev2_form h

set_option maxRecDepth 100000 in
theorem decides_calls (x : Ex) (hN : bulkX x ≤ 1048576) (hr : rngX x) (A : Option Addr) (c : Nat) (us : List Vl) (RA : Option Addr) (ca : Nat) (n : Int) (hn : inI n) (w : World) (hl : LexW w) (hh : Held (fun _ => True) w x.args (.slice A x.args.length c)) (ha : RowW w RA us) :
    Calls Tryz.prog 5 #[exV x (.slice A x.args.length c), .slice RA us.length ca, .int .i64 n] w fun e w' => e = .returned (.bool true) ∧ Below w.heap.size w w' := by
  have HH := Asd.mk hh
  have HA := Asd.mk ha
  have HI := Asd.mk hn
  have HN := Asd.mk hN
  have HRN := Asd.mk hr
  have HRI := Asd.mk (rights_ok x (few_of x hN))
  have HSI := Asd.mk (size_ok x hN)
  have HRA := Asd.mk (row_calls us ha.len RA ca)
  have HPR : Asd (rvX x → PrnOK x) := Asd.mk (prn_any x hN)
  have HX := Asd.mk (blk_new w (xK x (.slice A x.args.length c)))
  have HB : Asd (Below w.heap.size w (w.alloc (xK x (.slice A x.args.length c)))) := Asd.mk (below_alloc (Below.refl _ _) _)
  have HL := Asd.mk hl
  clear hh ha hN hr hl hn
  unfold RightsOK at HRI
  unfold SizeOK at HSI
  unfold PrnOK at HPR
  generalize hm : x.args.length = m at HX HB HH HRI HSI HPR ⊢
  have HM := Asd.mk hm
  clear hm
  unfold exV
  go_enter Tryz.func5, Tryz.ntmps5
  go_upto_region 1 with fail
  generalize w.alloc _ = w1 at HX HB ⊢
  go_wp2_with fail
  refine (works16_calls _ (HL.out.below HB.out)).mono ?_
  rintro e w2 ⟨rfl, hb2⟩
  have HB2 : Asd (Below w.heap.size w w2) := Asd.mk (HB.out.trans (hb2.mono HB.out.size))
  have HX2 := Asd.mk (blk_below hb2 HX.out)
  clear hb2 HB HX
  have HHK : Asd (∀ w', Below w2.heap.size w2 w' → Held (fun _ => True) w' x.args (.slice A m c)) := Asd.mk fun w' h => held_below HH.out (chain_below HB2.out h HB2.out.size)
  have HAK : Asd (∀ w', Below w2.heap.size w2 w' → RowW w' RA us) := Asd.mk fun w' h => HA.out.below (chain_below HB2.out h HB2.out.size)
  have HBs : Asd (Below w2.heap.size w2 w2) := Asd.mk (Below.refl _ _)
  clear HH HA
  obtain ⟨f0, f1, f2, f3, f4, f5, f6, f7, f8, f9⟩ := ex_cells (x := x) (blk_below HBs.out HX2.out)
  go_wp2_with fail
  refine (HRI.out _ A c _ (HHK.out _ HBs.out)).mono ?_
  rintro e wa0 ⟨rfl, hb0⟩
  have HBa0 : Asd (Below w2.heap.size w2 wa0) := Asd.mk (below_step HBs.out hb0)
  clear f0 f1 f2 f3 f4 f5 f6 f7 f8 f9 hb0
  cases h0 : rightX x with
  | false =>
    have HBE := Asd.mk (chain_below HB2.out HBa0.out HB2.out.size)
    go_wp2
    go_ret
    exact ⟨ret_eq rfl, HBE.out⟩
  | true =>
    obtain ⟨f0, f1, f2, f3, f4, f5, f6, f7, f8, f9⟩ := ex_cells (x := x) (blk_below HBa0.out HX2.out)
    go_wp2_with fail
    refine (HRA.out _ (HAK.out _ HBa0.out).vals).mono ?_
    rintro e wa1 ⟨rfl, hb1⟩
    have HBa1 : Asd (Below w2.heap.size w2 wa1) := Asd.mk (below_step HBa0.out hb1)
    clear f0 f1 f2 f3 f4 f5 f6 f7 f8 f9 hb1
    cases h1 : (us.all fun v => chkV v == 0) with
    | false =>
      have HBE := Asd.mk (chain_below HB2.out HBa1.out HB2.out.size)
      go_wp2
      go_ret
      exact ⟨ret_eq rfl, HBE.out⟩
    | true =>
      obtain ⟨f0, f1, f2, f3, f4, f5, f6, f7, f8, f9⟩ := ex_cells (x := x) (blk_below HBa1.out HX2.out)
      go_wp2_with fail
      refine (HSI.out _ A c _ (HHK.out _ HBa1.out)).mono ?_
      rintro e wa2 ⟨rfl, hb2⟩
      have HBa2 : Asd (Below w2.heap.size w2 wa2) := Asd.mk (below_step HBa1.out hb2)
      clear f0 f1 f2 f3 f4 f5 f6 f7 f8 f9 hb2
      cases h2 : decide (300 < ((sizeX x : Nat) : Int)) with
      | true =>
        have HBE := Asd.mk (chain_below HB2.out HBa2.out HB2.out.size)
        go_wp2
        go_ret
        exact ⟨ret_eq rfl, HBE.out⟩
      | false =>
        obtain ⟨f0, f1, f2, f3, f4, f5, f6, f7, f8, f9⟩ := ex_cells (x := x) (blk_below HBa2.out HX2.out)
        have HR1 := Asd.mk h0
        have HR2 := Asd.mk h1
        have HRV := Asd.mk (rvX_of x h0 HRN.out HN.out)
        clear HRI HSI HRA
        go_wp2_with fail
        refine (HPR.out HRV.out _ A c _ (HHK.out _ HBa2.out)).mono ?_
        rintro e wp ⟨hbp, sp, rfl, hsp⟩
        have HBp : Asd (Below w2.heap.size w2 wp) := Asd.mk (below_step HBa2.out hbp)
        clear hbp hsp HPR h0 h1 h2
        clear f0 f1 f2 f3 f4 f5 f6 f7 f8 f9
        cases hse : sp.toList.isEmpty with
        | true =>
          have HBE := Asd.mk (chain_below HB2.out HBp.out HB2.out.size)
          go_wp2
          go_ret
          exact ⟨ret_eq rfl, HBE.out⟩
        | false =>
          have hba : Below wp.heap.size wp (wp.alloc (.cells #[.int .i64 1, .int .i64 0, .int .i64 1, .int .i64 0, .string ⟨#[]⟩, .string ⟨#[]⟩, .string ⟨#[]⟩, .int .i64 0, .int .i64 0, .slice none 0 0] 26 (0, 0))) := below_alloc (Below.refl _ _) _
          have Hu1 := Asd.mk (blk_new wp (.cells #[.int .i64 1, .int .i64 0, .int .i64 1, .int .i64 0, .string ⟨#[]⟩, .string ⟨#[]⟩, .string ⟨#[]⟩, .int .i64 0, .int .i64 0, .slice none 0 0] 26 (0, 0)))
          have HBu1 := Asd.mk (below_step HBp.out hba)
          go_upto_region 6 with fail
          clear hba
          generalize wp.alloc (.cells #[.int .i64 1, .int .i64 0, .int .i64 1, .int .i64 0, .string ⟨#[]⟩, .string ⟨#[]⟩, .string ⟨#[]⟩, .int .i64 0, .int .i64 0, .slice none 0 0] 26 (0, 0)) = u1 at Hu1 HBu1  ⊢
          have hba : Below u1.heap.size u1 (u1.alloc (.cells #[.int .i64 1, .int .i64 0, .int .i64 1, .int .i64 1, .string ⟨#[]⟩, .string ⟨#[]⟩, .string ⟨#[]⟩, .int .i64 0, .int .i64 0, .slice none 0 0] 26 (0, 0))) := below_alloc (Below.refl _ _) _
          have Hu2 := Asd.mk (blk_new u1 (.cells #[.int .i64 1, .int .i64 0, .int .i64 1, .int .i64 1, .string ⟨#[]⟩, .string ⟨#[]⟩, .string ⟨#[]⟩, .int .i64 0, .int .i64 0, .slice none 0 0] 26 (0, 0)))
          have HBu2 := Asd.mk (below_step HBu1.out hba)
          have Hu1 := Asd.mk (blk_below hba Hu1.out)
          go_upto_region 7 with fail
          clear hba
          generalize u1.alloc (.cells #[.int .i64 1, .int .i64 0, .int .i64 1, .int .i64 1, .string ⟨#[]⟩, .string ⟨#[]⟩, .string ⟨#[]⟩, .int .i64 0, .int .i64 0, .slice none 0 0] 26 (0, 0)) = u2 at Hu2 HBu2 Hu1 ⊢
          have hba : Below u2.heap.size u2 (u2.alloc (.cells #[.int .i64 1, .int .i64 0, .int .i64 2, .int .i64 n, .string ⟨#[]⟩, .string ⟨#[]⟩, .string ⟨#[]⟩, .int .i64 0, .int .i64 0, .slice none 0 0] 26 (0, 0))) := below_alloc (Below.refl _ _) _
          have Hu3 := Asd.mk (blk_new u2 (.cells #[.int .i64 1, .int .i64 0, .int .i64 2, .int .i64 n, .string ⟨#[]⟩, .string ⟨#[]⟩, .string ⟨#[]⟩, .int .i64 0, .int .i64 0, .slice none 0 0] 26 (0, 0)))
          have HBu3 := Asd.mk (below_step HBu2.out hba)
          have Hu1 := Asd.mk (blk_below hba Hu1.out)
          have Hu2 := Asd.mk (blk_below hba Hu2.out)
          go_upto_region 8 with fail
          clear hba
          generalize u2.alloc (.cells #[.int .i64 1, .int .i64 0, .int .i64 2, .int .i64 n, .string ⟨#[]⟩, .string ⟨#[]⟩, .string ⟨#[]⟩, .int .i64 0, .int .i64 0, .slice none 0 0] 26 (0, 0)) = u3 at Hu3 HBu3 Hu1 Hu2 ⊢
          obtain ⟨f0, f1, f2, f3, f4, f5, f6, f7, f8, f9⟩ := ex_cells (x := x) (blk_below HBu3.out HX2.out)
          have y0 := (blk_cell Hu1.out 0).trans rfl
          have y1 := (blk_cell Hu1.out 1).trans rfl
          have y2 := (blk_cell Hu1.out 2).trans rfl
          have y3 := (blk_cell Hu1.out 3).trans rfl
          have y4 := (blk_cell Hu1.out 4).trans rfl
          have y5 := (blk_cell Hu1.out 5).trans rfl
          have y6 := (blk_cell Hu1.out 6).trans rfl
          have y7 := (blk_cell Hu1.out 7).trans rfl
          have y8 := (blk_cell Hu1.out 8).trans rfl
          have y9 := (blk_cell Hu1.out 9).trans rfl
          have hba : Below u3.heap.size u3 (u3.alloc (twoK 1 (0) x (.slice A m c))) := below_alloc (Below.refl _ _) _
          have HKa := Asd.mk (blk_new u3 (twoK 1 (0) x (.slice A m c)))
          have HBka := Asd.mk (below_step HBu3.out hba)
          have Hu1 := Asd.mk (blk_below hba Hu1.out)
          have Hu2 := Asd.mk (blk_below hba Hu2.out)
          have Hu3 := Asd.mk (blk_below hba Hu3.out)
          clear hba
          go_wp2_with fail
          refine (evalT us (kk := 1) (n := 0) (k := 4) (o := 4) (rvAnd HRV.out) (decAnd us x) HR2.out RA ca (HAK.out _ HBka.out) HKa.out (HHK.out _ HBka.out)).mono ?_
          rintro e wra ⟨rfl, hbr⟩
          have HBra := Asd.mk (below_step HBka.out hbr)
          have Hu1 := Asd.mk (blk_below hbr Hu1.out)
          have Hu2 := Asd.mk (blk_below hbr Hu2.out)
          have Hu3 := Asd.mk (blk_below hbr Hu3.out)
          clear hbr HKa HBka y0 y1 y2 y3 y4 y5 y6 y7 y8 y9
          clear f0 f1 f2 f3 f4 f5 f6 f7 f8 f9
          rw [show vC (resVal (.ok (vTru false))) = .agg #[.int .i64 1, .int .i64 0, .string ⟨#[]⟩] from rfl]
          simp only [resNum]
          have hba : Below wra.heap.size wra (wra.alloc (.cells #[.int .i64 1, .int .i64 0, .string ⟨#[]⟩] 23 (0, 0))) := below_alloc (Below.refl _ _) _
          have Hva := Asd.mk (blk_new wra (.cells #[.int .i64 1, .int .i64 0, .string ⟨#[]⟩] 23 (0, 0)))
          have HBva := Asd.mk (below_step HBra.out hba)
          have Hu1 := Asd.mk (blk_below hba Hu1.out)
          have Hu2 := Asd.mk (blk_below hba Hu2.out)
          have Hu3 := Asd.mk (blk_below hba Hu3.out)
          go_upto_region 9 with fail
          clear hba
          generalize wra.alloc (.cells #[.int .i64 1, .int .i64 0, .string ⟨#[]⟩] 23 (0, 0)) = va at Hva HBva Hu1 Hu2 Hu3 ⊢
          obtain ⟨f0, f1, f2, f3, f4, f5, f6, f7, f8, f9⟩ := ex_cells (x := x) (blk_below HBva.out HX2.out)
          have y0 := (blk_cell Hu2.out 0).trans rfl
          have y1 := (blk_cell Hu2.out 1).trans rfl
          have y2 := (blk_cell Hu2.out 2).trans rfl
          have y3 := (blk_cell Hu2.out 3).trans rfl
          have y4 := (blk_cell Hu2.out 4).trans rfl
          have y5 := (blk_cell Hu2.out 5).trans rfl
          have y6 := (blk_cell Hu2.out 6).trans rfl
          have y7 := (blk_cell Hu2.out 7).trans rfl
          have y8 := (blk_cell Hu2.out 8).trans rfl
          have y9 := (blk_cell Hu2.out 9).trans rfl
          have hba : Below va.heap.size va (va.alloc (twoK 1 (1) x (.slice A m c))) := below_alloc (Below.refl _ _) _
          have HKb := Asd.mk (blk_new va (twoK 1 (1) x (.slice A m c)))
          have HBkb := Asd.mk (below_step HBva.out hba)
          have Hu1 := Asd.mk (blk_below hba Hu1.out)
          have Hu2 := Asd.mk (blk_below hba Hu2.out)
          have Hu3 := Asd.mk (blk_below hba Hu3.out)
          have Hva := Asd.mk (blk_below hba Hva.out)
          clear hba
          go_wp2_with fail
          refine (evalT us (kk := 1) (n := 1) (k := 4) (o := 3) (rvOr HRV.out) (decOr us x) HR2.out RA ca (HAK.out _ HBkb.out) HKb.out (HHK.out _ HBkb.out)).mono ?_
          rintro e wrb ⟨rfl, hbr⟩
          have HBrb := Asd.mk (below_step HBkb.out hbr)
          have Hu1 := Asd.mk (blk_below hbr Hu1.out)
          have Hu2 := Asd.mk (blk_below hbr Hu2.out)
          have Hu3 := Asd.mk (blk_below hbr Hu3.out)
          have Hva := Asd.mk (blk_below hbr Hva.out)
          clear hbr HKb HBkb y0 y1 y2 y3 y4 y5 y6 y7 y8 y9
          clear f0 f1 f2 f3 f4 f5 f6 f7 f8 f9
          rw [show vC (resVal (.ok (vTru true))) = .agg #[.int .i64 1, .int .i64 1, .string ⟨#[]⟩] from rfl]
          simp only [resNum]
          have hba : Below wrb.heap.size wrb (wrb.alloc (.cells #[.int .i64 1, .int .i64 1, .string ⟨#[]⟩] 23 (0, 0))) := below_alloc (Below.refl _ _) _
          have Hvb := Asd.mk (blk_new wrb (.cells #[.int .i64 1, .int .i64 1, .string ⟨#[]⟩] 23 (0, 0)))
          have HBvb := Asd.mk (below_step HBrb.out hba)
          have Hu1 := Asd.mk (blk_below hba Hu1.out)
          have Hu2 := Asd.mk (blk_below hba Hu2.out)
          have Hu3 := Asd.mk (blk_below hba Hu3.out)
          have Hva := Asd.mk (blk_below hba Hva.out)
          go_upto_region 10 with fail
          clear hba
          generalize wrb.alloc (.cells #[.int .i64 1, .int .i64 1, .string ⟨#[]⟩] 23 (0, 0)) = vb at Hvb HBvb Hu1 Hu2 Hu3 Hva ⊢
          obtain ⟨f0, f1, f2, f3, f4, f5, f6, f7, f8, f9⟩ := ex_cells (x := x) (blk_below HBvb.out HX2.out)
          have y0 := (blk_cell Hu3.out 0).trans rfl
          have y1 := (blk_cell Hu3.out 1).trans rfl
          have y2 := (blk_cell Hu3.out 2).trans rfl
          have y3 := (blk_cell Hu3.out 3).trans rfl
          have y4 := (blk_cell Hu3.out 4).trans rfl
          have y5 := (blk_cell Hu3.out 5).trans rfl
          have y6 := (blk_cell Hu3.out 6).trans rfl
          have y7 := (blk_cell Hu3.out 7).trans rfl
          have y8 := (blk_cell Hu3.out 8).trans rfl
          have y9 := (blk_cell Hu3.out 9).trans rfl
          have hba : Below vb.heap.size vb (vb.alloc (twoK 2 (n) x (.slice A m c))) := below_alloc (Below.refl _ _) _
          have HKd := Asd.mk (blk_new vb (twoK 2 (n) x (.slice A m c)))
          have HBkd := Asd.mk (below_step HBvb.out hba)
          have Hu1 := Asd.mk (blk_below hba Hu1.out)
          have Hu2 := Asd.mk (blk_below hba Hu2.out)
          have Hu3 := Asd.mk (blk_below hba Hu3.out)
          have Hva := Asd.mk (blk_below hba Hva.out)
          have Hvb := Asd.mk (blk_below hba Hvb.out)
          clear hba
          go_wp2_with fail
          refine (evalT us (kk := 2) (n := n) (k := 5) (o := 6) (rvCo HI.out HRV.out) (decCo us n x) HR2.out RA ca (HAK.out _ HBkd.out) HKd.out (HHK.out _ HBkd.out)).mono ?_
          rintro e wrd ⟨rfl, hbr⟩
          have HBrd := Asd.mk (below_step HBkd.out hbr)
          have Hu1 := Asd.mk (blk_below hbr Hu1.out)
          have Hu2 := Asd.mk (blk_below hbr Hu2.out)
          have Hu3 := Asd.mk (blk_below hbr Hu3.out)
          have Hva := Asd.mk (blk_below hbr Hva.out)
          have Hvb := Asd.mk (blk_below hbr Hvb.out)
          clear hbr HKd HBkd y0 y1 y2 y3 y4 y5 y6 y7 y8 y9
          clear f0 f1 f2 f3 f4 f5 f6 f7 f8 f9
          rw [show vC (resVal (.ok (vNum n))) = .agg #[.int .i64 2, .int .i64 n, .string ⟨#[]⟩] from rfl]
          simp only [resNum]
          have hba : Below wrd.heap.size wrd (wrd.alloc (.cells #[.int .i64 2, .int .i64 n, .string ⟨#[]⟩] 23 (0, 0))) := below_alloc (Below.refl _ _) _
          have Hvd := Asd.mk (blk_new wrd (.cells #[.int .i64 2, .int .i64 n, .string ⟨#[]⟩] 23 (0, 0)))
          have HBvd := Asd.mk (below_step HBrd.out hba)
          have Hu1 := Asd.mk (blk_below hba Hu1.out)
          have Hu2 := Asd.mk (blk_below hba Hu2.out)
          have Hu3 := Asd.mk (blk_below hba Hu3.out)
          have Hva := Asd.mk (blk_below hba Hva.out)
          have Hvb := Asd.mk (blk_below hba Hvb.out)
          go_upto_region 11 with fail
          clear hba
          generalize wrd.alloc (.cells #[.int .i64 2, .int .i64 n, .string ⟨#[]⟩] 23 (0, 0)) = vd at Hvd HBvd Hu1 Hu2 Hu3 Hva Hvb ⊢
          have p02 := (blk_cell Hu1.out 2).trans rfl
          have p03 := (blk_cell Hu1.out 3).trans rfl
          have p04 := (blk_cell Hu1.out 4).trans rfl
          have q00 := (blk_cell Hva.out 0).trans rfl
          have q01 := (blk_cell Hva.out 1).trans rfl
          have q02 := (blk_cell Hva.out 2).trans rfl
          have p12 := (blk_cell Hu2.out 2).trans rfl
          have p13 := (blk_cell Hu2.out 3).trans rfl
          have p14 := (blk_cell Hu2.out 4).trans rfl
          have q10 := (blk_cell Hvb.out 0).trans rfl
          have q11 := (blk_cell Hvb.out 1).trans rfl
          have q12 := (blk_cell Hvb.out 2).trans rfl
          have p22 := (blk_cell Hu3.out 2).trans rfl
          have p23 := (blk_cell Hu3.out 3).trans rfl
          have p24 := (blk_cell Hu3.out 4).trans rfl
          have q20 := (blk_cell Hvd.out 0).trans rfl
          have q21 := (blk_cell Hvd.out 1).trans rfl
          have q22 := (blk_cell Hvd.out 2).trans rfl
          have e1 : ∀ W, (binOp .eql 23 (.agg #[.int .i64 1, .int .i64 0, .string ⟨#[]⟩]) (.agg #[.int .i64 1, .int .i64 0, .string ⟨#[]⟩])).run Tryz.prog W = .ok (.bool true) W := fun W => by rw [val_eql]; simp
          have e2 : ∀ W, (binOp .eql 23 (.agg #[.int .i64 1, .int .i64 1, .string ⟨#[]⟩]) (.agg #[.int .i64 1, .int .i64 1, .string ⟨#[]⟩])).run Tryz.prog W = .ok (.bool true) W := fun W => by rw [val_eql]; simp
          have e3 : ∀ W, (binOp .eql 23 (.agg #[.int .i64 2, .int .i64 n, .string ⟨#[]⟩]) (.agg #[.int .i64 2, .int .i64 n, .string ⟨#[]⟩])).run Tryz.prog W = .ok (.bool true) W := fun W => by rw [val_eql]; simp
          have HBE := Asd.mk (chain_below HB2.out HBvd.out HB2.out.size)
          go_wp2
          go_ret
          exact ⟨ret_eq rfl, HBE.out⟩

set_option maxRecDepth 100000 in
theorem decides_raw {H : Type} {enc : TypeId × Value → H} (W : World) (v0 : Value) (d0 : DataW H) (p0 : List MemPlace) {base : Nat} (ok0 : Value.okWide Tryz.prog W .any base 26 v0) (h0 : DataW.Trod enc Tryz.prog W 0 (fun _ => true) true 26 v0 d0 p0) (b0 : Rows.uptoBulk d0 ≤ 1048576) (z0 : W.noneFrozen p0)
    (v1 : Value) (d1 : DataW H) (p1 : List MemPlace) (ok1 : Value.okWide Tryz.prog W .any base 27 v1) (h1 : DataW.Trod enc Tryz.prog W 0 (fun _ => true) true 27 v1 d1 p1) (b1 : Rows.uptoBulk d1 ≤ 1048576) (z1 : W.noneFrozen p1)
    (n : Int) (hn : (Lit.int .i64 n).wf = true) (hl : LexW W) :
    Calls Tryz.prog 5 #[v0, v1, .int .i64 n] W fun e w' => e = .returned (.bool true) ∧ Below W.heap.size W w' := by
  obtain ⟨x, A, c, rfl, hh, hbk, hr⟩ := open_exv W v0 d0 p0 h0 b0 z0
  obtain ⟨RA, ca, us, rfl, hra⟩ := open_rowv W v1 d1 p1 ok1 h1 b1
  exact decides_calls x hbk hr A c us RA ca n (int_in hn) W hl hh hra
end Go.Proofs.YtbeeaikilcnpgaaGreatDoor.Exp
