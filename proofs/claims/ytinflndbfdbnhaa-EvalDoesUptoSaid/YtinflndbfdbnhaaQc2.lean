/- Texts put together: Rbn, Shelf, Kw, Val, Litp, BldB, Bld, Lit, Num, Rlit, Ck5, Ck6, Ck7, Ck8, Ck9, Rle. -/
import Derived.Test.YtinflndbfdbnhaaQc1
import Derived.Shelf.Strings.Builder1
import Derived.Shelf.Small.Strs
import Derived.Shelf.Small.Wraps
import Derived.Shelf.Strings.BuilderF
import Derived.Shelf.Strings.BuilderK
import Derived.Shelf.Strings.Search1
import Derived.Shelf.Strings.Search2
import Derived.Shelf.Strings.Search3
import Derived.Shelf.LaysM
import Derived.Shelf.Strings.Shaped
import Derived.Shelf.Bits.Mul64
import Derived.Shelf.Strings.BuilderCap
import Derived.Ground.Names2Prog
import Derived.Shelf.Slices.Clone
import Derived.Shelf.Slices.SearchI
import Derived.Test.YtinflndbfdbnhaaProg
import Derived.KernelRfl
import Derived.OwnWalk
import Derived.RegionTactic
import Derived.ChangeAlike
import Derived.Deep.QuietTactic
import Derived.BigQuiet
import Derived.Deep.RegionWith
import Derived.WalkSpells
import Derived.WalkLawsBesides
import Derived.Outline
import Derived.Lib.IndexLaws
import Derived.Lib.Replace
import Derived.Lib.ItoaNum
import Derived.Laws.Bits64
/- quarryref02.Binary. -/
set_option linter.unusedVariables false
set_option linter.unusedSimpArgs false
namespace Go.Proofs.Ytinflndbfdbnhaa.Exp
open Go.RowKit Go.Proofs.Ytinflndbfdbnhaa.Base Go.Proofs.Ytinflndbfdbnhaa.App Go.Proofs.Ytinflndbfdbnhaa.Byt

def RbW (W : World) (g : Nat) (a b : Vl) : Prop := W.heap[g]? = some (vK a) ∧ W.heap[g + 1]? = some (vK b) ∧ W.heap[g + 2]? = some zeroV
theorem rbw_new (w : World) (a b : Vl) : RbW (((w.alloc (vK a)).alloc (vK b)).alloc zeroV) w.heap.size a b :=
  ⟨blk_alloc (blk_alloc (blk_new w _) _) _, blk_alloc (nb1 w _ _) _, nb2 w _ _ _⟩
theorem ev2_er {r : Ev} {w w' : World} {n : Int} (h : r = .error n) (hb : Below w.heap.size w w') : Ev2 r w (.returned (.tuple #[vC vNull, .int .i64 n])) w' := ⟨hb, by rw [h]⟩
theorem ev2_yes {r : Ev} {w w' : World} {v : Vl} (h : r = .ok v) (hb : Below w.heap.size w w') : Ev2 r w (.returned (.tuple #[vC v, .int .i64 0])) w' := ⟨hb, by rw [h]⟩
theorem txt_app (s t : List UInt8) : (⟨(s ++ t).toArray⟩ : ByteArray) = ⟨s.toArray⟩ ++ ⟨t.toArray⟩ := by
  apply ByteArray.ext
  rw [ByteArray.data_append]
  simp
theorem RbW.below {W W' : World} {g : Nat} {a b : Vl} (h : RbW W g a b) (hb : Below W.heap.size W W') : RbW W' g a b := ⟨blk_below hb h.1, blk_below hb h.2.1, blk_below hb h.2.2⟩
set_option maxRecDepth 100000 in
set_option maxHeartbeats 6400000 in
theorem rbin_a (op : Int) (h : 3 ≤ op) (h' : op ≤ 16) (a b : Vl) (hka : (a.kind == 0) = false) (hga : goesP op a.kind = false) (HR : Asd (binP op a b = .error 35)) (w : World) : Calls Try.prog 30 #[.int .i64 op, vC a, vC b] w (Ev2 (binP op a b) w) := by
  have HGA : Asd (∀ W, Calls Try.prog 73 #[.int .i64 op, .int .i64 a.kind] W fun e w' => e = .returned (.bool false) ∧ w' = W) := Asd.mk fun W => by rw [← hga]; exact rgoes_calls op a.kind h h' W
  clear hga
  have HL := Asd.mk (rbw_new w a b)
  have HB : Asd (Below w.heap.size w (((w.alloc (vK a)).alloc (vK b)).alloc zeroV)) := Asd.mk (below_alloc (below_alloc (below_alloc (Below.refl _ _) _) _) _)
  unfold vC
  go_enter Try.func30, Try.ntmps30
  go_upto_region 1 with fail
  generalize ((w.alloc _).alloc _).alloc _ = w1 at HL HB ⊢
  obtain ⟨a0, a1, a2⟩ := val_cells (v := a) HL.out.1
  obtain ⟨b0, b1, b2⟩ := val_cells (v := b) HL.out.2.1
  obtain ⟨⟨x0, x1, x2⟩, y0, y1, y2⟩ := zero_cells HL.out.2.2
  go_wp2_with fail
  refine (HGA.out _).mono ?_
  rintro e w2 ⟨rfl, rfl⟩
  go_wp2
  refine val_ret2 rfl (w.heap.size + 2) _ _ _ rfl (put3_blk HL.out.2.2 _ _ _) rfl ?_
  exact ev2_er HR.out (below_put3 HB.out (by omega) _ _ _)
set_option maxRecDepth 100000 in
set_option maxHeartbeats 6400000 in
theorem rbin_bn (op : Int) (h : 3 ≤ op) (h' : op ≤ 16) (a b : Vl) (hka : (a.kind == 0) = true) (hga : goesP op a.kind = true) (hgb : goesP op b.kind = false) (HR : Asd (binP op a b = .error 35)) (w : World) : Calls Try.prog 30 #[.int .i64 op, vC a, vC b] w (Ev2 (binP op a b) w) := by
  have HGA : Asd (∀ W, Calls Try.prog 73 #[.int .i64 op, .int .i64 a.kind] W fun e w' => e = .returned (.bool true) ∧ w' = W) := Asd.mk fun W => by rw [← hga]; exact rgoes_calls op a.kind h h' W
  have HGB : Asd (∀ W, Calls Try.prog 73 #[.int .i64 op, .int .i64 b.kind] W fun e w' => e = .returned (.bool false) ∧ w' = W) := Asd.mk fun W => by rw [← hgb]; exact rgoes_calls op b.kind h h' W
  clear hga hgb
  have HL := Asd.mk (rbw_new w a b)
  have HB : Asd (Below w.heap.size w (((w.alloc (vK a)).alloc (vK b)).alloc zeroV)) := Asd.mk (below_alloc (below_alloc (below_alloc (Below.refl _ _) _) _) _)
  unfold vC
  go_enter Try.func30, Try.ntmps30
  go_upto_region 1 with fail
  generalize ((w.alloc _).alloc _).alloc _ = w1 at HL HB ⊢
  obtain ⟨a0, a1, a2⟩ := val_cells (v := a) HL.out.1
  obtain ⟨b0, b1, b2⟩ := val_cells (v := b) HL.out.2.1
  obtain ⟨⟨x0, x1, x2⟩, y0, y1, y2⟩ := zero_cells HL.out.2.2
  go_wp2_with fail
  refine (HGA.out _).mono ?_
  rintro e w2 ⟨rfl, rfl⟩
  go_wp2_with fail
  refine (HGB.out _).mono ?_
  rintro e w2 ⟨rfl, rfl⟩
  go_wp2
  refine val_ret2 rfl (w.heap.size + 2) _ _ _ rfl (put3_blk HL.out.2.2 _ _ _) rfl ?_
  exact ev2_er HR.out (below_put3 HB.out (by omega) _ _ _)
set_option maxRecDepth 100000 in
set_option maxHeartbeats 6400000 in
theorem rbin_bv (op : Int) (h : 3 ≤ op) (h' : op ≤ 16) (a b : Vl) (hka : (a.kind == 0) = false) (hga : goesP op a.kind = true) (hgb : goesP op b.kind = false) (HR : Asd (binP op a b = .error 35)) (w : World) : Calls Try.prog 30 #[.int .i64 op, vC a, vC b] w (Ev2 (binP op a b) w) := by
  have HGA : Asd (∀ W, Calls Try.prog 73 #[.int .i64 op, .int .i64 a.kind] W fun e w' => e = .returned (.bool true) ∧ w' = W) := Asd.mk fun W => by rw [← hga]; exact rgoes_calls op a.kind h h' W
  have HGB : Asd (∀ W, Calls Try.prog 73 #[.int .i64 op, .int .i64 b.kind] W fun e w' => e = .returned (.bool false) ∧ w' = W) := Asd.mk fun W => by rw [← hgb]; exact rgoes_calls op b.kind h h' W
  clear hga hgb
  have HL := Asd.mk (rbw_new w a b)
  have HB : Asd (Below w.heap.size w (((w.alloc (vK a)).alloc (vK b)).alloc zeroV)) := Asd.mk (below_alloc (below_alloc (below_alloc (Below.refl _ _) _) _) _)
  unfold vC
  go_enter Try.func30, Try.ntmps30
  go_upto_region 1 with fail
  generalize ((w.alloc _).alloc _).alloc _ = w1 at HL HB ⊢
  obtain ⟨a0, a1, a2⟩ := val_cells (v := a) HL.out.1
  obtain ⟨b0, b1, b2⟩ := val_cells (v := b) HL.out.2.1
  obtain ⟨⟨x0, x1, x2⟩, y0, y1, y2⟩ := zero_cells HL.out.2.2
  go_wp2_with fail
  refine (HGA.out _).mono ?_
  rintro e w2 ⟨rfl, rfl⟩
  go_wp2_with fail
  refine (HGB.out _).mono ?_
  rintro e w2 ⟨rfl, rfl⟩
  go_wp2
  refine val_ret2 rfl (w.heap.size + 2) _ _ _ rfl (put3_blk HL.out.2.2 _ _ _) rfl ?_
  exact ev2_er HR.out (below_put3 HB.out (by omega) _ _ _)
set_option maxRecDepth 100000 in
set_option maxHeartbeats 6400000 in
theorem rbin_cnn (op : Int) (h : 3 ≤ op) (h' : op ≤ 16) (h5 : 5 ≤ op) (h10 : op ≤ 10) (a b : Vl) (hka : (a.kind == 0) = true) (hga : goesP op a.kind = true) (hgb : goesP op b.kind = true) (HR : Asd (binP op a b = .ok vNull)) (w : World) : Calls Try.prog 30 #[.int .i64 op, vC a, vC b] w (Ev2 (binP op a b) w) := by
  have HGA : Asd (∀ W, Calls Try.prog 73 #[.int .i64 op, .int .i64 a.kind] W fun e w' => e = .returned (.bool true) ∧ w' = W) := Asd.mk fun W => by rw [← hga]; exact rgoes_calls op a.kind h h' W
  have HGB : Asd (∀ W, Calls Try.prog 73 #[.int .i64 op, .int .i64 b.kind] W fun e w' => e = .returned (.bool true) ∧ w' = W) := Asd.mk fun W => by rw [← hgb]; exact rgoes_calls op b.kind h h' W
  clear hga hgb
  have HL := Asd.mk (rbw_new w a b)
  have HB : Asd (Below w.heap.size w (((w.alloc (vK a)).alloc (vK b)).alloc zeroV)) := Asd.mk (below_alloc (below_alloc (below_alloc (Below.refl _ _) _) _) _)
  unfold vC
  go_enter Try.func30, Try.ntmps30
  go_upto_region 1 with fail
  generalize ((w.alloc _).alloc _).alloc _ = w1 at HL HB ⊢
  obtain ⟨a0, a1, a2⟩ := val_cells (v := a) HL.out.1
  obtain ⟨b0, b1, b2⟩ := val_cells (v := b) HL.out.2.1
  obtain ⟨⟨x0, x1, x2⟩, y0, y1, y2⟩ := zero_cells HL.out.2.2
  go_wp2_with fail
  refine (HGA.out _).mono ?_
  rintro e w2 ⟨rfl, rfl⟩
  go_wp2_with fail
  refine (HGB.out _).mono ?_
  rintro e w2 ⟨rfl, rfl⟩
  go_wp2
  refine val_ret2 rfl (w.heap.size + 2) _ _ _ rfl (put3_blk HL.out.2.2 _ _ _) rfl ?_
  exact ev2_yes HR.out (below_put3 HB.out (by omega) _ _ _)
set_option maxRecDepth 100000 in
set_option maxHeartbeats 6400000 in
theorem rbin_onn (op : Int) (h : 3 ≤ op) (h' : op ≤ 16) (h11 : 11 ≤ op) (a b : Vl) (hka : (a.kind == 0) = true) (hga : goesP op a.kind = true) (hgb : goesP op b.kind = true) (HR : Asd (binP op a b = .ok vNull)) (w : World) : Calls Try.prog 30 #[.int .i64 op, vC a, vC b] w (Ev2 (binP op a b) w) := by
  have HGA : Asd (∀ W, Calls Try.prog 73 #[.int .i64 op, .int .i64 a.kind] W fun e w' => e = .returned (.bool true) ∧ w' = W) := Asd.mk fun W => by rw [← hga]; exact rgoes_calls op a.kind h h' W
  have HGB : Asd (∀ W, Calls Try.prog 73 #[.int .i64 op, .int .i64 b.kind] W fun e w' => e = .returned (.bool true) ∧ w' = W) := Asd.mk fun W => by rw [← hgb]; exact rgoes_calls op b.kind h h' W
  clear hga hgb
  have HL := Asd.mk (rbw_new w a b)
  have HB : Asd (Below w.heap.size w (((w.alloc (vK a)).alloc (vK b)).alloc zeroV)) := Asd.mk (below_alloc (below_alloc (below_alloc (Below.refl _ _) _) _) _)
  unfold vC
  go_enter Try.func30, Try.ntmps30
  go_upto_region 1 with fail
  generalize ((w.alloc _).alloc _).alloc _ = w1 at HL HB ⊢
  obtain ⟨a0, a1, a2⟩ := val_cells (v := a) HL.out.1
  obtain ⟨b0, b1, b2⟩ := val_cells (v := b) HL.out.2.1
  obtain ⟨⟨x0, x1, x2⟩, y0, y1, y2⟩ := zero_cells HL.out.2.2
  go_wp2_with fail
  refine (HGA.out _).mono ?_
  rintro e w2 ⟨rfl, rfl⟩
  go_wp2_with fail
  refine (HGB.out _).mono ?_
  rintro e w2 ⟨rfl, rfl⟩
  go_wp2
  refine val_ret2 rfl (w.heap.size + 2) _ _ _ rfl (put3_blk HL.out.2.2 _ _ _) rfl ?_
  exact ev2_yes HR.out (below_put3 HB.out (by omega) _ _ _)
set_option maxRecDepth 100000 in
set_option maxHeartbeats 6400000 in
theorem rbin_cnv (op : Int) (h : 3 ≤ op) (h' : op ≤ 16) (h5 : 5 ≤ op) (h10 : op ≤ 10) (a b : Vl) (hka : (a.kind == 0) = false) (hkb : (b.kind == 0) = true) (hga : goesP op a.kind = true) (hgb : goesP op b.kind = true) (HR : Asd (binP op a b = .ok vNull)) (w : World) : Calls Try.prog 30 #[.int .i64 op, vC a, vC b] w (Ev2 (binP op a b) w) := by
  have HGA : Asd (∀ W, Calls Try.prog 73 #[.int .i64 op, .int .i64 a.kind] W fun e w' => e = .returned (.bool true) ∧ w' = W) := Asd.mk fun W => by rw [← hga]; exact rgoes_calls op a.kind h h' W
  have HGB : Asd (∀ W, Calls Try.prog 73 #[.int .i64 op, .int .i64 b.kind] W fun e w' => e = .returned (.bool true) ∧ w' = W) := Asd.mk fun W => by rw [← hgb]; exact rgoes_calls op b.kind h h' W
  clear hga hgb
  have HL := Asd.mk (rbw_new w a b)
  have HB : Asd (Below w.heap.size w (((w.alloc (vK a)).alloc (vK b)).alloc zeroV)) := Asd.mk (below_alloc (below_alloc (below_alloc (Below.refl _ _) _) _) _)
  unfold vC
  go_enter Try.func30, Try.ntmps30
  go_upto_region 1 with fail
  generalize ((w.alloc _).alloc _).alloc _ = w1 at HL HB ⊢
  obtain ⟨a0, a1, a2⟩ := val_cells (v := a) HL.out.1
  obtain ⟨b0, b1, b2⟩ := val_cells (v := b) HL.out.2.1
  obtain ⟨⟨x0, x1, x2⟩, y0, y1, y2⟩ := zero_cells HL.out.2.2
  go_wp2_with fail
  refine (HGA.out _).mono ?_
  rintro e w2 ⟨rfl, rfl⟩
  go_wp2_with fail
  refine (HGB.out _).mono ?_
  rintro e w2 ⟨rfl, rfl⟩
  go_wp2
  refine val_ret2 rfl (w.heap.size + 2) _ _ _ rfl (put3_blk HL.out.2.2 _ _ _) rfl ?_
  exact ev2_yes HR.out (below_put3 HB.out (by omega) _ _ _)
set_option maxRecDepth 100000 in
set_option maxHeartbeats 6400000 in
theorem rbin_onv (op : Int) (h : 3 ≤ op) (h' : op ≤ 16) (h11 : 11 ≤ op) (a b : Vl) (hka : (a.kind == 0) = false) (hkb : (b.kind == 0) = true) (hga : goesP op a.kind = true) (hgb : goesP op b.kind = true) (HR : Asd (binP op a b = .ok vNull)) (w : World) : Calls Try.prog 30 #[.int .i64 op, vC a, vC b] w (Ev2 (binP op a b) w) := by
  have HGA : Asd (∀ W, Calls Try.prog 73 #[.int .i64 op, .int .i64 a.kind] W fun e w' => e = .returned (.bool true) ∧ w' = W) := Asd.mk fun W => by rw [← hga]; exact rgoes_calls op a.kind h h' W
  have HGB : Asd (∀ W, Calls Try.prog 73 #[.int .i64 op, .int .i64 b.kind] W fun e w' => e = .returned (.bool true) ∧ w' = W) := Asd.mk fun W => by rw [← hgb]; exact rgoes_calls op b.kind h h' W
  clear hga hgb
  have HL := Asd.mk (rbw_new w a b)
  have HB : Asd (Below w.heap.size w (((w.alloc (vK a)).alloc (vK b)).alloc zeroV)) := Asd.mk (below_alloc (below_alloc (below_alloc (Below.refl _ _) _) _) _)
  unfold vC
  go_enter Try.func30, Try.ntmps30
  go_upto_region 1 with fail
  generalize ((w.alloc _).alloc _).alloc _ = w1 at HL HB ⊢
  obtain ⟨a0, a1, a2⟩ := val_cells (v := a) HL.out.1
  obtain ⟨b0, b1, b2⟩ := val_cells (v := b) HL.out.2.1
  obtain ⟨⟨x0, x1, x2⟩, y0, y1, y2⟩ := zero_cells HL.out.2.2
  go_wp2_with fail
  refine (HGA.out _).mono ?_
  rintro e w2 ⟨rfl, rfl⟩
  go_wp2_with fail
  refine (HGB.out _).mono ?_
  rintro e w2 ⟨rfl, rfl⟩
  go_wp2
  refine val_ret2 rfl (w.heap.size + 2) _ _ _ rfl (put3_blk HL.out.2.2 _ _ _) rfl ?_
  exact ev2_yes HR.out (below_put3 HB.out (by omega) _ _ _)
set_option maxRecDepth 100000 in
set_option maxHeartbeats 6400000 in
theorem rbin_ck (op : Int) (h : 3 ≤ op) (h' : op ≤ 16) (h5 : 5 ≤ op) (h10 : op ≤ 10) (a b : Vl) (hka : (a.kind == 0) = false) (hkb : (b.kind == 0) = false) (hne : (a.kind != b.kind) = true) (hga : goesP op a.kind = true) (hgb : goesP op b.kind = true) (HR : Asd (binP op a b = .error 35)) (w : World) : Calls Try.prog 30 #[.int .i64 op, vC a, vC b] w (Ev2 (binP op a b) w) := by
  have HGA : Asd (∀ W, Calls Try.prog 73 #[.int .i64 op, .int .i64 a.kind] W fun e w' => e = .returned (.bool true) ∧ w' = W) := Asd.mk fun W => by rw [← hga]; exact rgoes_calls op a.kind h h' W
  have HGB : Asd (∀ W, Calls Try.prog 73 #[.int .i64 op, .int .i64 b.kind] W fun e w' => e = .returned (.bool true) ∧ w' = W) := Asd.mk fun W => by rw [← hgb]; exact rgoes_calls op b.kind h h' W
  clear hga hgb
  have HL := Asd.mk (rbw_new w a b)
  have HB : Asd (Below w.heap.size w (((w.alloc (vK a)).alloc (vK b)).alloc zeroV)) := Asd.mk (below_alloc (below_alloc (below_alloc (Below.refl _ _) _) _) _)
  unfold vC
  go_enter Try.func30, Try.ntmps30
  go_upto_region 1 with fail
  generalize ((w.alloc _).alloc _).alloc _ = w1 at HL HB ⊢
  obtain ⟨a0, a1, a2⟩ := val_cells (v := a) HL.out.1
  obtain ⟨b0, b1, b2⟩ := val_cells (v := b) HL.out.2.1
  obtain ⟨⟨x0, x1, x2⟩, y0, y1, y2⟩ := zero_cells HL.out.2.2
  go_wp2_with fail
  refine (HGA.out _).mono ?_
  rintro e w2 ⟨rfl, rfl⟩
  go_wp2_with fail
  refine (HGB.out _).mono ?_
  rintro e w2 ⟨rfl, rfl⟩
  go_wp2
  refine val_ret2 rfl (w.heap.size + 2) _ _ _ rfl (put3_blk HL.out.2.2 _ _ _) rfl ?_
  exact ev2_er HR.out (below_put3 HB.out (by omega) _ _ _)
set_option maxRecDepth 100000 in
set_option maxHeartbeats 6400000 in
theorem rbin_cc (op : Int) (h : 3 ≤ op) (h' : op ≤ 16) (h5 : 5 ≤ op) (h10 : op ≤ 10) (a b : Vl) (hka : (a.kind == 0) = false) (hkb : (b.kind == 0) = false) (hne : (a.kind != b.kind) = false) (hga : goesP op a.kind = true) (hgb : goesP op b.kind = true) (ra : RV a) (rb : RV b) (la : a.text.length ≤ 140737488351232) (lb : b.text.length ≤ 140737488351232) (HR : Asd (binP op a b = .ok (vTru (holdP op (cmpV a b))))) (w : World) : Calls Try.prog 30 #[.int .i64 op, vC a, vC b] w (Ev2 (binP op a b) w) := by
  have HGA : Asd (∀ W, Calls Try.prog 73 #[.int .i64 op, .int .i64 a.kind] W fun e w' => e = .returned (.bool true) ∧ w' = W) := Asd.mk fun W => by rw [← hga]; exact rgoes_calls op a.kind h h' W
  have HGB : Asd (∀ W, Calls Try.prog 73 #[.int .i64 op, .int .i64 b.kind] W fun e w' => e = .returned (.bool true) ∧ w' = W) := Asd.mk fun W => by rw [← hgb]; exact rgoes_calls op b.kind h h' W
  have HC := Asd.mk (rcompare_calls ra rb (by simpa using hne) (by simpa using hka) la lb)
  unfold vC at HC
  clear hga hgb ra rb la lb
  have HL := Asd.mk (rbw_new w a b)
  have HB : Asd (Below w.heap.size w (((w.alloc (vK a)).alloc (vK b)).alloc zeroV)) := Asd.mk (below_alloc (below_alloc (below_alloc (Below.refl _ _) _) _) _)
  unfold vC
  go_enter Try.func30, Try.ntmps30
  go_upto_region 1 with fail
  generalize ((w.alloc _).alloc _).alloc _ = w1 at HL HB ⊢
  obtain ⟨a0, a1, a2⟩ := val_cells (v := a) HL.out.1
  obtain ⟨b0, b1, b2⟩ := val_cells (v := b) HL.out.2.1
  obtain ⟨⟨x0, x1, x2⟩, y0, y1, y2⟩ := zero_cells HL.out.2.2
  go_wp2_with fail
  refine (HGA.out _).mono ?_
  rintro e w2 ⟨rfl, rfl⟩
  go_wp2_with fail
  refine (HGB.out _).mono ?_
  rintro e w2 ⟨rfl, rfl⟩
  go_wp2_with fail
  refine (HC.out _).mono ?_
  rintro e w3 ⟨rfl, hb3⟩
  have HB3 := Asd.mk (below_step HB.out hb3)
  have HL3 := Asd.mk (HL.out.below hb3)
  clear a0 a1 a2 b0 b1 b2 x0 x1 x2 y0 y1 y2 hb3
  generalize cmpV a b = cc at HR ⊢
  go_wp2_with fail
  refine (rholds_calls op cc h5 h10 _).mono ?_
  rintro e w4 ⟨rfl, rfl⟩
  generalize holdP op cc = hh at HR ⊢
  go_wp2_with fail
  refine (rtruth_calls hh _).mono ?_
  rintro e w5 ⟨rfl, hb5⟩
  have HB5 := Asd.mk (below_step HB3.out hb5)
  have HL5 := Asd.mk (HL3.out.below hb5)
  clear  hb5
  obtain ⟨⟨x0, x1, x2⟩, y0, y1, y2⟩ := zero_cells HL5.out.2.2
  unfold vC
  go_wp2
  refine val_ret2 rfl (w.heap.size + 2) _ _ _ rfl (put3_blk HL5.out.2.2 _ _ _) rfl ?_
  exact ev2_yes HR.out (below_put3 HB5.out (by omega) _ _ _)
set_option maxRecDepth 100000 in
set_option maxHeartbeats 6400000 in
theorem rbin_l3n (op : Int) (hop : op = 3) (a b : Vl) (hka : (a.kind == 0) = true) (hga : goesP 3 a.kind = true) (hgb : goesP 3 b.kind = true) (HR : Asd (binP 3 a b = .ok (logicP true a b))) (w : World) : Calls Try.prog 30 #[.int .i64 op, vC a, vC b] w (Ev2 (binP op a b) w) := by
  subst hop
  have HGA : Asd (∀ W, Calls Try.prog 73 #[.int .i64 3, .int .i64 a.kind] W fun e w' => e = .returned (.bool true) ∧ w' = W) := Asd.mk fun W => by rw [← hga]; exact rgoes_calls _ a.kind (by decide) (by decide) W
  have HGB : Asd (∀ W, Calls Try.prog 73 #[.int .i64 3, .int .i64 b.kind] W fun e w' => e = .returned (.bool true) ∧ w' = W) := Asd.mk fun W => by rw [← hgb]; exact rgoes_calls _ b.kind (by decide) (by decide) W
  have HC := Asd.mk (rlogic_3 a b)
  unfold vC at HC
  clear hga hgb
  have HL := Asd.mk (rbw_new w a b)
  have HB : Asd (Below w.heap.size w (((w.alloc (vK a)).alloc (vK b)).alloc zeroV)) := Asd.mk (below_alloc (below_alloc (below_alloc (Below.refl _ _) _) _) _)
  unfold vC
  go_enter Try.func30, Try.ntmps30
  go_upto_region 1 with fail
  generalize ((w.alloc _).alloc _).alloc _ = w1 at HL HB ⊢
  obtain ⟨a0, a1, a2⟩ := val_cells (v := a) HL.out.1
  obtain ⟨b0, b1, b2⟩ := val_cells (v := b) HL.out.2.1
  obtain ⟨⟨x0, x1, x2⟩, y0, y1, y2⟩ := zero_cells HL.out.2.2
  go_wp2_with fail
  refine (HGA.out _).mono ?_
  rintro e w2 ⟨rfl, rfl⟩
  go_wp2_with fail
  refine (HGB.out _).mono ?_
  rintro e w2 ⟨rfl, rfl⟩
  go_wp2_with fail
  refine (HC.out _).mono ?_
  rintro e w3 ⟨rfl, hb3⟩
  have HB3 := Asd.mk (below_step HB.out hb3)
  have HL3 := Asd.mk (HL.out.below hb3)
  clear a0 a1 a2 b0 b1 b2 x0 x1 x2 y0 y1 y2 hb3
  generalize logicP true a b = cc at HR ⊢
  obtain ⟨⟨x0, x1, x2⟩, y0, y1, y2⟩ := zero_cells HL3.out.2.2
  go_wp2
  refine val_ret2 rfl (w.heap.size + 2) _ _ _ rfl (put3_blk HL3.out.2.2 _ _ _) rfl ?_
  exact ev2_yes HR.out (below_put3 HB3.out (by omega) _ _ _)
set_option maxRecDepth 100000 in
set_option maxHeartbeats 6400000 in
theorem rbin_l3v (op : Int) (hop : op = 3) (a b : Vl) (hka : (a.kind == 0) = false) (hga : goesP 3 a.kind = true) (hgb : goesP 3 b.kind = true) (HR : Asd (binP 3 a b = .ok (logicP true a b))) (w : World) : Calls Try.prog 30 #[.int .i64 op, vC a, vC b] w (Ev2 (binP op a b) w) := by
  subst hop
  have HGA : Asd (∀ W, Calls Try.prog 73 #[.int .i64 3, .int .i64 a.kind] W fun e w' => e = .returned (.bool true) ∧ w' = W) := Asd.mk fun W => by rw [← hga]; exact rgoes_calls _ a.kind (by decide) (by decide) W
  have HGB : Asd (∀ W, Calls Try.prog 73 #[.int .i64 3, .int .i64 b.kind] W fun e w' => e = .returned (.bool true) ∧ w' = W) := Asd.mk fun W => by rw [← hgb]; exact rgoes_calls _ b.kind (by decide) (by decide) W
  have HC := Asd.mk (rlogic_3 a b)
  unfold vC at HC
  clear hga hgb
  have HL := Asd.mk (rbw_new w a b)
  have HB : Asd (Below w.heap.size w (((w.alloc (vK a)).alloc (vK b)).alloc zeroV)) := Asd.mk (below_alloc (below_alloc (below_alloc (Below.refl _ _) _) _) _)
  unfold vC
  go_enter Try.func30, Try.ntmps30
  go_upto_region 1 with fail
  generalize ((w.alloc _).alloc _).alloc _ = w1 at HL HB ⊢
  obtain ⟨a0, a1, a2⟩ := val_cells (v := a) HL.out.1
  obtain ⟨b0, b1, b2⟩ := val_cells (v := b) HL.out.2.1
  obtain ⟨⟨x0, x1, x2⟩, y0, y1, y2⟩ := zero_cells HL.out.2.2
  go_wp2_with fail
  refine (HGA.out _).mono ?_
  rintro e w2 ⟨rfl, rfl⟩
  go_wp2_with fail
  refine (HGB.out _).mono ?_
  rintro e w2 ⟨rfl, rfl⟩
  go_wp2_with fail
  refine (HC.out _).mono ?_
  rintro e w3 ⟨rfl, hb3⟩
  have HB3 := Asd.mk (below_step HB.out hb3)
  have HL3 := Asd.mk (HL.out.below hb3)
  clear a0 a1 a2 b0 b1 b2 x0 x1 x2 y0 y1 y2 hb3
  generalize logicP true a b = cc at HR ⊢
  obtain ⟨⟨x0, x1, x2⟩, y0, y1, y2⟩ := zero_cells HL3.out.2.2
  go_wp2
  refine val_ret2 rfl (w.heap.size + 2) _ _ _ rfl (put3_blk HL3.out.2.2 _ _ _) rfl ?_
  exact ev2_yes HR.out (below_put3 HB3.out (by omega) _ _ _)
set_option maxRecDepth 100000 in
set_option maxHeartbeats 6400000 in
theorem rbin_l4n (op : Int) (hop : op = 4) (a b : Vl) (hka : (a.kind == 0) = true) (hga : goesP 4 a.kind = true) (hgb : goesP 4 b.kind = true) (HR : Asd (binP 4 a b = .ok (logicP false a b))) (w : World) : Calls Try.prog 30 #[.int .i64 op, vC a, vC b] w (Ev2 (binP op a b) w) := by
  subst hop
  have HGA : Asd (∀ W, Calls Try.prog 73 #[.int .i64 4, .int .i64 a.kind] W fun e w' => e = .returned (.bool true) ∧ w' = W) := Asd.mk fun W => by rw [← hga]; exact rgoes_calls _ a.kind (by decide) (by decide) W
  have HGB : Asd (∀ W, Calls Try.prog 73 #[.int .i64 4, .int .i64 b.kind] W fun e w' => e = .returned (.bool true) ∧ w' = W) := Asd.mk fun W => by rw [← hgb]; exact rgoes_calls _ b.kind (by decide) (by decide) W
  have HC := Asd.mk (rlogic_4 a b)
  unfold vC at HC
  clear hga hgb
  have HL := Asd.mk (rbw_new w a b)
  have HB : Asd (Below w.heap.size w (((w.alloc (vK a)).alloc (vK b)).alloc zeroV)) := Asd.mk (below_alloc (below_alloc (below_alloc (Below.refl _ _) _) _) _)
  unfold vC
  go_enter Try.func30, Try.ntmps30
  go_upto_region 1 with fail
  generalize ((w.alloc _).alloc _).alloc _ = w1 at HL HB ⊢
  obtain ⟨a0, a1, a2⟩ := val_cells (v := a) HL.out.1
  obtain ⟨b0, b1, b2⟩ := val_cells (v := b) HL.out.2.1
  obtain ⟨⟨x0, x1, x2⟩, y0, y1, y2⟩ := zero_cells HL.out.2.2
  go_wp2_with fail
  refine (HGA.out _).mono ?_
  rintro e w2 ⟨rfl, rfl⟩
  go_wp2_with fail
  refine (HGB.out _).mono ?_
  rintro e w2 ⟨rfl, rfl⟩
  go_wp2_with fail
  refine (HC.out _).mono ?_
  rintro e w3 ⟨rfl, hb3⟩
  have HB3 := Asd.mk (below_step HB.out hb3)
  have HL3 := Asd.mk (HL.out.below hb3)
  clear a0 a1 a2 b0 b1 b2 x0 x1 x2 y0 y1 y2 hb3
  generalize logicP false a b = cc at HR ⊢
  obtain ⟨⟨x0, x1, x2⟩, y0, y1, y2⟩ := zero_cells HL3.out.2.2
  go_wp2
  refine val_ret2 rfl (w.heap.size + 2) _ _ _ rfl (put3_blk HL3.out.2.2 _ _ _) rfl ?_
  exact ev2_yes HR.out (below_put3 HB3.out (by omega) _ _ _)
set_option maxRecDepth 100000 in
set_option maxHeartbeats 6400000 in
theorem rbin_l4v (op : Int) (hop : op = 4) (a b : Vl) (hka : (a.kind == 0) = false) (hga : goesP 4 a.kind = true) (hgb : goesP 4 b.kind = true) (HR : Asd (binP 4 a b = .ok (logicP false a b))) (w : World) : Calls Try.prog 30 #[.int .i64 op, vC a, vC b] w (Ev2 (binP op a b) w) := by
  subst hop
  have HGA : Asd (∀ W, Calls Try.prog 73 #[.int .i64 4, .int .i64 a.kind] W fun e w' => e = .returned (.bool true) ∧ w' = W) := Asd.mk fun W => by rw [← hga]; exact rgoes_calls _ a.kind (by decide) (by decide) W
  have HGB : Asd (∀ W, Calls Try.prog 73 #[.int .i64 4, .int .i64 b.kind] W fun e w' => e = .returned (.bool true) ∧ w' = W) := Asd.mk fun W => by rw [← hgb]; exact rgoes_calls _ b.kind (by decide) (by decide) W
  have HC := Asd.mk (rlogic_4 a b)
  unfold vC at HC
  clear hga hgb
  have HL := Asd.mk (rbw_new w a b)
  have HB : Asd (Below w.heap.size w (((w.alloc (vK a)).alloc (vK b)).alloc zeroV)) := Asd.mk (below_alloc (below_alloc (below_alloc (Below.refl _ _) _) _) _)
  unfold vC
  go_enter Try.func30, Try.ntmps30
  go_upto_region 1 with fail
  generalize ((w.alloc _).alloc _).alloc _ = w1 at HL HB ⊢
  obtain ⟨a0, a1, a2⟩ := val_cells (v := a) HL.out.1
  obtain ⟨b0, b1, b2⟩ := val_cells (v := b) HL.out.2.1
  obtain ⟨⟨x0, x1, x2⟩, y0, y1, y2⟩ := zero_cells HL.out.2.2
  go_wp2_with fail
  refine (HGA.out _).mono ?_
  rintro e w2 ⟨rfl, rfl⟩
  go_wp2_with fail
  refine (HGB.out _).mono ?_
  rintro e w2 ⟨rfl, rfl⟩
  go_wp2_with fail
  refine (HC.out _).mono ?_
  rintro e w3 ⟨rfl, hb3⟩
  have HB3 := Asd.mk (below_step HB.out hb3)
  have HL3 := Asd.mk (HL.out.below hb3)
  clear a0 a1 a2 b0 b1 b2 x0 x1 x2 y0 y1 y2 hb3
  generalize logicP false a b = cc at HR ⊢
  obtain ⟨⟨x0, x1, x2⟩, y0, y1, y2⟩ := zero_cells HL3.out.2.2
  go_wp2
  refine val_ret2 rfl (w.heap.size + 2) _ _ _ rfl (put3_blk HL3.out.2.2 _ _ _) rfl ?_
  exact ev2_yes HR.out (below_put3 HB3.out (by omega) _ _ _)
set_option maxRecDepth 100000 in
set_option maxHeartbeats 6400000 in
theorem rbin_ll (op : Int) (hop : op = 16) (a b : Vl) (hka : (a.kind == 0) = false) (hkb : (b.kind == 0) = false) (hga : goesP 16 a.kind = true) (hgb : goesP 16 b.kind = true) (hs : (2048 : Int) < (a.text.length : Int)) (HR : Asd (binP 16 a b = .error 8)) (w : World) : Calls Try.prog 30 #[.int .i64 op, vC a, vC b] w (Ev2 (binP op a b) w) := by
  subst hop
  have HGA : Asd (∀ W, Calls Try.prog 73 #[.int .i64 16, .int .i64 a.kind] W fun e w' => e = .returned (.bool true) ∧ w' = W) := Asd.mk fun W => by rw [← hga]; exact rgoes_calls _ a.kind (by decide) (by decide) W
  have HGB : Asd (∀ W, Calls Try.prog 73 #[.int .i64 16, .int .i64 b.kind] W fun e w' => e = .returned (.bool true) ∧ w' = W) := Asd.mk fun W => by rw [← hgb]; exact rgoes_calls _ b.kind (by decide) (by decide) W
  clear hga hgb
  have HL := Asd.mk (rbw_new w a b)
  have HB : Asd (Below w.heap.size w (((w.alloc (vK a)).alloc (vK b)).alloc zeroV)) := Asd.mk (below_alloc (below_alloc (below_alloc (Below.refl _ _) _) _) _)
  unfold vC
  go_enter Try.func30, Try.ntmps30
  go_upto_region 1 with fail
  generalize ((w.alloc _).alloc _).alloc _ = w1 at HL HB ⊢
  obtain ⟨a0, a1, a2⟩ := val_cells (v := a) HL.out.1
  obtain ⟨b0, b1, b2⟩ := val_cells (v := b) HL.out.2.1
  obtain ⟨⟨x0, x1, x2⟩, y0, y1, y2⟩ := zero_cells HL.out.2.2
  go_wp2_with fail
  refine (HGA.out _).mono ?_
  rintro e w2 ⟨rfl, rfl⟩
  go_wp2_with fail
  refine (HGB.out _).mono ?_
  rintro e w2 ⟨rfl, rfl⟩
  go_wp2
  refine val_ret2 rfl (w.heap.size + 2) _ _ _ rfl (put3_blk HL.out.2.2 _ _ _) rfl ?_
  exact ev2_er HR.out (below_put3 HB.out (by omega) _ _ _)
set_option maxRecDepth 100000 in
set_option maxHeartbeats 6400000 in
theorem rbin_lg (op : Int) (hop : op = 16) (a b : Vl) (hka : (a.kind == 0) = false) (hkb : (b.kind == 0) = false) (hga : goesP 16 a.kind = true) (hgb : goesP 16 b.kind = true) (hs : ¬ (2048 : Int) < (a.text.length : Int)) (ht : (2048 : Int) - (a.text.length : Int) < (b.text.length : Int)) (HR : Asd (binP 16 a b = .error 8)) (w : World) : Calls Try.prog 30 #[.int .i64 op, vC a, vC b] w (Ev2 (binP op a b) w) := by
  subst hop
  have HGA : Asd (∀ W, Calls Try.prog 73 #[.int .i64 16, .int .i64 a.kind] W fun e w' => e = .returned (.bool true) ∧ w' = W) := Asd.mk fun W => by rw [← hga]; exact rgoes_calls _ a.kind (by decide) (by decide) W
  have HGB : Asd (∀ W, Calls Try.prog 73 #[.int .i64 16, .int .i64 b.kind] W fun e w' => e = .returned (.bool true) ∧ w' = W) := Asd.mk fun W => by rw [← hgb]; exact rgoes_calls _ b.kind (by decide) (by decide) W
  clear hga hgb
  have HL := Asd.mk (rbw_new w a b)
  have HB : Asd (Below w.heap.size w (((w.alloc (vK a)).alloc (vK b)).alloc zeroV)) := Asd.mk (below_alloc (below_alloc (below_alloc (Below.refl _ _) _) _) _)
  unfold vC
  go_enter Try.func30, Try.ntmps30
  go_upto_region 1 with fail
  generalize ((w.alloc _).alloc _).alloc _ = w1 at HL HB ⊢
  obtain ⟨a0, a1, a2⟩ := val_cells (v := a) HL.out.1
  obtain ⟨b0, b1, b2⟩ := val_cells (v := b) HL.out.2.1
  obtain ⟨⟨x0, x1, x2⟩, y0, y1, y2⟩ := zero_cells HL.out.2.2
  go_wp2_with fail
  refine (HGA.out _).mono ?_
  rintro e w2 ⟨rfl, rfl⟩
  go_wp2_with fail
  refine (HGB.out _).mono ?_
  rintro e w2 ⟨rfl, rfl⟩
  go_wp2
  refine val_ret2 rfl (w.heap.size + 2) _ _ _ rfl (put3_blk HL.out.2.2 _ _ _) rfl ?_
  exact ev2_er HR.out (below_put3 HB.out (by omega) _ _ _)
set_option maxRecDepth 100000 in
set_option maxHeartbeats 6400000 in
theorem rbin_lo (op : Int) (hop : op = 16) (a b : Vl) (hka : (a.kind == 0) = false) (hkb : (b.kind == 0) = false) (hga : goesP 16 a.kind = true) (hgb : goesP 16 b.kind = true) (hs : ¬ (2048 : Int) < (a.text.length : Int)) (ht : ¬ (2048 : Int) - (a.text.length : Int) < (b.text.length : Int)) (hl : a.text.length + b.text.length ≤ 2048) (HR : Asd (binP 16 a b = .ok (vTxt (a.text ++ b.text)))) (w : World) : Calls Try.prog 30 #[.int .i64 op, vC a, vC b] w (Ev2 (binP op a b) w) := by
  subst hop
  have HGA : Asd (∀ W, Calls Try.prog 73 #[.int .i64 16, .int .i64 a.kind] W fun e w' => e = .returned (.bool true) ∧ w' = W) := Asd.mk fun W => by rw [← hga]; exact rgoes_calls _ a.kind (by decide) (by decide) W
  have HGB : Asd (∀ W, Calls Try.prog 73 #[.int .i64 16, .int .i64 b.kind] W fun e w' => e = .returned (.bool true) ∧ w' = W) := Asd.mk fun W => by rw [← hgb]; exact rgoes_calls _ b.kind (by decide) (by decide) W
  clear hga hgb
  have HC := Asd.mk (rtext_calls (a.text ++ b.text))
  have hap : (⟨(a.text ++ b.text).toArray⟩ : ByteArray) = ⟨a.text.toArray⟩ ++ ⟨b.text.toArray⟩ := txt_app _ _
  rw [hap] at HC
  clear hap
  have HL := Asd.mk (rbw_new w a b)
  have HB : Asd (Below w.heap.size w (((w.alloc (vK a)).alloc (vK b)).alloc zeroV)) := Asd.mk (below_alloc (below_alloc (below_alloc (Below.refl _ _) _) _) _)
  unfold vC
  go_enter Try.func30, Try.ntmps30
  go_upto_region 1 with fail
  generalize ((w.alloc _).alloc _).alloc _ = w1 at HL HB ⊢
  obtain ⟨a0, a1, a2⟩ := val_cells (v := a) HL.out.1
  obtain ⟨b0, b1, b2⟩ := val_cells (v := b) HL.out.2.1
  obtain ⟨⟨x0, x1, x2⟩, y0, y1, y2⟩ := zero_cells HL.out.2.2
  go_wp2_with fail
  refine (HGA.out _).mono ?_
  rintro e w2 ⟨rfl, rfl⟩
  go_wp2_with fail
  refine (HGB.out _).mono ?_
  rintro e w2 ⟨rfl, rfl⟩
  go_wp2_with fail
  refine (HC.out _).mono ?_
  rintro e w3 ⟨rfl, hb3⟩
  have HB3 := Asd.mk (below_step HB.out hb3)
  have HL3 := Asd.mk (HL.out.below hb3)
  clear a0 a1 a2 b0 b1 b2 x0 x1 x2 y0 y1 y2 hb3
  generalize vTxt (a.text ++ b.text) = cc at HR ⊢
  obtain ⟨⟨x0, x1, x2⟩, y0, y1, y2⟩ := zero_cells HL3.out.2.2
  unfold vC
  go_wp2
  refine val_ret2 rfl (w.heap.size + 2) _ _ _ rfl (put3_blk HL3.out.2.2 _ _ _) rfl ?_
  exact ev2_yes HR.out (below_put3 HB3.out (by omega) _ _ _)
set_option maxRecDepth 100000 in
set_option maxHeartbeats 6400000 in
theorem rbin_d0 (op : Int) (h : 3 ≤ op) (h' : op ≤ 16) (h11 : 11 ≤ op) (h15 : op ≤ 15) (hn16 : (op == 16) = false) (a b : Vl) (hka : (a.kind == 0) = false) (hkb : (b.kind == 0) = false) (hga : goesP op a.kind = true) (hgb : goesP op b.kind = true) (h14 : 14 ≤ op) (hb0 : (b.int == 0) = true) (HR : Asd (binP op a b = .error 41)) (w : World) : Calls Try.prog 30 #[.int .i64 op, vC a, vC b] w (Ev2 (binP op a b) w) := by
  have HGA : Asd (∀ W, Calls Try.prog 73 #[.int .i64 op, .int .i64 a.kind] W fun e w' => e = .returned (.bool true) ∧ w' = W) := Asd.mk fun W => by rw [← hga]; exact rgoes_calls op a.kind h h' W
  have HGB : Asd (∀ W, Calls Try.prog 73 #[.int .i64 op, .int .i64 b.kind] W fun e w' => e = .returned (.bool true) ∧ w' = W) := Asd.mk fun W => by rw [← hgb]; exact rgoes_calls op b.kind h h' W
  clear hga hgb
  have HL := Asd.mk (rbw_new w a b)
  have HB : Asd (Below w.heap.size w (((w.alloc (vK a)).alloc (vK b)).alloc zeroV)) := Asd.mk (below_alloc (below_alloc (below_alloc (Below.refl _ _) _) _) _)
  unfold vC
  go_enter Try.func30, Try.ntmps30
  go_upto_region 1 with fail
  generalize ((w.alloc _).alloc _).alloc _ = w1 at HL HB ⊢
  obtain ⟨a0, a1, a2⟩ := val_cells (v := a) HL.out.1
  obtain ⟨b0, b1, b2⟩ := val_cells (v := b) HL.out.2.1
  obtain ⟨⟨x0, x1, x2⟩, y0, y1, y2⟩ := zero_cells HL.out.2.2
  go_wp2_with fail
  refine (HGA.out _).mono ?_
  rintro e w2 ⟨rfl, rfl⟩
  go_wp2_with fail
  refine (HGB.out _).mono ?_
  rintro e w2 ⟨rfl, rfl⟩
  go_wp2
  refine val_ret2 rfl (w.heap.size + 2) _ _ _ rfl (put3_blk HL.out.2.2 _ _ _) rfl ?_
  exact ev2_er HR.out (below_put3 HB.out (by omega) _ _ _)
set_option maxRecDepth 100000 in
set_option maxHeartbeats 6400000 in
theorem rbin_fs (op : Int) (h : 3 ≤ op) (h' : op ≤ 16) (h11 : 11 ≤ op) (h15 : op ≤ 15) (hn16 : (op == 16) = false) (a b : Vl) (hka : (a.kind == 0) = false) (hkb : (b.kind == 0) = false) (hga : goesP op a.kind = true) (hgb : goesP op b.kind = true) (h14 : ¬ 14 ≤ op) (n : Int) (HS : Asd (∀ W, Calls Try.prog 78 #[.int .i64 op, .int .i64 a.int, .int .i64 b.int] W (RsumR n false W))) (HR : Asd (binP op a b = .error 40)) (w : World) : Calls Try.prog 30 #[.int .i64 op, vC a, vC b] w (Ev2 (binP op a b) w) := by
  have HGA : Asd (∀ W, Calls Try.prog 73 #[.int .i64 op, .int .i64 a.kind] W fun e w' => e = .returned (.bool true) ∧ w' = W) := Asd.mk fun W => by rw [← hga]; exact rgoes_calls op a.kind h h' W
  have HGB : Asd (∀ W, Calls Try.prog 73 #[.int .i64 op, .int .i64 b.kind] W fun e w' => e = .returned (.bool true) ∧ w' = W) := Asd.mk fun W => by rw [← hgb]; exact rgoes_calls op b.kind h h' W
  clear hga hgb
  have HL := Asd.mk (rbw_new w a b)
  have HB : Asd (Below w.heap.size w (((w.alloc (vK a)).alloc (vK b)).alloc zeroV)) := Asd.mk (below_alloc (below_alloc (below_alloc (Below.refl _ _) _) _) _)
  unfold vC
  go_enter Try.func30, Try.ntmps30
  go_upto_region 1 with fail
  generalize ((w.alloc _).alloc _).alloc _ = w1 at HL HB ⊢
  obtain ⟨a0, a1, a2⟩ := val_cells (v := a) HL.out.1
  obtain ⟨b0, b1, b2⟩ := val_cells (v := b) HL.out.2.1
  obtain ⟨⟨x0, x1, x2⟩, y0, y1, y2⟩ := zero_cells HL.out.2.2
  go_wp2_with fail
  refine (HGA.out _).mono ?_
  rintro e w2 ⟨rfl, rfl⟩
  go_wp2_with fail
  refine (HGB.out _).mono ?_
  rintro e w2 ⟨rfl, rfl⟩
  go_wp2_with fail
  refine (HS.out _).mono ?_
  rintro e w3 ⟨rfl, hb3⟩
  have HB3 := Asd.mk (below_step HB.out hb3)
  have HL3 := Asd.mk (HL.out.below hb3)
  clear a0 a1 a2 b0 b1 b2 x0 x1 x2 y0 y1 y2 hb3
  obtain ⟨⟨x0, x1, x2⟩, y0, y1, y2⟩ := zero_cells HL3.out.2.2
  go_wp2
  refine val_ret2 rfl (w.heap.size + 2) _ _ _ rfl (put3_blk HL3.out.2.2 _ _ _) rfl ?_
  exact ev2_er HR.out (below_put3 HB3.out (by omega) _ _ _)
set_option maxRecDepth 100000 in
set_option maxHeartbeats 6400000 in
theorem rbin_ts (op : Int) (h : 3 ≤ op) (h' : op ≤ 16) (h11 : 11 ≤ op) (h15 : op ≤ 15) (hn16 : (op == 16) = false) (a b : Vl) (hka : (a.kind == 0) = false) (hkb : (b.kind == 0) = false) (hga : goesP op a.kind = true) (hgb : goesP op b.kind = true) (h14 : ¬ 14 ≤ op) (n : Int) (HS : Asd (∀ W, Calls Try.prog 78 #[.int .i64 op, .int .i64 a.int, .int .i64 b.int] W (RsumR n true W))) (HR : Asd (binP op a b = .ok (vNum n))) (w : World) : Calls Try.prog 30 #[.int .i64 op, vC a, vC b] w (Ev2 (binP op a b) w) := by
  have HGA : Asd (∀ W, Calls Try.prog 73 #[.int .i64 op, .int .i64 a.kind] W fun e w' => e = .returned (.bool true) ∧ w' = W) := Asd.mk fun W => by rw [← hga]; exact rgoes_calls op a.kind h h' W
  have HGB : Asd (∀ W, Calls Try.prog 73 #[.int .i64 op, .int .i64 b.kind] W fun e w' => e = .returned (.bool true) ∧ w' = W) := Asd.mk fun W => by rw [← hgb]; exact rgoes_calls op b.kind h h' W
  clear hga hgb
  have HL := Asd.mk (rbw_new w a b)
  have HB : Asd (Below w.heap.size w (((w.alloc (vK a)).alloc (vK b)).alloc zeroV)) := Asd.mk (below_alloc (below_alloc (below_alloc (Below.refl _ _) _) _) _)
  unfold vC
  go_enter Try.func30, Try.ntmps30
  go_upto_region 1 with fail
  generalize ((w.alloc _).alloc _).alloc _ = w1 at HL HB ⊢
  obtain ⟨a0, a1, a2⟩ := val_cells (v := a) HL.out.1
  obtain ⟨b0, b1, b2⟩ := val_cells (v := b) HL.out.2.1
  obtain ⟨⟨x0, x1, x2⟩, y0, y1, y2⟩ := zero_cells HL.out.2.2
  go_wp2_with fail
  refine (HGA.out _).mono ?_
  rintro e w2 ⟨rfl, rfl⟩
  go_wp2_with fail
  refine (HGB.out _).mono ?_
  rintro e w2 ⟨rfl, rfl⟩
  go_wp2_with fail
  refine (HS.out _).mono ?_
  rintro e w3 ⟨rfl, hb3⟩
  have HB3 := Asd.mk (below_step HB.out hb3)
  have HL3 := Asd.mk (HL.out.below hb3)
  clear a0 a1 a2 b0 b1 b2 x0 x1 x2 y0 y1 y2 hb3
  go_wp2_with fail
  refine (rnum_calls n _).mono ?_
  rintro e w4 ⟨rfl, hb4⟩
  have HB4 := Asd.mk (below_step HB3.out hb4)
  have HL4 := Asd.mk (HL3.out.below hb4)
  clear  hb4
  obtain ⟨⟨x0, x1, x2⟩, y0, y1, y2⟩ := zero_cells HL4.out.2.2
  unfold vC
  go_wp2
  refine val_ret2 rfl (w.heap.size + 2) _ _ _ rfl (put3_blk HL4.out.2.2 _ _ _) rfl ?_
  exact ev2_yes HR.out (below_put3 HB4.out (by omega) _ _ _)
set_option maxRecDepth 100000 in
set_option maxHeartbeats 6400000 in
theorem rbin_fq (op : Int) (h : 3 ≤ op) (h' : op ≤ 16) (h11 : 11 ≤ op) (h15 : op ≤ 15) (hn16 : (op == 16) = false) (a b : Vl) (hka : (a.kind == 0) = false) (hkb : (b.kind == 0) = false) (hga : goesP op a.kind = true) (hgb : goesP op b.kind = true) (h14 : 14 ≤ op) (hb0 : (b.int == 0) = false) (n : Int) (HS : Asd (∀ W, Calls Try.prog 78 #[.int .i64 op, .int .i64 a.int, .int .i64 b.int] W (RsumR n false W))) (HR : Asd (binP op a b = .error 40)) (w : World) : Calls Try.prog 30 #[.int .i64 op, vC a, vC b] w (Ev2 (binP op a b) w) := by
  have HGA : Asd (∀ W, Calls Try.prog 73 #[.int .i64 op, .int .i64 a.kind] W fun e w' => e = .returned (.bool true) ∧ w' = W) := Asd.mk fun W => by rw [← hga]; exact rgoes_calls op a.kind h h' W
  have HGB : Asd (∀ W, Calls Try.prog 73 #[.int .i64 op, .int .i64 b.kind] W fun e w' => e = .returned (.bool true) ∧ w' = W) := Asd.mk fun W => by rw [← hgb]; exact rgoes_calls op b.kind h h' W
  clear hga hgb
  have HL := Asd.mk (rbw_new w a b)
  have HB : Asd (Below w.heap.size w (((w.alloc (vK a)).alloc (vK b)).alloc zeroV)) := Asd.mk (below_alloc (below_alloc (below_alloc (Below.refl _ _) _) _) _)
  unfold vC
  go_enter Try.func30, Try.ntmps30
  go_upto_region 1 with fail
  generalize ((w.alloc _).alloc _).alloc _ = w1 at HL HB ⊢
  obtain ⟨a0, a1, a2⟩ := val_cells (v := a) HL.out.1
  obtain ⟨b0, b1, b2⟩ := val_cells (v := b) HL.out.2.1
  obtain ⟨⟨x0, x1, x2⟩, y0, y1, y2⟩ := zero_cells HL.out.2.2
  go_wp2_with fail
  refine (HGA.out _).mono ?_
  rintro e w2 ⟨rfl, rfl⟩
  go_wp2_with fail
  refine (HGB.out _).mono ?_
  rintro e w2 ⟨rfl, rfl⟩
  go_wp2_with fail
  refine (HS.out _).mono ?_
  rintro e w3 ⟨rfl, hb3⟩
  have HB3 := Asd.mk (below_step HB.out hb3)
  have HL3 := Asd.mk (HL.out.below hb3)
  clear a0 a1 a2 b0 b1 b2 x0 x1 x2 y0 y1 y2 hb3
  obtain ⟨⟨x0, x1, x2⟩, y0, y1, y2⟩ := zero_cells HL3.out.2.2
  go_wp2
  refine val_ret2 rfl (w.heap.size + 2) _ _ _ rfl (put3_blk HL3.out.2.2 _ _ _) rfl ?_
  exact ev2_er HR.out (below_put3 HB3.out (by omega) _ _ _)
set_option maxRecDepth 100000 in
set_option maxHeartbeats 6400000 in
theorem rbin_tq (op : Int) (h : 3 ≤ op) (h' : op ≤ 16) (h11 : 11 ≤ op) (h15 : op ≤ 15) (hn16 : (op == 16) = false) (a b : Vl) (hka : (a.kind == 0) = false) (hkb : (b.kind == 0) = false) (hga : goesP op a.kind = true) (hgb : goesP op b.kind = true) (h14 : 14 ≤ op) (hb0 : (b.int == 0) = false) (n : Int) (HS : Asd (∀ W, Calls Try.prog 78 #[.int .i64 op, .int .i64 a.int, .int .i64 b.int] W (RsumR n true W))) (HR : Asd (binP op a b = .ok (vNum n))) (w : World) : Calls Try.prog 30 #[.int .i64 op, vC a, vC b] w (Ev2 (binP op a b) w) := by
  have HGA : Asd (∀ W, Calls Try.prog 73 #[.int .i64 op, .int .i64 a.kind] W fun e w' => e = .returned (.bool true) ∧ w' = W) := Asd.mk fun W => by rw [← hga]; exact rgoes_calls op a.kind h h' W
  have HGB : Asd (∀ W, Calls Try.prog 73 #[.int .i64 op, .int .i64 b.kind] W fun e w' => e = .returned (.bool true) ∧ w' = W) := Asd.mk fun W => by rw [← hgb]; exact rgoes_calls op b.kind h h' W
  clear hga hgb
  have HL := Asd.mk (rbw_new w a b)
  have HB : Asd (Below w.heap.size w (((w.alloc (vK a)).alloc (vK b)).alloc zeroV)) := Asd.mk (below_alloc (below_alloc (below_alloc (Below.refl _ _) _) _) _)
  unfold vC
  go_enter Try.func30, Try.ntmps30
  go_upto_region 1 with fail
  generalize ((w.alloc _).alloc _).alloc _ = w1 at HL HB ⊢
  obtain ⟨a0, a1, a2⟩ := val_cells (v := a) HL.out.1
  obtain ⟨b0, b1, b2⟩ := val_cells (v := b) HL.out.2.1
  obtain ⟨⟨x0, x1, x2⟩, y0, y1, y2⟩ := zero_cells HL.out.2.2
  go_wp2_with fail
  refine (HGA.out _).mono ?_
  rintro e w2 ⟨rfl, rfl⟩
  go_wp2_with fail
  refine (HGB.out _).mono ?_
  rintro e w2 ⟨rfl, rfl⟩
  go_wp2_with fail
  refine (HS.out _).mono ?_
  rintro e w3 ⟨rfl, hb3⟩
  have HB3 := Asd.mk (below_step HB.out hb3)
  have HL3 := Asd.mk (HL.out.below hb3)
  clear a0 a1 a2 b0 b1 b2 x0 x1 x2 y0 y1 y2 hb3
  go_wp2_with fail
  refine (rnum_calls n _).mono ?_
  rintro e w4 ⟨rfl, hb4⟩
  have HB4 := Asd.mk (below_step HB3.out hb4)
  have HL4 := Asd.mk (HL3.out.below hb4)
  clear  hb4
  obtain ⟨⟨x0, x1, x2⟩, y0, y1, y2⟩ := zero_cells HL4.out.2.2
  unfold vC
  go_wp2
  refine val_ret2 rfl (w.heap.size + 2) _ _ _ rfl (put3_blk HL4.out.2.2 _ _ _) rfl ?_
  exact ev2_yes HR.out (below_put3 HB4.out (by omega) _ _ _)
theorem goes_null (op k : Int) (h : goesP op k = false) : (k == 0) = false := by
  cases hk : (k == 0) with
  | false => rfl
  | true => simp [goesP, hk] at h
theorem rbin_bad {op : Int} (h : 3 ≤ op) {a b : Vl} (hg : goesP op a.kind = false ∨ goesP op b.kind = false) : binP op a b = .error 35 := by
  unfold goesP at hg
  unfold binP fitK
  by_cases h4 : op ≤ 4
  · have h34 : op = 3 ∨ op = 4 := by omega
    have h5 : ¬ (5 ≤ op ∧ op ≤ 10) := by omega
    rw [if_pos h4, if_neg]
    simp only [if_pos h34, decide_eq_false h5, Bool.or_eq_false_iff] at hg
    simp only [Bool.and_eq_true, Bool.or_eq_true]
    rintro ⟨x, y⟩
    rcases hg with hg | hg
    · rcases x with x | x
      · rw [hg.2] at x; cases x
      · rw [hg.1.1] at x; cases x
    · rcases y with y | y
      · rw [hg.2] at y; cases y
      · rw [hg.1.1] at y; cases y
  · by_cases h10 : op ≤ 10
    · have h5 : 5 ≤ op ∧ op ≤ 10 := by omega
      simp [h5] at hg
    · have h34 : ¬ (op = 3 ∨ op = 4) := by omega
      have h5 : ¬ (5 ≤ op ∧ op ≤ 10) := by omega
      simp only [if_neg h34, decide_eq_false h5, Bool.or_eq_false_iff] at hg
      rw [if_neg h4, if_neg h10]
      by_cases h16 : op = 16
      · simp only [if_pos h16] at hg ⊢
        rw [if_neg]
        simp only [Bool.and_eq_true, Bool.or_eq_true]
        rintro ⟨x, y⟩
        rcases hg with hg | hg
        · rcases x with x | x
          · rw [hg.2] at x; cases x
          · rw [hg.1.1] at x; cases x
        · rcases y with y | y
          · rw [hg.2] at y; cases y
          · rw [hg.1.1] at y; cases y
      · simp only [if_neg h16] at hg ⊢
        rw [if_neg]
        simp only [Bool.and_eq_true, Bool.or_eq_true]
        rintro ⟨x, y⟩
        rcases hg with hg | hg
        · rcases x with x | x
          · rw [hg.2] at x; cases x
          · rw [hg.1.1] at x; cases x
        · rcases y with y | y
          · rw [hg.2] at y; cases y
          · rw [hg.1.1] at y; cases y
theorem goes_fit {op k : Int} {v : Vl} (h5 : ¬ (5 ≤ op ∧ op ≤ 10)) (hk : (if op = 3 ∨ op = 4 then (1 : Int) else if op = 16 then 3 else 2) = k) (hg : goesP op v.kind = true) : fitK k v = true := by
  subst hk
  unfold goesP at hg
  unfold fitK
  simp only [decide_eq_false h5, Bool.or_eq_true] at hg ⊢
  rcases hg with (hg | hg) | hg
  · exact .inr hg
  · cases hg
  · left
    by_cases h34 : op = 3 ∨ op = 4
    · simpa only [if_pos h34] using hg
    · by_cases h16 : op = 16
      · simpa only [if_neg h34, if_pos h16] using hg
      · simpa only [if_neg h34, if_neg h16] using hg
theorem rbin_calls (op : Int) (h : 3 ≤ op) (h' : op ≤ 16) {a b : Vl} (ra : RV a) (rb : RV b) (la : a.text.length ≤ 140737488351232) (lb : b.text.length ≤ 140737488351232) (w : World) : Calls Try.prog 30 #[.int .i64 op, vC a, vC b] w (Ev2 (binP op a b) w) := by
  cases hga : goesP op a.kind with
  | false => exact rbin_a op h h' a b (goes_null _ _ hga) hga ⟨rbin_bad h (.inl hga)⟩ w
  | true =>
    cases hgb : goesP op b.kind with
    | false =>
      cases hka : (a.kind == 0) with
      | true => exact rbin_bn op h h' a b hka hga hgb ⟨rbin_bad h (.inr hgb)⟩ w
      | false => exact rbin_bv op h h' a b hka hga hgb ⟨rbin_bad h (.inr hgb)⟩ w
    | true =>
      by_cases h4 : op ≤ 4
      · have hfa := goes_fit (op := op) (k := 1) (v := a) (by omega) (by rw [if_pos (by omega)]) hga
        have hfb := goes_fit (op := op) (k := 1) (v := b) (by omega) (by rw [if_pos (by omega)]) hgb
        rcases (show op = 3 ∨ op = 4 by omega) with rfl | rfl
        · have HR : binP 3 a b = .ok (logicP true a b) := by unfold binP; rw [if_pos (by decide), hfa, hfb]; rfl
          cases hka : (a.kind == 0) with
          | true => exact rbin_l3n 3 rfl a b hka hga hgb ⟨HR⟩ w
          | false => exact rbin_l3v 3 rfl a b hka hga hgb ⟨HR⟩ w
        · have HR : binP 4 a b = .ok (logicP false a b) := by unfold binP; rw [if_pos (by decide), hfa, hfb]; rfl
          cases hka : (a.kind == 0) with
          | true => exact rbin_l4n 4 rfl a b hka hga hgb ⟨HR⟩ w
          | false => exact rbin_l4v 4 rfl a b hka hga hgb ⟨HR⟩ w
      · have hnul : (a.kind = 0 ∨ b.kind = 0) → binP op a b = .ok vNull := by
          intro hn
          unfold binP
          rw [if_neg h4]
          by_cases h10 : op ≤ 10
          · rw [if_pos h10, if_pos hn]
          · have h5 : ¬ (5 ≤ op ∧ op ≤ 10) := by omega
            rw [if_neg h10]
            by_cases h16 : op = 16
            · rw [if_pos h16, goes_fit (k := 3) h5 (by rw [if_neg (by omega), if_pos h16]) hga, goes_fit (k := 3) h5 (by rw [if_neg (by omega), if_pos h16]) hgb, if_pos (show (true && true) = true from rfl), if_pos hn]
            · rw [if_neg h16, goes_fit (k := 2) h5 (by rw [if_neg (by omega), if_neg h16]) hga, goes_fit (k := 2) h5 (by rw [if_neg (by omega), if_neg h16]) hgb, if_pos (show (true && true) = true from rfl), if_pos hn]
        cases hka : (a.kind == 0) with
        | true =>
          have HR := hnul (.inl (by simpa using hka))
          by_cases h10 : op ≤ 10
          · exact rbin_cnn op h h' (by omega) h10 a b hka hga hgb ⟨HR⟩ w
          · exact rbin_onn op h h' (by omega) a b hka hga hgb ⟨HR⟩ w
        | false =>
          cases hkb : (b.kind == 0) with
          | true =>
            have HR := hnul (.inr (by simpa using hkb))
            by_cases h10 : op ≤ 10
            · exact rbin_cnv op h h' (by omega) h10 a b hka hkb hga hgb ⟨HR⟩ w
            · exact rbin_onv op h h' (by omega) a b hka hkb hga hgb ⟨HR⟩ w
          | false =>
            have hno : ¬ (a.kind = 0 ∨ b.kind = 0) := by
              rintro (e | e)
              · rw [e] at hka; cases hka
              · rw [e] at hkb; cases hkb
            by_cases h10 : op ≤ 10
            · cases hne : (a.kind != b.kind) with
              | true => exact rbin_ck op h h' (by omega) h10 a b hka hkb hne hga hgb ⟨by unfold binP; rw [if_neg h4, if_pos h10, if_neg hno, if_neg (by simpa using hne)]⟩ w
              | false => exact rbin_cc op h h' (by omega) h10 a b hka hkb hne hga hgb ra rb la lb ⟨by unfold binP; rw [if_neg h4, if_pos h10, if_neg hno, if_pos (by simpa using hne)]⟩ w
            · have h5 : ¬ (5 ≤ op ∧ op ≤ 10) := by omega
              by_cases h16 : op = 16
              · subst h16
                have HR : binP 16 a b = if a.text.length + b.text.length ≤ 2048 then .ok (vTxt (a.text ++ b.text)) else .error 8 := by
                  unfold binP
                  rw [if_neg h4, if_neg h10, if_pos rfl, goes_fit (k := 3) h5 rfl hga, goes_fit (k := 3) h5 rfl hgb, if_pos (show (true && true) = true from rfl), if_neg hno]
                by_cases hs : (2048 : Int) < (a.text.length : Int)
                · exact rbin_ll 16 rfl a b hka hkb hga hgb hs ⟨by rw [HR, if_neg (by omega)]⟩ w
                · by_cases ht : (2048 : Int) - (a.text.length : Int) < (b.text.length : Int)
                  · exact rbin_lg 16 rfl a b hka hkb hga hgb hs ht ⟨by rw [HR, if_neg (by omega)]⟩ w
                  · exact rbin_lo 16 rfl a b hka hkb hga hgb hs ht (by omega) ⟨by rw [HR, if_pos (by omega)]⟩ w
              · have HR : binP op a b = sumV op a.int b.int := by
                  unfold binP
                  rw [if_neg h4, if_neg h10, if_neg h16, goes_fit (k := 2) h5 (by rw [if_neg (by omega), if_neg h16]) hga, goes_fit (k := 2) h5 (by rw [if_neg (by omega), if_neg h16]) hgb, if_pos (show (true && true) = true from rfl), if_neg hno]
                have hn16 : (op == 16) = false := by simp [h16]
                have h11 : 11 ≤ op := by omega
                have h15 : op ≤ 15 := by omega
                by_cases h14 : 14 ≤ op
                · cases hb0 : (b.int == 0) with
                  | true =>
                    refine rbin_d0 op h h' h11 h15 hn16 a b hka hkb hga hgb h14 hb0 ⟨?_⟩ w
                    have hz : b.int = 0 := by simpa using hb0
                    rw [HR]
                    unfold sumV sumN
                    rw [if_neg (by omega), if_neg (by omega), if_neg (by omega), if_pos hz]
                  | false =>
                    have hz : ¬ b.int = 0 := by simpa using hb0
                    rcases rsum_calls op a.int b.int h11 h15 (rv_num ra) (rv_num rb) (fun _ => hz) with ⟨n, e, hc⟩ | ⟨e, s, hc⟩
                    · exact rbin_tq op h h' h11 h15 hn16 a b hka hkb hga hgb h14 hb0 n ⟨hc⟩ ⟨by rw [HR]; unfold sumV; rw [e]⟩ w
                    · exact rbin_fq op h h' h11 h15 hn16 a b hka hkb hga hgb h14 hb0 s ⟨hc⟩ ⟨by rw [HR]; unfold sumV; rw [e]⟩ w
                · rcases rsum_calls op a.int b.int h11 h15 (rv_num ra) (rv_num rb) (fun hh => absurd hh h14) with ⟨n, e, hc⟩ | ⟨e, s, hc⟩
                  · exact rbin_ts op h h' h11 h15 hn16 a b hka hkb hga hgb h14 n ⟨hc⟩ ⟨by rw [HR]; unfold sumV; rw [e]⟩ w
                  · exact rbin_fs op h h' h11 h15 hn16 a b hka hkb hga hgb h14 s ⟨hc⟩ ⟨by rw [HR]; unfold sumV; rw [e]⟩ w
end Go.Proofs.Ytinflndbfdbnhaa.Exp

/-
  DERIVED: THE SHELF's CONTRACTS AT THIS DUMP, IN PLAIN WORDS (tools/lay-plain.mjs out of 'TryShelf.lean', which tools/lay-shelf.mjs wrote): THE SAME DECLARATIONS UNDER THE SAME NAMES: 'import', 'namespace', 'open', 'def', 'theorem' AND NOTHING ELSE: no command of the shelf's: FOR A HAND-IN. Each laying: the table of numbers ('.._ren') and one theorem, a field a fact of the dump's own or the kernel's comparison; each contract: ONE APPLICATION.
-/
namespace Go.Proofs
open Go.Shelf
def Try.lays169_ren : Go.Shelf.Ren := ⟨fun | 169 => 131 | n => n, fun | 70 => 146 | 9 => 9 | 0 => 0 | 72 => 148 | 37 => 134 | 127 => 155 | 3 => 3 | 5 => 5 | n => n, fun | n => n⟩
theorem Try.lays169 : Go.Proofs.Lays.n169 Try.prog Try.lays169_ren := {
  mixed := by kernel_rfl
  f169 := Try.func131.trans (congrArg some (by kernel_rfl))
  t0 := Try.underlying0
  a0 := Try.isAgg0
  z0 := Try.sizeOf0
  v0 := Try.zeroValue0
  t3 := Try.underlying3
  a3 := Try.isAgg3
  z3 := Try.sizeOf3
  v3 := Try.zeroValue3
  t9 := Try.underlying9
  a9 := Try.isAgg9
  z9 := Try.sizeOf9
  v9 := Try.zeroValue9
  t37 := Try.underlying134
  a37 := Try.isAgg134
  z37 := Try.sizeOf134
  v37 := Try.zeroValue134
  t70 := Try.underlying146
  a70 := Try.isAgg146
  z70 := Try.sizeOf146
  v70 := Try.zeroValue146
  t72 := Try.underlying148
  a72 := Try.isAgg148
  z72 := Try.sizeOf148
  v72 := Try.zeroValue148
  t127 := Try.underlying155
  a127 := Try.isAgg155
  z127 := Try.sizeOf155
  v127 := Try.zeroValue155 }
theorem Try.Builder_Extra_169 : Builder.Extra Try.prog Try.lays169_ren := {
  sizeBuilder := by kernel_rfl
  liesBuilder := by kernel_rfl
  t5 := Try.underlying5
  a5 := Try.isAgg5
  z5 := Try.sizeOf5
  v5 := Try.zeroValue5
  infoByte := by kernel_rfl
  cellsByte := by kernel_rfl
  sizeByte := by kernel_rfl
  neB5 := by decide }
open Go.RowKit in
/-- (*strings.Builder).String: "String returns the accumulated string.": WHATEVER THE BUILDER HOLDS. (LAID: no walk: one application.) -/
theorem Try.Builder_String_any (B b : Nat) (l : List UInt8) (w : World) (h : Lib.IsBuilder 148 5 B b (Lib.byteCells l) w) (hBw : B ≤ w.heap.size) :
    Calls Try.prog 131 #[.pointer (some ⟨b, 0, none⟩)] w fun e w' => e = .returned (.string ⟨l.toArray⟩) ∧ Below B w w' := Any.Builder_String_any Try.lays169 Try.Builder_Extra_169 B b l w h hBw
def Try.lays106_ren : Go.Shelf.Ren := ⟨fun | 106 => 110 | 213 => 127 | 265 => 134 | n => n, fun | 9 => 9 | 3 => 3 | n => n, fun | n => n⟩
theorem Try.lays106 : Go.Proofs.Lays.n106 Try.prog Try.lays106_ren := {
  mixed := by kernel_rfl
  f106 := Try.func110.trans (congrArg some (by kernel_rfl))
  f213 := Try.func127.trans (congrArg some (by kernel_rfl))
  f265 := Try.func134.trans (congrArg some (by kernel_rfl))
  t3 := Try.underlying3
  a3 := Try.isAgg3
  z3 := Try.sizeOf3
  v3 := Try.zeroValue3
  t9 := Try.underlying9
  a9 := Try.isAgg9
  z9 := Try.sizeOf9
  v9 := Try.zeroValue9 }
open Go.RowKit in
/-- strings.Compare: "Compare returns an integer comparing two strings lexicographically. The result will be 0 if a == b, -1 if a < b, and +1 if a > b.": IT RETURNS 'Lib.compareBytes a b'; the world is as it was. (LAID: no walk: one application.) -/
theorem Try.strings_Compare (a b : ByteArray) (w : World) :
    Calls Try.prog 110 #[.string a, .string b] w fun e w' => e = .returned (.int .i64 (Lib.compareBytes a.data.toList b.data.toList)) ∧ w' = w := Any.strings_Compare Try.lays106 a b w
def Try.lays264_ren : Go.Shelf.Ren := ⟨fun | 264 => 128 | n => n, fun | 53 => 142 | 46 => 154 | n => n, fun | n => n⟩
theorem Try.lays264 : Go.Proofs.Lays.n264 Try.prog Try.lays264_ren := {
  mixed := by kernel_rfl
  f264 := Try.func128.trans (congrArg some (by kernel_rfl))
  t46 := Try.underlying154
  a46 := Try.isAgg154
  z46 := Try.sizeOf154
  v46 := Try.zeroValue154
  t53 := Try.underlying142
  a53 := Try.isAgg142
  z53 := Try.sizeOf142
  v53 := Try.zeroValue142 }
open Go.RowKit Go.Lib in
theorem Try.bits_Mul64 (x y : Nat) (hx : x < 18446744073709551616) (hy : y < 18446744073709551616) (w : World) :
    Calls Try.prog 128 #[.int .u64 x, .int .u64 y] w fun e w' => e = .returned (.tuple #[.int .u64 ((x * y / 18446744073709551616 : Nat) : Int), .int .u64 ((x * y % 18446744073709551616 : Nat) : Int)]) ∧ w' = w := Any.bits_Mul64 Try.lays264 x y hx hy w
end Go.Proofs

/- The words that a name cannot be: the reference's and the lexer's Keyword. -/
set_option linter.unusedVariables false
set_option linter.unusedSimpArgs false
namespace Go.Proofs.Ytinflndbfdbnhaa.Lex
open Go.RowKit Go.Proofs.Ytinflndbfdbnhaa.Base

theorem nonempty (s : ByteArray) (h : 0 < s.size) : ¬ s.toList = [] := by
  intro h2
  have h3 : s.data.toList.length = s.size := rfl
  rw [← Lib.toList_data, h2] at h3
  simp only [List.length_nil] at h3
  omega


theorem of_list {s : ByteArray} {l : List UInt8} (h : s.toList = l) : s = ⟨l.toArray⟩ := by
  obtain ⟨⟨d⟩⟩ := s
  rw [Lib.toList_data] at h
  simp only at h
  rw [h]

end Go.Proofs.Ytinflndbfdbnhaa.Lex

/- Values: two are the same; what is wrong with one. -/
set_option linter.unusedVariables false
set_option linter.unusedSimpArgs false
namespace Go.Proofs.Ytinflndbfdbnhaa.Lex
open Go.RowKit Go.Proofs.Ytinflndbfdbnhaa.Base

theorem blk_below {W W' : World} {g : Nat} {o : Obj} (hb : Below W.heap.size W W') (h : W.heap[g]? = some o) : W'.heap[g]? = some o := (hb.block g (blk_lt h)).trans h
theorem val_in (d : Nat) (w : World) (x0 y0 : Int) (x1 y1 : Int) (x2 y2 : ByteArray) :
    (Op.equalIn (d + 2) 23 (.agg #[.int .i64 x0, .int .i64 x1, .string x2]) (.agg #[.int .i64 y0, .int .i64 y1, .string y2])).run Try.prog w = .ok (x0 == y0 && (x1 == y1 && (x2.toList == y2.toList))) w := by
  refine Eqs.s_of Try.underlying23 (by kernel_rfl) ?_
  refine Eqs.f_cons (by rfl) (by go_simp; rfl) (by go_simp; rfl) (by go_simp) ?_
  refine Eqs.f_cons (by rfl) (by go_simp; rfl) (by go_simp; rfl) (by go_simp) ?_
  exact Eqs.f_last (by rfl) (by go_simp; rfl) (by go_simp; rfl) (by go_simp)
theorem val_neq (w : World) (x0 y0 : Int) (x1 y1 : Int) (x2 y2 : ByteArray) :
    (binOp .neq 23 (.agg #[.int .i64 x0, .int .i64 x1, .string x2]) (.agg #[.int .i64 y0, .int .i64 y1, .string y2])).run Try.prog w = .ok (.bool (!(x0 == y0 && (x1 == y1 && (x2.toList == y2.toList))))) w := Eqs.op_neq fun d => val_in d w x0 y0 x1 y1 x2 y2

set_option maxRecDepth 100000 in
set_option maxHeartbeats 1600000 in
/-- A text, or a blob, is right. -/
theorem vcheck_calls (k : Int) (hk : k = 3 ∨ k = 4) (s : ByteArray) (w : World) :
    Calls Try.prog 53 #[.agg #[.int .i64 k, .int .i64 0, .string s]] w fun e w' => e = .returned (.int .i64 0) ∧ Below w.heap.size w w' := by
  have hq : ∀ (w : World), (binOp .neq 23 (.agg #[.int .i64 k, .int .i64 0, .string s]) (.agg #[.int .i64 k, .int .i64 0, .string s])).run Try.prog w = .ok (.bool false) w := fun w => by
    rw [val_neq]
    simp
  rcases hk with rfl | rfl
  · have hq3 : ∀ w, (binOp .neq 23 (.agg #[.int .i64 3, .int .i64 0, .string s]) (.agg #[.int .i64 3, .int .i64 0, .string s])).run Try.prog w = .ok (.bool false) w := hq
    clear hq
    go_enter Try.func53, Try.ntmps53
    go_wp2
    go_ret
    exact ⟨rfl, by repeat (first | exact Below.refl _ _ | refine Below.alloc ?_ (by simp) _ | refine Below.setCell ?_ (by simp) _ | refine Below.drew ?_)⟩
  · have hq3 : ∀ w, (binOp .neq 23 (.agg #[.int .i64 4, .int .i64 0, .string s]) (.agg #[.int .i64 4, .int .i64 0, .string s])).run Try.prog w = .ok (.bool false) w := hq
    clear hq
    go_enter Try.func53, Try.ntmps53
    go_wp2
    go_ret
    exact ⟨rfl, by repeat (first | exact Below.refl _ _ | refine Below.alloc ?_ (by simp) _ | refine Below.setCell ?_ (by simp) _ | refine Below.drew ?_)⟩
end Go.Proofs.Ytinflndbfdbnhaa.Lex

/- How a text and a blob are written; plain laws on lists. -/
set_option linter.unusedVariables false
set_option linter.unusedSimpArgs false
namespace Go.Proofs.Ytinflndbfdbnhaa.Lex

def quote1 (c : UInt8) : List UInt8 := if c = 39 then [39, 39] else [c]
def quotes (l : List UInt8) : List UInt8 := l.flatMap quote1
theorem quotes_nil : quotes [] = [] := rfl
theorem quotes_cons (c : UInt8) (l : List UInt8) : quotes (c :: l) = quote1 c ++ quotes l := rfl
theorem quotes_append (a b : List UInt8) : quotes (a ++ b) = quotes a ++ quotes b := by simp [quotes]
theorem quotes_none {l : List UInt8} (h : ∀ c ∈ l, c ≠ 39) : quotes l = l := by
  induction l with
  | nil => rfl
  | cons c l ih =>
    rw [quotes_cons, ih (fun d hd => h d (by simp [hd]))]
    simp [quote1, h c (by simp)]
theorem occ_one (s : List UInt8) (i : Nat) : Lib.occAt s [39] i = true ↔ s[i]? = some 39 := by
  unfold Lib.occAt
  cases h : s.drop i with
  | nil =>
    have : s[i]? = none := by
      rw [List.drop_eq_nil_iff] at h
      exact List.getElem?_eq_none h
    simp [this]
  | cons c r =>
    have : s[i]? = some c := by
      have := congrArg (fun l => l[0]?) h
      simpa using this
    rw [this]
    simp [List.isPrefixOf]
    exact eq_comm
theorem replaceK_quotes : ∀ (k : Nat) (s : List UInt8), Lib.count s [39] ≤ k → Lib.replaceK [39] [39, 39] k s = quotes s := by
  intro k
  induction k with
  | zero =>
    intro s h
    rw [Lib.count_one] at h
    show s = quotes s
    rw [quotes_none]
    intro c hc e
    subst e
    have := List.count_pos_iff.2 hc
    omega
  | succ k ih =>
    intro s h
    rcases Lib.index_spec s [39] with ⟨h1, h2⟩ | ⟨i, h1, hi, hocc, hno⟩
    · rw [Lib.replaceK, if_pos (by rw [h1]; rfl), quotes_none]
      intro c hc e
      subst e
      obtain ⟨j, hj, hjc⟩ := List.getElem_of_mem hc
      have h3 := (occ_one s j).2 (by rw [List.getElem?_eq_getElem hj, hjc])
      have h4 := h2 j (by omega)
      rw [h3] at h4
      cases h4
    · rw [Lib.replaceK_hit _ _ _ _ _ h1]
      have h39 := (occ_one s i).1 hocc
      have hlt : i < s.length := (List.getElem?_eq_some_iff.1 h39).1
      have hs : s = s.take i ++ 39 :: s.drop (i + 1) := by
        have e : s[i] = 39 := (List.getElem?_eq_some_iff.1 h39).2
        rw [← e, ← List.drop_eq_getElem_cons hlt, List.take_append_drop]
      have hc := Lib.count_hit (sub := [39]) (by simp) h1
      simp only [List.length_cons, List.length_nil, Nat.zero_add] at hc ⊢
      rw [ih _ (by omega)]
      have hq : quotes (s.take i) = s.take i := quotes_none (by
        intro c hc2 e
        subst e
        obtain ⟨j, hj, hjc⟩ := List.getElem_of_mem hc2
        rw [List.length_take] at hj
        have h3 := (occ_one s j).2 (by
          have h5 : (s.take i)[j]? = some 39 := by rw [List.getElem?_eq_getElem (by rw [List.length_take]; omega), hjc]
          rw [List.getElem?_take, if_pos (by omega)] at h5
          exact h5)
        have h4 := hno j (by omega)
        rw [h3] at h4
        cases h4)
      have e2 : quotes s = quotes (s.take i ++ 39 :: s.drop (i + 1)) := by rw [← hs]
      rw [e2, quotes_append, quotes_cons, hq]
      simp [quote1]
theorem replace_quotes (s : List UInt8) : Lib.replaceAll s [39] [39, 39] = quotes s := by
  unfold Lib.replaceAll Lib.replace Lib.replaceNum
  rw [if_neg (by decide), if_pos (by left; decide)]
  exact replaceK_quotes _ _ (Nat.le_refl _)
theorem quotes_len (s : List UInt8) : (quotes s).length ≤ 2 * s.length := by
  induction s with
  | nil => simp [quotes]
  | cons c s ih =>
    rw [quotes_cons, List.length_append, List.length_cons]
    have : (quote1 c).length ≤ 2 := by unfold quote1; split <;> simp
    omega
theorem str_cat (a b : List UInt8) : (⟨a.toArray⟩ : ByteArray) ++ (⟨b.toArray⟩ : ByteArray) = ⟨(a ++ b).toArray⟩ := by
  apply ByteArray.ext
  simp [ByteArray.data_append]
end Go.Proofs.Ytinflndbfdbnhaa.Lex

/- The writers of strings.Builder, by the shelf's contracts. -/
set_option linter.unusedVariables false
namespace Go.Proofs
open Go.Shelf
def Try.lays167_ren : Go.Shelf.Ren := ⟨fun | 167 => 130 | 240 => 135 | 276 => 137 | n => n, fun | 0 => 0 | 4 => 4 | 5 => 5 | 9 => 9 | 20 => 20 | 37 => 134 | 70 => 146 | 72 => 148 | 75 => 150 | 164 => 156 | 80 => 152 | n => n, fun | n => n⟩
theorem Try.lays167 : Go.Proofs.Lays.n167 Try.prog Try.lays167_ren := {
  mixed := by kernel_rfl
  f167 := Try.func130.trans (congrArg some (by kernel_rfl))
  f240 := Try.func135.trans (congrArg some (by kernel_rfl))
  f276 := Try.func137.trans (congrArg some (by kernel_rfl))
  t0 := Try.underlying0
  a0 := Try.isAgg0
  z0 := Try.sizeOf0
  v0 := Try.zeroValue0
  t4 := Try.underlying4
  a4 := Try.isAgg4
  z4 := Try.sizeOf4
  v4 := Try.zeroValue4
  t5 := Try.underlying5
  a5 := Try.isAgg5
  z5 := Try.sizeOf5
  v5 := Try.zeroValue5
  t9 := Try.underlying9
  a9 := Try.isAgg9
  z9 := Try.sizeOf9
  v9 := Try.zeroValue9
  t20 := Try.underlying20
  a20 := Try.isAgg20
  z20 := Try.sizeOf20
  v20 := Try.zeroValue20
  t37 := Try.underlying134
  a37 := Try.isAgg134
  z37 := Try.sizeOf134
  v37 := Try.zeroValue134
  t70 := Try.underlying146
  a70 := Try.isAgg146
  z70 := Try.sizeOf146
  v70 := Try.zeroValue146
  t72 := Try.underlying148
  a72 := Try.isAgg148
  z72 := Try.sizeOf148
  v72 := Try.zeroValue148
  t75 := Try.underlying150
  a75 := Try.isAgg150
  z75 := Try.sizeOf150
  v75 := Try.zeroValue150
  t164 := Try.underlying156
  a164 := Try.isAgg156
  z164 := Try.sizeOf156
  v164 := Try.zeroValue156 }
theorem Try.Builder_Extra_167 : Builder.Extra Try.prog Try.lays167_ren := {
  sizeBuilder := by kernel_rfl
  liesBuilder := by kernel_rfl
  t5 := Try.underlying5
  a5 := Try.isAgg5
  z5 := Try.sizeOf5
  v5 := Try.zeroValue5
  infoByte := by kernel_rfl
  cellsByte := by kernel_rfl
  sizeByte := by kernel_rfl
  neB5 := by decide }
open Go.RowKit in
theorem Try.Builder_WriteByte (B b : Nat) (bs : List Value) (c : Int) (w : World) (h : Lib.IsBuilder 148 5 B b bs w) (hlen : bs.length + 1 ≤ 140737488355328) (hBw : B ≤ w.heap.size) :
    Calls Try.prog 130 #[.pointer (some ⟨b, 0, none⟩), .int .u8 c] w fun e w' => e = .returned .nilIface ∧ (Lib.BuilderAt 148 5 B b (.pointer (some ⟨b, 0, none⟩)) (bs ++ [.int .u8 c]) w' ∧ Below B w w') := Any.Builder_WriteByte Try.lays167 Try.Builder_Extra_167 B b bs c w h hlen hBw
end Go.Proofs

/- The writers of strings.Builder. -/


/- How the program and the reference write a text, and a blob. -/
set_option linter.unusedVariables false
set_option linter.unusedSimpArgs false
namespace Go.Proofs.Ytinflndbfdbnhaa.Lex
open Go.RowKit Go.Proofs.Ytinflndbfdbnhaa.Base Go.Proofs.Ytinflndbfdbnhaa.App

theorem shaped_below {w w' : World} (h : w.ShapedOpen Try.prog) (hb : Below w.heap.size w w') : w'.ShapedOpen Try.prog := h.keptBut (hb.frame (fun _ => False)) (fun _ h => h.elim)
def litText (s : List UInt8) : List UInt8 := 39 :: (quotes s ++ [39])
def hexB (n : Nat) : UInt8 := if n < 10 then UInt8.ofNat (48 + n) else UInt8.ofNat (55 + n)
def hexs (l : List UInt8) : List UInt8 := l.flatMap fun c => [hexB (c.toNat / 16), hexB (c.toNat % 16)]
def litBlob (s : List UInt8) : List UInt8 := 88 :: 39 :: (hexs s ++ [39])

theorem count_small (s : ByteArray) : Lib.countB s ⟨#[39]⟩ ≤ s.size := by
  show Lib.count s.data.toList [39] ≤ _
  rw [Lib.count_one]
  exact List.count_le_length

theorem hexs_snoc (l : List UInt8) (c : UInt8) : hexs (l ++ [c]) = hexs l ++ [hexB (c.toNat / 16), hexB (c.toNat % 16)] := by simp [hexs]
theorem take_snoc (s : ByteArray) (k : Nat) (h : k < s.size) : s.data.toList.take (k + 1) = s.data.toList.take k ++ [s[k]] := by
  rw [List.take_succ_eq_append_getElem (by simpa using h)]; rfl
def hexDigits : ByteArray := ⟨#[48, 49, 50, 51, 52, 53, 54, 55, 56, 57, 65, 66, 67, 68, 69, 70]⟩
theorem hex_at : ∀ n : Nat, (h : n < 16) → (⟨#[48, 49, 50, 51, 52, 53, 54, 55, 56, 57, 65, 66, 67, 68, 69, 70]⟩ : ByteArray)[n]'(h) = hexB n
  | 0, _ => rfl | 1, _ => rfl | 2, _ => rfl | 3, _ => rfl | 4, _ => rfl | 5, _ => rfl | 6, _ => rfl | 7, _ => rfl
  | 8, _ => rfl | 9, _ => rfl | 10, _ => rfl | 11, _ => rfl | 12, _ => rfl | 13, _ => rfl | 14, _ => rfl | 15, _ => rfl
  | n + 16, h => absurd h (by omega)
theorem hexs_len (l : List UInt8) : (hexs l).length = 2 * l.length := by
  induction l with
  | nil => rfl
  | cons c l ih =>
    simp only [hexs, List.flatMap_cons, List.length_append, List.length_cons, List.length_nil] at ih ⊢
    omega
theorem byteCells_len (l : List UInt8) : (Lib.byteCells l).length = l.length := by simp [Lib.byteCells]
theorem byteCells_snoc (l : List UInt8) (c : UInt8) : Lib.byteCells (l ++ [c]) = Lib.byteCells l ++ [.int .u8 c.toNat] := by simp [Lib.byteCells]
theorem bld_fresh (w : World) : Lib.IsBuilder 148 5 w.heap.size w.heap.size [] (w.alloc (.cells #[.pointer none, .slice none 0 0] 148)) :=
  .inl ⟨Nat.le_refl _, .slice none 0 0, blk_new _ _, World.ownsRow_nil _ _ _ _, by simp [Value.ownBlock]⟩

end Go.Proofs.Ytinflndbfdbnhaa.Lex

/- How the reference writes a number. -/
set_option linter.unusedVariables false
set_option linter.unusedSimpArgs false
namespace Go.Proofs.Ytinflndbfdbnhaa.Lex
open Go.RowKit Go.Proofs.Ytinflndbfdbnhaa.Base Go.Proofs.Ytinflndbfdbnhaa.App Go.Proofs.Ytinflndbfdbnhaa.Byt

theorem nDigits_le : ∀ (k u : Nat), u < 10 ^ (k + 1) → Lib.nDigits u ≤ k + 1
  | 0, u, h => by rw [Lib.nDigits, dif_pos (by omega)]; exact Nat.le_refl _
  | k + 1, u, h => by
    rw [Lib.nDigits]
    split
    · omega
    · have := nDigits_le k (u / 10) (by rw [Nat.div_lt_iff_lt_mul (by omega)]; rw [Nat.pow_succ] at h; exact h)
      omega
theorem digits_small {u : Nat} (h : u < 18446744073709551616) : (Lib.decDigits u).length ≤ 20 := by
  rw [Lib.decDigits_length]
  exact nDigits_le 19 u (by omega)
/-- A number's last digit. -/
def dgt (n : Nat) : UInt8 := UInt8.ofNat (48 + n % 10)
theorem decDigits_step (n : Nat) : Lib.decDigits n = (if n / 10 = 0 then [] else Lib.decDigits (n / 10)) ++ [dgt n] := by
  by_cases h : n < 10
  · rw [Lib.decDigits, dif_pos h, if_pos (by omega), dgt, Nat.mod_eq_of_lt h]
    rfl
  · rw [Lib.decDigits, dif_neg h, if_neg (by omega)]
    rfl

theorem conv_digit (n : Nat) (W : World) : (convert 134 9 (.slice (some ⟨W.heap.size, 0, none⟩) 1 1)).run Try.prog (W.alloc (.cells #[.int .u8 (48 + (n : Int) % 10)] 5)) = .ok (.string ⟨#[dgt n]⟩) (W.alloc (.cells #[.int .u8 (48 + (n : Int) % 10)] 5)) := by
  have h := IsBytes.new W [dgt n] 5 (by simp)
  have e : bcells [dgt n] = [.int .u8 (48 + (n : Int) % 10)] := by
    have h2 : (dgt n).toNat = 48 + n % 10 := by
      unfold dgt
      rw [UInt8.toNat_ofNat']
      omega
    simp only [bcells, List.map_cons, List.map_nil, bcell, h2]
    congr 2
  rw [e] at h
  exact run_string 134 9 5 Try.underlying134 Try.underlying5 Try.underlying9 1 h

set_option maxRecDepth 100000 in
set_option maxHeartbeats 1600000 in
theorem digits_calls (u : Nat) (hu : u < 18446744073709551616) (w : World) :
    Calls Try.prog 132 #[.int .u64 (u : Int)] w fun e w' => e = .returned (.string ⟨(Lib.decDigits u).toArray⟩) ∧ Below w.heap.size w w' := by
  have hcv := conv_digit u
  have HLN := Asd.mk (digits_small hu)
  have HST := Asd.mk (decDigits_step u)
  go_enter Try.func132, Try.ntmps132
  go_wp2
  have hcv2 := hcv
  clear hcv
  go_loopw [0, 3] (fun v0 v3 wr => ∃ (n : Nat) (s : List UInt8), n < 18446744073709551616 ∧ v0 = .int .u64 (n : Int) ∧ v3 = .string ⟨s.toArray⟩ ∧ Asd ((if n = 0 then [] else Lib.decDigits n) ++ s = Lib.decDigits u) ∧ Asd (Below w.heap.size w wr)) (fun v0 _ _ => (intOf v0).toNat)
  case atStart => exact ⟨u / 10, [dgt u], by omega, by first | rfl | go_num | simp, by rfl, ⟨HST.out.symm⟩, ⟨below_alloc (Below.refl _ _) _⟩⟩
  case round =>
    obtain ⟨n, s, hn, rfl, rfl, HR, HB⟩ := hrel
    by_cases h0 : 0 < n
    · have hcv := conv_digit n
      have hsl : (⟨s.toArray⟩ : ByteArray).size ≤ 20 := by
        have h1 := HLN.out
        rw [← HR.out, List.length_append] at h1
        have h3 : (⟨s.toArray⟩ : ByteArray).size = s.length := by simp [ByteArray.size]
        rw [h3]
        omega
      have HE : Asd ((⟨#[dgt n]⟩ : ByteArray) ++ ⟨s.toArray⟩ = ⟨(dgt n :: s).toArray⟩) := Asd.mk (by
        rw [show (⟨#[dgt n]⟩ : ByteArray) = ⟨[dgt n].toArray⟩ from rfl, str_cat]
        rfl)
      have HR2 : Asd ((if n / 10 = 0 then [] else Lib.decDigits (n / 10)) ++ (dgt n :: s) = Lib.decDigits u) := Asd.mk (by
        have h1 := HR.out
        rw [if_neg (by omega), decDigits_step n, List.append_assoc] at h1
        exact h1)
      generalize (⟨s.toArray⟩ : ByteArray) = sb at hsl HE ⊢
      go_wp2
      go_roundw
      case rel => exact ⟨n / 10, _, by omega, by first | rfl | go_num | simp, by first | rw [← HE.out] | (rw [← HE.out]; rfl), HR2, ⟨below_alloc HB.out _⟩⟩
      case measure => simp [intOf]; omega
    · obtain rfl : n = 0 := by omega
      have HE : Asd (s = Lib.decDigits u) := Asd.mk (by have := HR.out; simpa using this)
      generalize hsb : (⟨s.toArray⟩ : ByteArray) = sb
      have HSB := Asd.mk hsb
      clear hsb
      go_wp2
      go_ret
      exact ⟨ret_eq (by rw [← HE.out, HSB.out]; rfl), HB.out⟩

theorem wrap_abs {n : Int} (h0 : -9223372036854775808 ≤ n) (h : n < 0) : IntKind.u64.wrap (-(IntKind.u64.wrap n)) = (n.natAbs : Int) := by
  simp [IntKind.wrap, IntKind.signed, IntKind.bits]
  omega
theorem wrap_pos {n : Int} (h1 : n ≤ 9223372036854775807) (h : 0 ≤ n) : IntKind.u64.wrap n = (n.toNat : Int) := by
  simp [IntKind.wrap, IntKind.signed, IntKind.bits]
  omega
set_option maxRecDepth 100000 in
set_option maxHeartbeats 1600000 in
theorem number_calls (n : Int) (h0 : -9223372036854775808 ≤ n) (h1 : n ≤ 9223372036854775807) (w : World) :
    Calls Try.prog 116 #[.int .i64 n] w fun e w' => e = .returned (.string ⟨(Lib.itoa n).toArray⟩) ∧ Below w.heap.size w w' := by
  by_cases h : n < 0
  · have HE := Asd.mk (wrap_abs h0 h)
    have hl := digits_small (u := n.natAbs) (by omega)
    have HI : Asd ((⟨#[45]⟩ : ByteArray) ++ ⟨(Lib.decDigits n.natAbs).toArray⟩ = ⟨(Lib.itoa n).toArray⟩) := Asd.mk (by
      rw [show (⟨#[45]⟩ : ByteArray) = ⟨[45].toArray⟩ from rfl, str_cat, Lib.itoa, if_pos h]
      rfl)
    have hsz : (⟨(Lib.decDigits n.natAbs).toArray⟩ : ByteArray).size ≤ 20 := by
      have h3 : (⟨(Lib.decDigits n.natAbs).toArray⟩ : ByteArray).size = (Lib.decDigits n.natAbs).length := by simp [ByteArray.size]
      omega
    have HD := Asd.mk (fun w => digits_calls n.natAbs (by omega) w)
    generalize (⟨(Lib.decDigits n.natAbs).toArray⟩ : ByteArray) = ds at hsz HI HD
    clear hl
    go_enter Try.func116, Try.ntmps116
    go_wp2_with fail
    rw [HE.out]
    refine (HD.out _).mono ?_
    rintro e w1 ⟨rfl, hb⟩
    have HB := Asd.mk hb
    clear hb
    go_wp2
    go_ret
    exact ⟨ret_eq (by rw [← HI.out]; rfl), HB.out⟩
  · obtain ⟨m, rfl⟩ := Int.eq_ofNat_of_zero_le (show 0 ≤ n by omega)
    have HI : Asd ((⟨(Lib.decDigits m).toArray⟩ : ByteArray) = ⟨(Lib.itoa (m : Int)).toArray⟩) := Asd.mk (by rw [Lib.itoa, if_neg h]; rfl)
    have HD := Asd.mk (fun w => digits_calls m (by omega) w)
    generalize (⟨(Lib.decDigits m).toArray⟩ : ByteArray) = ds at HI HD
    go_enter Try.func116, Try.ntmps116
    go_wp2_with fail
    refine (HD.out _).mono ?_
    rintro e w1 ⟨rfl, hb⟩
    have HB := Asd.mk hb
    clear hb
    go_wp2
    go_ret
    exact ⟨ret_eq (by rw [← HI.out]; rfl), HB.out⟩
end Go.Proofs.Ytinflndbfdbnhaa.Lex

/- How the reference writes a text, and a blob. -/
set_option linter.unusedVariables false
set_option linter.unusedSimpArgs false
namespace Go.Proofs.Ytinflndbfdbnhaa.Lex
open Go.RowKit Go.Proofs.Ytinflndbfdbnhaa.Base Go.Proofs.Ytinflndbfdbnhaa.App Go.Proofs.Ytinflndbfdbnhaa.Byt

set_option maxRecDepth 100000 in
set_option maxHeartbeats 1600000 in
theorem rcheck_calls (k : Int) (hk : k = 3 ∨ k = 4) (s : ByteArray) (w : World) :
    Calls Try.prog 8 #[.agg #[.int .i64 k, .int .i64 0, .string s]] w fun e w' => e = .returned (.int .i64 0) ∧ Below w.heap.size w w' := by
  rcases hk with rfl | rfl
  · go_enter Try.func8, Try.ntmps8
    go_wp2
    go_ret
    exact ⟨rfl, below_alloc (Below.refl _ _) _⟩
  · go_enter Try.func8, Try.ntmps8
    go_wp2
    go_ret
    exact ⟨rfl, below_alloc (Below.refl _ _) _⟩

theorem infoU8 : (Try.prog.info? 5).map (fun i => (i.zero, i.size, i.bytes)) = some (some (.int .u8 0), 1, 1) := by kernel_rfl
theorem rowB : RowT Try.prog 134 5 1 1 := ⟨Try.underlying134, by obtain ⟨i, h1, h2, h3, h4⟩ := info_parts infoU8; exact ⟨i, _, h1, h2, h3, h4, rfl⟩, by decide⟩

theorem bcells_length (l : List UInt8) : (bcells l).length = l.length := by simp [bcells]
theorem own_made {w : World} {B b : Nat} {xs : List UInt8} (h : w.heap[b]? = some (.cells (bcells xs).toArray 5 (0, 0))) (hB : B ≤ b) (hl : xs.length ≤ 100000) : w.ownsRow B 5 1 (.slice (some ⟨b, 0, none⟩) xs.length xs.length) xs.length (bcells xs) :=
  ⟨by rw [bcells_length]; omega, .inr ⟨b, xs.length, _, rfl, hB, h, Nat.le_refl _, by unfold maxLen; omega, by simp [bcells], by rw [List.take_of_length_le (by simp [bcells])]⟩⟩

set_option maxRecDepth 100000 in
set_option maxHeartbeats 3200000 in
theorem rlit_text (s : ByteArray) (w : World) (hs : s.size ≤ 1048576) :
    Calls Try.prog 71 #[.agg #[.int .i64 3, .int .i64 0, .string s]] w fun e w' => e = .returned (.string ⟨(litText s.data.toList).toArray⟩) ∧ Below w.heap.size w w' := by
  go_enter Try.func71, Try.ntmps71
  go_wp2_with fail
  refine (rcheck_calls 3 (.inl rfl) s _).mono ?_
  rintro e w1 ⟨rfl, hb1⟩
  have HB0 := Asd.mk (below_alloc (Below.refl _ w) (.cells #[.int .i64 3, .int .i64 0, .string s] 23))
  have HX := Asd.mk (blk_below hb1 (blk_new w (.cells #[.int .i64 3, .int .i64 0, .string s] 23)))
  have HB1 : Asd (Below w.heap.size w w1) := Asd.mk (below_step HB0.out hb1)
  have x0 := (blk_cell HX.out 0).trans rfl
  have y0 := (blk_cell (blk_alloc HX.out (.cells #[.int .u8 39] 5)) 0).trans rfl
  have HO0 : Asd ((w1.alloc (.cells #[.int .u8 39] 5)).ownsRow w1.heap.size 5 1 (.slice (some ⟨w1.heap.size, 0, none⟩) 1 1) 1 (bcells [39])) := Asd.mk (own_made (xs := [39]) (blk_new w1 _) (Nat.le_refl _) (by simp))
  have HBW : Asd (w.heap.size < w1.heap.size) := Asd.mk (blk_lt HX.out)
  clear hb1
  go_wp2
  go_loopw [3, 4] (fun v3 v4 wr => ∃ (k m c : Nat) (A : Option Addr), k ≤ s.size ∧ v4 = .int .i64 (k : Int) ∧ v3 = .slice A m c ∧ Asd (wr.ownsRow w1.heap.size 5 1 (.slice A m c) m (bcells (39 :: quotes (s.data.toList.take k)))) ∧ Asd (Below w1.heap.size w1 wr)) (fun _ v4 _ => s.size - (intOf v4).toNat)
  case atStart => exact ⟨0, 1, 1, _, by omega, rfl, rfl, ⟨HO0.out⟩, ⟨below_alloc (Below.refl _ _) _⟩⟩
  case round =>
    obtain ⟨k, m, c, A, hk, rfl, rfl, HO, HBR⟩ := hrel
    have HXR := Asd.mk (blk_below HBR.out HX.out)
    have x0 := (blk_cell HXR.out 0).trans rfl
    have x2 := (blk_cell HXR.out 2).trans rfl
    have hm : m ≤ 2097153 := by
      have h1 := HO.out.1
      have h2 := quotes_len (s.data.toList.take k)
      have h3 : (s.data.toList.take k).length ≤ k := by rw [List.length_take]; omega
      simp only [bcells, List.length_map, List.length_cons, Nat.mul_one] at h1
      omega
    have hsz : w1.heap.size ≤ wr.heap.size := HBR.out.size
    by_cases hlt : k < s.size
    · have hc := s[k].toNat_lt
      have HTS := Asd.mk (take_snoc s k hlt)
      generalize hsk : s[k] = b at hc HTS
      by_cases h39 : b = 39
      · subst h39
        have HOA := Asd.mk (HO.out.alloc (.cells #[.int .u8 39, .int .u8 39] 5))
        have HF := Asd.mk (Feeds.of_block (size := 1) (m := 2) (c := 2) (blk_new wr (.cells #[.int .u8 39, .int .u8 39] 5)) rfl (by simp [Value.oneCell']))
        go_wp2_with (at_builtin; refine wpList_src rfl (.tmp 59) (.tmp 60) _ rfl rowB _ rfl HOA.out (some ⟨wr.heap.size, 0, none⟩) 2 2 rfl HF.out (by unfold maxLen; omega) (by omega) (by simp; omega) ?_)
        intro A9 c9 w9 ho9 hg9
        have HO9 : Asd (w9.ownsRow w1.heap.size 5 1 (.slice A9 (m + 2) c9) (m + 2) (bcells (39 :: quotes (s.data.toList.take (k + 1))))) := Asd.mk (by
          rw [HTS.out, quotes_append]
          simpa [bcells, bcell, quotes, quote1] using ho9)
        have HB9 : Asd (Below w1.heap.size w1 w9) := Asd.mk (below_own (below_alloc HBR.out _) HOA.out hg9 (Nat.le_refl _))
        clear ho9 hg9
        go_wp2
        go_roundw
        case rel => exact ⟨k + 1, _, _, _, by omega, by go_num, rfl, HO9, HB9⟩
        case measure => simp [intOf]; omega
      · have hne : ((b.toNat : Int) == 39) = false := by
          rw [beq_eq_false_iff_ne]
          intro e
          exact h39 (UInt8.toNat_inj.1 (show b.toNat = 39 by omega))
        have HOA := Asd.mk (HO.out.alloc (.cells #[.int .u8 (b.toNat : Int)] 5))
        have HF := Asd.mk (Feeds.of_block (size := 1) (m := 1) (c := 1) (blk_new wr (.cells #[.int .u8 (b.toNat : Int)] 5)) rfl (by simp [Value.oneCell']))
        have H39 := Asd.mk h39
        clear h39
        go_wp2_with (at_builtin; refine wpList_src rfl (.tmp 39) (.tmp 41) _ rfl rowB _ rfl HOA.out (some ⟨wr.heap.size, 0, none⟩) 1 1 rfl HF.out (by unfold maxLen; omega) (by omega) (by simp; omega) ?_)
        intro A9 c9 w9 ho9 hg9
        have HO9 : Asd (w9.ownsRow w1.heap.size 5 1 (.slice A9 (m + 1) c9) (m + 1) (bcells (39 :: quotes (s.data.toList.take (k + 1))))) := Asd.mk (by
          rw [HTS.out, quotes_append]
          simpa [bcells, bcell, quotes, quote1, H39.out] using ho9)
        have HB9 : Asd (Below w1.heap.size w1 w9) := Asd.mk (below_own (below_alloc HBR.out _) HOA.out hg9 (Nat.le_refl _))
        clear ho9 hg9
        go_wp2
        go_roundw
        case rel => exact ⟨k + 1, _, _, _, by omega, by go_num, rfl, HO9, HB9⟩
        case measure => simp [intOf]; omega
    · obtain rfl : k = s.size := by omega
      have HOA := Asd.mk (HO.out.alloc (.cells #[.int .u8 39] 5))
      have HF := Asd.mk (Feeds.of_block (size := 1) (m := 1) (c := 1) (blk_new wr (.cells #[.int .u8 39] 5)) rfl (by simp [Value.oneCell']))
      have HTK := Asd.mk (List.take_of_length_le (Nat.le_of_eq (show s.data.toList.length = s.size from rfl)))
      clear hlt
      go_wp2_with (at_builtin; refine wpList_src rfl (.tmp 62) (.tmp 63) _ rfl rowB _ rfl HOA.out (some ⟨wr.heap.size, 0, none⟩) 1 1 rfl HF.out (by unfold maxLen; omega) (by omega) (by simp; omega) ?_)
      intro A9 c9 w9 ho9 hg9
      have HB9 : Asd (Below w1.heap.size w1 w9) := Asd.mk (below_own (below_alloc HBR.out _) HOA.out hg9 (Nat.le_refl _))
      have HO9 : w9.ownsRow w1.heap.size 5 1 (.slice A9 (m + 1) c9) (m + 1) (bcells (litText s.data.toList)) := by
        rw [HTK.out] at ho9
        simpa [bcells, bcell, litText] using ho9
      obtain ⟨A8, c8, e8, hib, _⟩ := of_own HO9 (by omega)
      injection e8 with e1 e2 e3
      subst e1 e3
      have hcv := run_string 134 9 5 Try.underlying134 Try.underlying5 Try.underlying9 c9 hib
      have HBE : Asd (Below w.heap.size w w9) := Asd.mk (HB1.out.trans (HB9.out.mono HB1.out.size))
      clear ho9 hg9 HO9 hib
      generalize hrr : (⟨(litText s.data.toList).toArray⟩ : ByteArray) = rr at hcv
      have HRR := Asd.mk hrr
      clear hrr
      go_wp2
      go_ret
      exact ⟨ret_eq (by rw [HRR.out]; rfl), HBE.out⟩
end Go.Proofs.Ytinflndbfdbnhaa.Lex

/- calc.sum: sums, differences, quotients, rests. -/
set_option linter.unusedVariables false
set_option linter.unusedSimpArgs false
namespace Go.Proofs.Ytinflndbfdbnhaa.Exp
open Go.RowKit Go.Proofs.Ytinflndbfdbnhaa.Base Go.Proofs.Ytinflndbfdbnhaa.App Go.Proofs.Ytinflndbfdbnhaa.Byt

theorem wrap_i64 (n : Int) : IntKind.i64.wrap n = (n + 9223372036854775808) % 18446744073709551616 - 9223372036854775808 := by simp [IntKind.wrap, IntKind.bits, IntKind.signed]; omega
theorem wrap_neg (v : BitVec 64) : decide (IntKind.i64.wrap (v.toNat : Int) < 0) = v.msb := by
  rw [BitVec.msb_eq_decide, wrap_i64]
  have := v.isLt
  simp only [decide_eq_decide]
  omega
theorem msb_of (a : Int) (h : -9223372036854775808 ≤ a) (h' : a ≤ 9223372036854775807) : (BitVec.ofInt 64 a).msb = decide (a < 0) := by
  rw [BitVec.msb_eq_toInt, BitVec.toInt_ofInt, Int.bmod_eq_of_le (by omega) (by omega)]
theorem wrap_in (n : Int) : -9223372036854775808 ≤ IntKind.i64.wrap n ∧ IntKind.i64.wrap n ≤ 9223372036854775807 := by rw [wrap_i64]; omega
theorem xor_neg (a b : Int) (h : -9223372036854775808 ≤ a) (h' : a ≤ 9223372036854775807) (k : -9223372036854775808 ≤ b) (k' : b ≤ 9223372036854775807) : decide (bits .xor .i64 a b < 0) = (decide (a < 0) ^^ decide (b < 0)) := by
  show decide (IntKind.i64.wrap (((BitVec.ofInt 64 a ^^^ BitVec.ofInt 64 b).toNat : Nat) : Int) < 0) = _
  rw [wrap_neg, BitVec.msb_xor, msb_of a h h', msb_of b k k']
theorem and_neg (a b : Int) (h : -9223372036854775808 ≤ a) (h' : a ≤ 9223372036854775807) (k : -9223372036854775808 ≤ b) (k' : b ≤ 9223372036854775807) : decide (bits .and .i64 a b < 0) = (decide (a < 0) && decide (b < 0)) := by
  show decide (IntKind.i64.wrap (((BitVec.ofInt 64 a &&& BitVec.ofInt 64 b).toNat : Nat) : Int) < 0) = _
  rw [wrap_neg, BitVec.msb_and, msb_of a h h', msb_of b k k']
theorem bits_in (o : BinOp) (a b : Int) : -9223372036854775808 ≤ bits o .i64 a b ∧ bits o .i64 a b ≤ 9223372036854775807 := wrap_in _
/-- The test of a sum, or a difference, on its signs. -/
theorem signs (a b c d : Int) (ha : -9223372036854775808 ≤ a ∧ a ≤ 9223372036854775807) (hb : -9223372036854775808 ≤ b ∧ b ≤ 9223372036854775807) (hc : -9223372036854775808 ≤ c ∧ c ≤ 9223372036854775807) (hd : -9223372036854775808 ≤ d ∧ d ≤ 9223372036854775807) :
    (0 ≤ bits .and .i64 (bits .xor .i64 a b) (bits .xor .i64 c d)) ↔ ¬ ((a < 0 ↔ ¬ b < 0) ∧ (c < 0 ↔ ¬ d < 0)) := by
  have h := and_neg (bits .xor .i64 a b) (bits .xor .i64 c d) (bits_in _ _ _).1 (bits_in _ _ _).2 (bits_in _ _ _).1 (bits_in _ _ _).2
  rw [xor_neg a b ha.1 ha.2 hb.1 hb.2, xor_neg c d hc.1 hc.2 hd.1 hd.2] at h
  generalize bits .and .i64 (bits .xor .i64 a b) (bits .xor .i64 c d) = x at *
  by_cases h1 : a < 0 <;> by_cases h2 : b < 0 <;> by_cases h3 : c < 0 <;> by_cases h4 : d < 0 <;> simp [h1, h2, h3, h4] at h ⊢ <;> omega
theorem add_fits (a b : Int) (ha : -9223372036854775808 ≤ a ∧ a ≤ 9223372036854775807) (hb : -9223372036854775808 ≤ b ∧ b ≤ 9223372036854775807) :
    (0 ≤ bits .and .i64 (bits .xor .i64 a (IntKind.i64.wrap (a + b))) (bits .xor .i64 b (IntKind.i64.wrap (a + b)))) ↔ (-9223372036854775808 ≤ a + b ∧ a + b ≤ 9223372036854775807) := by
  rw [signs a _ b _ ha (wrap_in _) hb (wrap_in _), wrap_i64]
  omega
theorem sub_fits (a b : Int) (ha : -9223372036854775808 ≤ a ∧ a ≤ 9223372036854775807) (hb : -9223372036854775808 ≤ b ∧ b ≤ 9223372036854775807) :
    (0 ≤ bits .and .i64 (bits .xor .i64 a b) (bits .xor .i64 a (IntKind.i64.wrap (a - b)))) ↔ (-9223372036854775808 ≤ a - b ∧ a - b ≤ 9223372036854775807) := by
  rw [signs a b a _ ha hb ha (wrap_in _), wrap_i64]
  omega
/-- How a sum of numbers ends. -/
def SumR (r : Except Int Int) (w : World) (e : Ending) (w' : World) : Prop := w' = w ∧ match r with
  | .ok n => e = .returned (.int .i64 n)
  | .error n => e = errP n
set_option maxRecDepth 100000 in
set_option maxHeartbeats 1600000 in
theorem sum_add_ok (a b s : Int) (hs : wrap64 (a + b) = s) (hg : decide (0 ≤ bits .and .i64 (bits .xor .i64 a s) (bits .xor .i64 b s)) = true) (w : World) : Calls Try.prog 65 #[.int .i64 11, .int .i64 a, .int .i64 b] w fun e w' => e = .returned (.int .i64 s) ∧ w' = w := by
  go_enter Try.func65, Try.ntmps65
  go_wp2_with fail
  refine (check_ok 40 _).mono ?_
  rintro e w' ⟨rfl, rfl⟩
  go_wp2
  go_ret
  exact ⟨rfl, rfl⟩
set_option maxRecDepth 100000 in
set_option maxHeartbeats 1600000 in
theorem sum_add_no (a b s : Int) (hs : wrap64 (a + b) = s) (hg : decide (0 ≤ bits .and .i64 (bits .xor .i64 a s) (bits .xor .i64 b s)) = false) (w : World) : Calls Try.prog 65 #[.int .i64 11, .int .i64 a, .int .i64 b] w fun e w' => e = errP 40 ∧ w' = w := by
  go_enter Try.func65, Try.ntmps65
  go_wp2_with fail
  refine (check_no 40 _).mono ?_
  rintro e w' ⟨rfl, rfl⟩
  go_wp2
  exact ⟨rfl, rfl, rfl⟩
set_option maxRecDepth 100000 in
set_option maxHeartbeats 1600000 in
theorem sum_sub_ok (a b s : Int) (hs : wrap64 (a - b) = s) (hg : decide (0 ≤ bits .and .i64 (bits .xor .i64 a b) (bits .xor .i64 a s)) = true) (w : World) : Calls Try.prog 65 #[.int .i64 12, .int .i64 a, .int .i64 b] w fun e w' => e = .returned (.int .i64 s) ∧ w' = w := by
  go_enter Try.func65, Try.ntmps65
  go_wp2_with fail
  refine (check_ok 40 _).mono ?_
  rintro e w' ⟨rfl, rfl⟩
  go_wp2
  go_ret
  exact ⟨rfl, rfl⟩
set_option maxRecDepth 100000 in
set_option maxHeartbeats 1600000 in
theorem sum_sub_no (a b s : Int) (hs : wrap64 (a - b) = s) (hg : decide (0 ≤ bits .and .i64 (bits .xor .i64 a b) (bits .xor .i64 a s)) = false) (w : World) : Calls Try.prog 65 #[.int .i64 12, .int .i64 a, .int .i64 b] w fun e w' => e = errP 40 ∧ w' = w := by
  go_enter Try.func65, Try.ntmps65
  go_wp2_with fail
  refine (check_no 40 _).mono ?_
  rintro e w' ⟨rfl, rfl⟩
  go_wp2
  exact ⟨rfl, rfl, rfl⟩
set_option maxRecDepth 100000 in
set_option maxHeartbeats 1600000 in
theorem sum_14_zero (a : Int) (w : World) : Calls Try.prog 65 #[.int .i64 14, .int .i64 a, .int .i64 0] w fun e w' => e = errP 41 ∧ w' = w := by
  go_enter Try.func65, Try.ntmps65
  go_wp2_with fail
  refine (check_no 41 _).mono ?_
  rintro e w' ⟨rfl, rfl⟩
  go_wp2
  exact ⟨rfl, rfl, rfl⟩
set_option maxRecDepth 100000 in
set_option maxHeartbeats 1600000 in
theorem sum_15_zero (a : Int) (w : World) : Calls Try.prog 65 #[.int .i64 15, .int .i64 a, .int .i64 0] w fun e w' => e = errP 41 ∧ w' = w := by
  go_enter Try.func65, Try.ntmps65
  go_wp2_with fail
  refine (check_no 41 _).mono ?_
  rintro e w' ⟨rfl, rfl⟩
  go_wp2
  exact ⟨rfl, rfl, rfl⟩
set_option maxRecDepth 100000 in
set_option maxHeartbeats 1600000 in
theorem sum_rem_one (a : Int) (w : World) : Calls Try.prog 65 #[.int .i64 15, .int .i64 a, .int .i64 (-1)] w fun e w' => e = .returned (.int .i64 0) ∧ w' = w := by
  go_enter Try.func65, Try.ntmps65
  go_wp2_with fail
  refine (check_ok 41 _).mono ?_
  rintro e w' ⟨rfl, rfl⟩
  go_wp2
  go_ret
  exact ⟨rfl, rfl⟩
set_option maxRecDepth 100000 in
set_option maxHeartbeats 1600000 in
theorem sum_rem (a b : Int) (hb0 : ¬ b = 0) (h0 : (b != 0) = true) (h1 : (b == -1) = false) (ha : inI a) (hb : inI b) (w : World) : Calls Try.prog 65 #[.int .i64 15, .int .i64 a, .int .i64 b] w fun e w' => e = .returned (.int .i64 (a.tmod b)) ∧ w' = w := by
  go_enter Try.func65, Try.ntmps65
  go_wp2_with fail
  refine (check_ok 41 _).mono ?_
  rintro e w' ⟨rfl, rfl⟩
  go_wp2
  go_ret
  exact ⟨rfl, rfl⟩
set_option maxRecDepth 100000 in
set_option maxHeartbeats 1600000 in
theorem sum_div_least (w : World) : Calls Try.prog 65 #[.int .i64 14, .int .i64 (-9223372036854775808), .int .i64 (-1)] w fun e w' => e = errP 40 ∧ w' = w := by
  go_enter Try.func65, Try.ntmps65
  go_wp2_with fail
  refine (check_ok 41 _).mono ?_
  rintro e w' ⟨rfl, rfl⟩
  go_wp2_with fail
  refine (check_no 40 _).mono ?_
  rintro e w' ⟨rfl, rfl⟩
  go_wp2
  exact ⟨rfl, rfl, rfl⟩
set_option maxRecDepth 100000 in
set_option maxHeartbeats 1600000 in
theorem sum_div (a b q : Int) (hq : wrap64 (a.tdiv b) = q) (hb0 : ¬ b = 0) (h0 : (b != 0) = true) (h1 : (a != -9223372036854775808) = true) (ha : inI a) (hb : inI b) (w : World) : Calls Try.prog 65 #[.int .i64 14, .int .i64 a, .int .i64 b] w fun e w' => e = .returned (.int .i64 q) ∧ w' = w := by
  go_enter Try.func65, Try.ntmps65
  go_wp2_with fail
  refine (check_ok 41 _).mono ?_
  rintro e w' ⟨rfl, rfl⟩
  go_wp2_with fail
  refine (check_ok 40 _).mono ?_
  rintro e w' ⟨rfl, rfl⟩
  go_wp2
  go_ret
  exact ⟨ret_eq (congrArg (Value.int .i64) hq), rfl⟩
set_option maxRecDepth 100000 in
set_option maxHeartbeats 1600000 in
theorem sum_div2 (b q : Int) (hq : wrap64 (-Int.tdiv 9223372036854775808 b) = q) (hb0 : ¬ b = 0) (h0 : (b != 0) = true) (h1 : (b != -1) = true) (w : World) : Calls Try.prog 65 #[.int .i64 14, .int .i64 (-9223372036854775808), .int .i64 b] w fun e w' => e = .returned (.int .i64 q) ∧ w' = w := by
  go_enter Try.func65, Try.ntmps65
  go_wp2_with fail
  refine (check_ok 41 _).mono ?_
  rintro e w' ⟨rfl, rfl⟩
  go_wp2_with fail
  refine (check_ok 40 _).mono ?_
  rintro e w' ⟨rfl, rfl⟩
  go_wp2
  go_ret
  exact ⟨ret_eq (congrArg (Value.int .i64) hq), rfl⟩
theorem wrap64_id (n : Int) (h : inI n) : wrap64 n = n := IntWalk.wrap64_in n h
theorem tdiv_abs (a b : Int) : (a.tdiv b).natAbs ≤ a.natAbs := by
  rw [Int.natAbs_tdiv]; exact Nat.div_le_self _ _
theorem tdiv_in (a b : Int) (ha : inI a) (h : ¬ (a = -9223372036854775808 ∧ b = -1)) : inI (a.tdiv b) := by
  have h1 := tdiv_abs a b
  obtain ⟨h2, h3⟩ := ha
  by_cases hl : a = -9223372036854775808
  · by_cases hb : b.natAbs ≤ 1
    · have hb : b = 0 ∨ b = 1 := by
        have : ¬ b = -1 := fun e => h ⟨hl, e⟩
        omega
      rcases hb with rfl | rfl
      · rw [Int.tdiv_zero]; exact ⟨by omega, by omega⟩
      · rw [Int.tdiv_one]; exact ⟨by omega, by omega⟩
    · have : (a.tdiv b).natAbs ≤ 9223372036854775808 / 2 := by
        rw [Int.natAbs_tdiv, hl]
        exact Nat.div_le_div_left (by omega) (by omega)
      exact ⟨by omega, by omega⟩
  · exact ⟨by omega, by omega⟩
end Go.Proofs.Ytinflndbfdbnhaa.Exp

/- calc.sum: products; calc.sum whole. -/
set_option linter.unusedVariables false
set_option linter.unusedSimpArgs false
namespace Go.Proofs.Ytinflndbfdbnhaa.Exp
open Go.RowKit Go.Proofs.Ytinflndbfdbnhaa.Base Go.Proofs.Ytinflndbfdbnhaa.App Go.Proofs.Ytinflndbfdbnhaa.Byt

set_option maxRecDepth 100000 in
set_option maxHeartbeats 1600000 in
theorem size_neg (n : Int) (x : Int) (h : n < 0) (hx : IntKind.u64.wrap (-IntKind.u64.wrap n) = x) (w : World) : Calls Try.prog 129 #[.int .i64 n] w fun e w' => e = .returned (.int .u64 x) ∧ w' = w := by
  go_enter Try.func129, Try.ntmps129
  go_wp2
  go_ret
  exact ⟨rfl, rfl⟩
theorem size_pos (n : Int) (x : Int) (h : ¬ n < 0) (hx : IntKind.u64.wrap n = x) (w : World) : Calls Try.prog 129 #[.int .i64 n] w fun e w' => e = .returned (.int .u64 x) ∧ w' = w := by
  go_enter Try.func129, Try.ntmps129
  go_wp2
  go_ret
  exact ⟨rfl, rfl⟩
theorem size_calls (n : Int) (h : inI n) (w : World) : Calls Try.prog 129 #[.int .i64 n] w fun e w' => e = .returned (.int .u64 (n.natAbs : Int)) ∧ w' = w := by
  obtain ⟨h1, h2⟩ := h
  by_cases hn : n < 0
  · exact size_neg n _ hn (by rw [IntKind.wrap_u64, IntKind.wrap_u64]; omega) w
  · exact size_pos n _ hn (by rw [IntKind.wrap_u64]; omega) w
set_option maxRecDepth 100000 in
set_option maxHeartbeats 1600000 in
theorem prod_00_ok (a b : Int) (h1 : decide (a < 0) = false) (h2 : decide (b < 0) = false) (L : Nat) (hL : (L : Int) ≤ 9223372036854775807) (z : Int) (hz : IntKind.i64.wrap (L : Int) = z) (x y : Nat) (hS : ∀ w, Calls Try.prog 129 #[.int .i64 a] w fun e w' => e = .returned (.int .u64 (x : Int)) ∧ w' = w) (hT : ∀ w, Calls Try.prog 129 #[.int .i64 b] w fun e w' => e = .returned (.int .u64 (y : Int)) ∧ w' = w) (hM : ∀ w, Calls Try.prog 128 #[.int .u64 x, .int .u64 y] w fun e w' => e = .returned (.tuple #[.int .u64 (0 : Int), .int .u64 (L : Int)]) ∧ w' = w) (w : World) : Calls Try.prog 111 #[.int .i64 a, .int .i64 b] w fun e w' => e = .returned (.int .i64 z) ∧ w' = w := by
  have HS := Asd.mk hS
  have HT := Asd.mk hT
  have HM := Asd.mk hM
  clear hS hT hM
  go_enter Try.func111, Try.ntmps111
  go_wp2_with fail
  refine (HS.out _).mono ?_
  rintro e w' ⟨rfl, rfl⟩
  go_wp2_with fail
  refine (HT.out _).mono ?_
  rintro e w' ⟨rfl, rfl⟩
  go_wp2_with fail
  refine (HM.out _).mono ?_
  rintro e w' ⟨rfl, rfl⟩
  go_wp2_with fail
  refine (check_ok 40 _).mono ?_
  rintro e w' ⟨rfl, rfl⟩
  go_wp2
  go_ret
  exact ⟨rfl, rfl⟩
set_option maxRecDepth 100000 in
set_option maxHeartbeats 1600000 in
theorem prod_00_no (a b : Int) (h1 : decide (a < 0) = false) (h2 : decide (b < 0) = false) (L : Nat) (hL : decide ((L : Int) ≤ 9223372036854775807) = false) (x y : Nat) (hS : ∀ w, Calls Try.prog 129 #[.int .i64 a] w fun e w' => e = .returned (.int .u64 (x : Int)) ∧ w' = w) (hT : ∀ w, Calls Try.prog 129 #[.int .i64 b] w fun e w' => e = .returned (.int .u64 (y : Int)) ∧ w' = w) (hM : ∀ w, Calls Try.prog 128 #[.int .u64 x, .int .u64 y] w fun e w' => e = .returned (.tuple #[.int .u64 (0 : Int), .int .u64 (L : Int)]) ∧ w' = w) (w : World) : Calls Try.prog 111 #[.int .i64 a, .int .i64 b] w fun e w' => e = errP 40 ∧ w' = w := by
  have HS := Asd.mk hS
  have HT := Asd.mk hT
  have HM := Asd.mk hM
  clear hS hT hM
  go_enter Try.func111, Try.ntmps111
  go_wp2_with fail
  refine (HS.out _).mono ?_
  rintro e w' ⟨rfl, rfl⟩
  go_wp2_with fail
  refine (HT.out _).mono ?_
  rintro e w' ⟨rfl, rfl⟩
  go_wp2_with fail
  refine (HM.out _).mono ?_
  rintro e w' ⟨rfl, rfl⟩
  go_wp2_with fail
  refine (check_no 40 _).mono ?_
  rintro e w' ⟨rfl, rfl⟩
  go_wp2
  exact ⟨rfl, rfl, rfl⟩
set_option maxRecDepth 100000 in
set_option maxHeartbeats 1600000 in
theorem prod_00_hi (a b : Int) (h1 : decide (a < 0) = false) (h2 : decide (b < 0) = false) (L : Nat) (H : Int) (hH : (H == 0) = false) (x y : Nat) (hS : ∀ w, Calls Try.prog 129 #[.int .i64 a] w fun e w' => e = .returned (.int .u64 (x : Int)) ∧ w' = w) (hT : ∀ w, Calls Try.prog 129 #[.int .i64 b] w fun e w' => e = .returned (.int .u64 (y : Int)) ∧ w' = w) (hM : ∀ w, Calls Try.prog 128 #[.int .u64 x, .int .u64 y] w fun e w' => e = .returned (.tuple #[.int .u64 H, .int .u64 (L : Int)]) ∧ w' = w) (w : World) : Calls Try.prog 111 #[.int .i64 a, .int .i64 b] w fun e w' => e = errP 40 ∧ w' = w := by
  have HS := Asd.mk hS
  have HT := Asd.mk hT
  have HM := Asd.mk hM
  clear hS hT hM
  go_enter Try.func111, Try.ntmps111
  go_wp2_with fail
  refine (HS.out _).mono ?_
  rintro e w' ⟨rfl, rfl⟩
  go_wp2_with fail
  refine (HT.out _).mono ?_
  rintro e w' ⟨rfl, rfl⟩
  go_wp2_with fail
  refine (HM.out _).mono ?_
  rintro e w' ⟨rfl, rfl⟩
  go_wp2_with fail
  refine (check_no 40 _).mono ?_
  rintro e w' ⟨rfl, rfl⟩
  go_wp2
  exact ⟨rfl, rfl, rfl⟩
set_option maxRecDepth 100000 in
set_option maxHeartbeats 1600000 in
theorem prod_01_ok (a b : Int) (h1 : decide (a < 0) = false) (h2 : decide (b < 0) = true) (L : Nat) (hL : (L : Int) ≤ 9223372036854775808) (z : Int) (hz : IntKind.i64.wrap (IntKind.u64.wrap (-(L : Int))) = z) (x y : Nat) (hS : ∀ w, Calls Try.prog 129 #[.int .i64 a] w fun e w' => e = .returned (.int .u64 (x : Int)) ∧ w' = w) (hT : ∀ w, Calls Try.prog 129 #[.int .i64 b] w fun e w' => e = .returned (.int .u64 (y : Int)) ∧ w' = w) (hM : ∀ w, Calls Try.prog 128 #[.int .u64 x, .int .u64 y] w fun e w' => e = .returned (.tuple #[.int .u64 (0 : Int), .int .u64 (L : Int)]) ∧ w' = w) (w : World) : Calls Try.prog 111 #[.int .i64 a, .int .i64 b] w fun e w' => e = .returned (.int .i64 z) ∧ w' = w := by
  have HS := Asd.mk hS
  have HT := Asd.mk hT
  have HM := Asd.mk hM
  clear hS hT hM
  go_enter Try.func111, Try.ntmps111
  go_wp2_with fail
  refine (HS.out _).mono ?_
  rintro e w' ⟨rfl, rfl⟩
  go_wp2_with fail
  refine (HT.out _).mono ?_
  rintro e w' ⟨rfl, rfl⟩
  go_wp2_with fail
  refine (HM.out _).mono ?_
  rintro e w' ⟨rfl, rfl⟩
  go_wp2_with fail
  refine (check_ok 40 _).mono ?_
  rintro e w' ⟨rfl, rfl⟩
  go_wp2
  go_ret
  exact ⟨rfl, rfl⟩
set_option maxRecDepth 100000 in
set_option maxHeartbeats 1600000 in
theorem prod_01_no (a b : Int) (h1 : decide (a < 0) = false) (h2 : decide (b < 0) = true) (L : Nat) (hL : decide ((L : Int) ≤ 9223372036854775808) = false) (x y : Nat) (hS : ∀ w, Calls Try.prog 129 #[.int .i64 a] w fun e w' => e = .returned (.int .u64 (x : Int)) ∧ w' = w) (hT : ∀ w, Calls Try.prog 129 #[.int .i64 b] w fun e w' => e = .returned (.int .u64 (y : Int)) ∧ w' = w) (hM : ∀ w, Calls Try.prog 128 #[.int .u64 x, .int .u64 y] w fun e w' => e = .returned (.tuple #[.int .u64 (0 : Int), .int .u64 (L : Int)]) ∧ w' = w) (w : World) : Calls Try.prog 111 #[.int .i64 a, .int .i64 b] w fun e w' => e = errP 40 ∧ w' = w := by
  have HS := Asd.mk hS
  have HT := Asd.mk hT
  have HM := Asd.mk hM
  clear hS hT hM
  go_enter Try.func111, Try.ntmps111
  go_wp2_with fail
  refine (HS.out _).mono ?_
  rintro e w' ⟨rfl, rfl⟩
  go_wp2_with fail
  refine (HT.out _).mono ?_
  rintro e w' ⟨rfl, rfl⟩
  go_wp2_with fail
  refine (HM.out _).mono ?_
  rintro e w' ⟨rfl, rfl⟩
  go_wp2_with fail
  refine (check_no 40 _).mono ?_
  rintro e w' ⟨rfl, rfl⟩
  go_wp2
  exact ⟨rfl, rfl, rfl⟩
set_option maxRecDepth 100000 in
set_option maxHeartbeats 1600000 in
theorem prod_01_hi (a b : Int) (h1 : decide (a < 0) = false) (h2 : decide (b < 0) = true) (L : Nat) (H : Int) (hH : (H == 0) = false) (x y : Nat) (hS : ∀ w, Calls Try.prog 129 #[.int .i64 a] w fun e w' => e = .returned (.int .u64 (x : Int)) ∧ w' = w) (hT : ∀ w, Calls Try.prog 129 #[.int .i64 b] w fun e w' => e = .returned (.int .u64 (y : Int)) ∧ w' = w) (hM : ∀ w, Calls Try.prog 128 #[.int .u64 x, .int .u64 y] w fun e w' => e = .returned (.tuple #[.int .u64 H, .int .u64 (L : Int)]) ∧ w' = w) (w : World) : Calls Try.prog 111 #[.int .i64 a, .int .i64 b] w fun e w' => e = errP 40 ∧ w' = w := by
  have HS := Asd.mk hS
  have HT := Asd.mk hT
  have HM := Asd.mk hM
  clear hS hT hM
  go_enter Try.func111, Try.ntmps111
  go_wp2_with fail
  refine (HS.out _).mono ?_
  rintro e w' ⟨rfl, rfl⟩
  go_wp2_with fail
  refine (HT.out _).mono ?_
  rintro e w' ⟨rfl, rfl⟩
  go_wp2_with fail
  refine (HM.out _).mono ?_
  rintro e w' ⟨rfl, rfl⟩
  go_wp2_with fail
  refine (check_no 40 _).mono ?_
  rintro e w' ⟨rfl, rfl⟩
  go_wp2
  exact ⟨rfl, rfl, rfl⟩
set_option maxRecDepth 100000 in
set_option maxHeartbeats 1600000 in
theorem prod_10_ok (a b : Int) (h1 : decide (a < 0) = true) (h2 : decide (b < 0) = false) (L : Nat) (hL : (L : Int) ≤ 9223372036854775808) (z : Int) (hz : IntKind.i64.wrap (IntKind.u64.wrap (-(L : Int))) = z) (x y : Nat) (hS : ∀ w, Calls Try.prog 129 #[.int .i64 a] w fun e w' => e = .returned (.int .u64 (x : Int)) ∧ w' = w) (hT : ∀ w, Calls Try.prog 129 #[.int .i64 b] w fun e w' => e = .returned (.int .u64 (y : Int)) ∧ w' = w) (hM : ∀ w, Calls Try.prog 128 #[.int .u64 x, .int .u64 y] w fun e w' => e = .returned (.tuple #[.int .u64 (0 : Int), .int .u64 (L : Int)]) ∧ w' = w) (w : World) : Calls Try.prog 111 #[.int .i64 a, .int .i64 b] w fun e w' => e = .returned (.int .i64 z) ∧ w' = w := by
  have HS := Asd.mk hS
  have HT := Asd.mk hT
  have HM := Asd.mk hM
  clear hS hT hM
  go_enter Try.func111, Try.ntmps111
  go_wp2_with fail
  refine (HS.out _).mono ?_
  rintro e w' ⟨rfl, rfl⟩
  go_wp2_with fail
  refine (HT.out _).mono ?_
  rintro e w' ⟨rfl, rfl⟩
  go_wp2_with fail
  refine (HM.out _).mono ?_
  rintro e w' ⟨rfl, rfl⟩
  go_wp2_with fail
  refine (check_ok 40 _).mono ?_
  rintro e w' ⟨rfl, rfl⟩
  go_wp2
  go_ret
  exact ⟨rfl, rfl⟩
set_option maxRecDepth 100000 in
set_option maxHeartbeats 1600000 in
theorem prod_10_no (a b : Int) (h1 : decide (a < 0) = true) (h2 : decide (b < 0) = false) (L : Nat) (hL : decide ((L : Int) ≤ 9223372036854775808) = false) (x y : Nat) (hS : ∀ w, Calls Try.prog 129 #[.int .i64 a] w fun e w' => e = .returned (.int .u64 (x : Int)) ∧ w' = w) (hT : ∀ w, Calls Try.prog 129 #[.int .i64 b] w fun e w' => e = .returned (.int .u64 (y : Int)) ∧ w' = w) (hM : ∀ w, Calls Try.prog 128 #[.int .u64 x, .int .u64 y] w fun e w' => e = .returned (.tuple #[.int .u64 (0 : Int), .int .u64 (L : Int)]) ∧ w' = w) (w : World) : Calls Try.prog 111 #[.int .i64 a, .int .i64 b] w fun e w' => e = errP 40 ∧ w' = w := by
  have HS := Asd.mk hS
  have HT := Asd.mk hT
  have HM := Asd.mk hM
  clear hS hT hM
  go_enter Try.func111, Try.ntmps111
  go_wp2_with fail
  refine (HS.out _).mono ?_
  rintro e w' ⟨rfl, rfl⟩
  go_wp2_with fail
  refine (HT.out _).mono ?_
  rintro e w' ⟨rfl, rfl⟩
  go_wp2_with fail
  refine (HM.out _).mono ?_
  rintro e w' ⟨rfl, rfl⟩
  go_wp2_with fail
  refine (check_no 40 _).mono ?_
  rintro e w' ⟨rfl, rfl⟩
  go_wp2
  exact ⟨rfl, rfl, rfl⟩
set_option maxRecDepth 100000 in
set_option maxHeartbeats 1600000 in
theorem prod_10_hi (a b : Int) (h1 : decide (a < 0) = true) (h2 : decide (b < 0) = false) (L : Nat) (H : Int) (hH : (H == 0) = false) (x y : Nat) (hS : ∀ w, Calls Try.prog 129 #[.int .i64 a] w fun e w' => e = .returned (.int .u64 (x : Int)) ∧ w' = w) (hT : ∀ w, Calls Try.prog 129 #[.int .i64 b] w fun e w' => e = .returned (.int .u64 (y : Int)) ∧ w' = w) (hM : ∀ w, Calls Try.prog 128 #[.int .u64 x, .int .u64 y] w fun e w' => e = .returned (.tuple #[.int .u64 H, .int .u64 (L : Int)]) ∧ w' = w) (w : World) : Calls Try.prog 111 #[.int .i64 a, .int .i64 b] w fun e w' => e = errP 40 ∧ w' = w := by
  have HS := Asd.mk hS
  have HT := Asd.mk hT
  have HM := Asd.mk hM
  clear hS hT hM
  go_enter Try.func111, Try.ntmps111
  go_wp2_with fail
  refine (HS.out _).mono ?_
  rintro e w' ⟨rfl, rfl⟩
  go_wp2_with fail
  refine (HT.out _).mono ?_
  rintro e w' ⟨rfl, rfl⟩
  go_wp2_with fail
  refine (HM.out _).mono ?_
  rintro e w' ⟨rfl, rfl⟩
  go_wp2_with fail
  refine (check_no 40 _).mono ?_
  rintro e w' ⟨rfl, rfl⟩
  go_wp2
  exact ⟨rfl, rfl, rfl⟩
set_option maxRecDepth 100000 in
set_option maxHeartbeats 1600000 in
theorem prod_11_ok (a b : Int) (h1 : decide (a < 0) = true) (h2 : decide (b < 0) = true) (L : Nat) (hL : (L : Int) ≤ 9223372036854775807) (z : Int) (hz : IntKind.i64.wrap (L : Int) = z) (x y : Nat) (hS : ∀ w, Calls Try.prog 129 #[.int .i64 a] w fun e w' => e = .returned (.int .u64 (x : Int)) ∧ w' = w) (hT : ∀ w, Calls Try.prog 129 #[.int .i64 b] w fun e w' => e = .returned (.int .u64 (y : Int)) ∧ w' = w) (hM : ∀ w, Calls Try.prog 128 #[.int .u64 x, .int .u64 y] w fun e w' => e = .returned (.tuple #[.int .u64 (0 : Int), .int .u64 (L : Int)]) ∧ w' = w) (w : World) : Calls Try.prog 111 #[.int .i64 a, .int .i64 b] w fun e w' => e = .returned (.int .i64 z) ∧ w' = w := by
  have HS := Asd.mk hS
  have HT := Asd.mk hT
  have HM := Asd.mk hM
  clear hS hT hM
  go_enter Try.func111, Try.ntmps111
  go_wp2_with fail
  refine (HS.out _).mono ?_
  rintro e w' ⟨rfl, rfl⟩
  go_wp2_with fail
  refine (HT.out _).mono ?_
  rintro e w' ⟨rfl, rfl⟩
  go_wp2_with fail
  refine (HM.out _).mono ?_
  rintro e w' ⟨rfl, rfl⟩
  go_wp2_with fail
  refine (check_ok 40 _).mono ?_
  rintro e w' ⟨rfl, rfl⟩
  go_wp2
  go_ret
  exact ⟨rfl, rfl⟩
set_option maxRecDepth 100000 in
set_option maxHeartbeats 1600000 in
theorem prod_11_no (a b : Int) (h1 : decide (a < 0) = true) (h2 : decide (b < 0) = true) (L : Nat) (hL : decide ((L : Int) ≤ 9223372036854775807) = false) (x y : Nat) (hS : ∀ w, Calls Try.prog 129 #[.int .i64 a] w fun e w' => e = .returned (.int .u64 (x : Int)) ∧ w' = w) (hT : ∀ w, Calls Try.prog 129 #[.int .i64 b] w fun e w' => e = .returned (.int .u64 (y : Int)) ∧ w' = w) (hM : ∀ w, Calls Try.prog 128 #[.int .u64 x, .int .u64 y] w fun e w' => e = .returned (.tuple #[.int .u64 (0 : Int), .int .u64 (L : Int)]) ∧ w' = w) (w : World) : Calls Try.prog 111 #[.int .i64 a, .int .i64 b] w fun e w' => e = errP 40 ∧ w' = w := by
  have HS := Asd.mk hS
  have HT := Asd.mk hT
  have HM := Asd.mk hM
  clear hS hT hM
  go_enter Try.func111, Try.ntmps111
  go_wp2_with fail
  refine (HS.out _).mono ?_
  rintro e w' ⟨rfl, rfl⟩
  go_wp2_with fail
  refine (HT.out _).mono ?_
  rintro e w' ⟨rfl, rfl⟩
  go_wp2_with fail
  refine (HM.out _).mono ?_
  rintro e w' ⟨rfl, rfl⟩
  go_wp2_with fail
  refine (check_no 40 _).mono ?_
  rintro e w' ⟨rfl, rfl⟩
  go_wp2
  exact ⟨rfl, rfl, rfl⟩
set_option maxRecDepth 100000 in
set_option maxHeartbeats 1600000 in
theorem prod_11_hi (a b : Int) (h1 : decide (a < 0) = true) (h2 : decide (b < 0) = true) (L : Nat) (H : Int) (hH : (H == 0) = false) (x y : Nat) (hS : ∀ w, Calls Try.prog 129 #[.int .i64 a] w fun e w' => e = .returned (.int .u64 (x : Int)) ∧ w' = w) (hT : ∀ w, Calls Try.prog 129 #[.int .i64 b] w fun e w' => e = .returned (.int .u64 (y : Int)) ∧ w' = w) (hM : ∀ w, Calls Try.prog 128 #[.int .u64 x, .int .u64 y] w fun e w' => e = .returned (.tuple #[.int .u64 H, .int .u64 (L : Int)]) ∧ w' = w) (w : World) : Calls Try.prog 111 #[.int .i64 a, .int .i64 b] w fun e w' => e = errP 40 ∧ w' = w := by
  have HS := Asd.mk hS
  have HT := Asd.mk hT
  have HM := Asd.mk hM
  clear hS hT hM
  go_enter Try.func111, Try.ntmps111
  go_wp2_with fail
  refine (HS.out _).mono ?_
  rintro e w' ⟨rfl, rfl⟩
  go_wp2_with fail
  refine (HT.out _).mono ?_
  rintro e w' ⟨rfl, rfl⟩
  go_wp2_with fail
  refine (HM.out _).mono ?_
  rintro e w' ⟨rfl, rfl⟩
  go_wp2_with fail
  refine (check_no 40 _).mono ?_
  rintro e w' ⟨rfl, rfl⟩
  go_wp2
  exact ⟨rfl, rfl, rfl⟩
theorem i64_left' (n : Int) : IntKind.i64.wrap n = (n + 9223372036854775808) % 18446744073709551616 - 9223372036854775808 := IntKind.wrap_i64 n
theorem prod_calls (a b : Int) (ha : inI a) (hb : inI b) (w : World) : Calls Try.prog 111 #[.int .i64 a, .int .i64 b] w (SumR (numN (a * b)) w) := by
  have hx : a.natAbs < 18446744073709551616 := by have := ha.1; have := ha.2; omega
  have hy : b.natAbs < 18446744073709551616 := by have := hb.1; have := hb.2; omega
  have hM := fun w => Try.bits_Mul64 a.natAbs b.natAbs hx hy w
  have hP := Int.natAbs_mul a b
  generalize a.natAbs * b.natAbs = P at hM hP
  by_cases h1 : a < 0
  · by_cases h2 : b < 0
    · have hs : 0 ≤ a * b := Int.mul_nonneg_of_nonpos_of_nonpos (by omega) (by omega)
      generalize a * b = ab at *
      by_cases hH : P / 18446744073709551616 = 0
      · rw [hH] at hM
        have hPL : P % 18446744073709551616 = P := by omega
        rw [hPL] at hM
        by_cases hL : (P : Int) ≤ 9223372036854775807
        · rw [show numN ab = .ok ab from if_pos ⟨by omega, by omega⟩]
          exact (prod_11_ok a b (decide_eq_true h1) (decide_eq_true h2) P hL ab (by rw [i64_left']; omega) _ _ (size_calls a ha) (size_calls b hb) hM w).mono fun e w' h => ⟨h.2, h.1⟩
        · rw [show numN ab = .error 40 from if_neg (by unfold inI; omega)]
          exact (prod_11_no a b (decide_eq_true h1) (decide_eq_true h2) P (decide_eq_false hL) _ _ (size_calls a ha) (size_calls b hb) hM w).mono fun e w' h => ⟨h.2, h.1⟩
      · rw [show numN ab = .error 40 from if_neg (by unfold inI; omega)]
        exact (prod_11_hi a b (decide_eq_true h1) (decide_eq_true h2) _ _ (by rw [beq_eq_false_iff_ne]; omega) _ _ (size_calls a ha) (size_calls b hb) hM w).mono fun e w' h => ⟨h.2, h.1⟩
    · have hs : a * b ≤ 0 := Int.mul_nonpos_of_nonpos_of_nonneg (by omega) (by omega)
      generalize a * b = ab at *
      by_cases hH : P / 18446744073709551616 = 0
      · rw [hH] at hM
        have hPL : P % 18446744073709551616 = P := by omega
        rw [hPL] at hM
        by_cases hL : (P : Int) ≤ 9223372036854775808
        · rw [show numN ab = .ok ab from if_pos ⟨by omega, by omega⟩]
          exact (prod_10_ok a b (decide_eq_true h1) (decide_eq_false h2) P hL ab (by rw [i64_left', IntKind.wrap_u64]; omega) _ _ (size_calls a ha) (size_calls b hb) hM w).mono fun e w' h => ⟨h.2, h.1⟩
        · rw [show numN ab = .error 40 from if_neg (by unfold inI; omega)]
          exact (prod_10_no a b (decide_eq_true h1) (decide_eq_false h2) P (decide_eq_false hL) _ _ (size_calls a ha) (size_calls b hb) hM w).mono fun e w' h => ⟨h.2, h.1⟩
      · rw [show numN ab = .error 40 from if_neg (by unfold inI; omega)]
        exact (prod_10_hi a b (decide_eq_true h1) (decide_eq_false h2) _ _ (by rw [beq_eq_false_iff_ne]; omega) _ _ (size_calls a ha) (size_calls b hb) hM w).mono fun e w' h => ⟨h.2, h.1⟩
  · by_cases h2 : b < 0
    · have hs : a * b ≤ 0 := Int.mul_nonpos_of_nonneg_of_nonpos (by omega) (by omega)
      generalize a * b = ab at *
      by_cases hH : P / 18446744073709551616 = 0
      · rw [hH] at hM
        have hPL : P % 18446744073709551616 = P := by omega
        rw [hPL] at hM
        by_cases hL : (P : Int) ≤ 9223372036854775808
        · rw [show numN ab = .ok ab from if_pos ⟨by omega, by omega⟩]
          exact (prod_01_ok a b (decide_eq_false h1) (decide_eq_true h2) P hL ab (by rw [i64_left', IntKind.wrap_u64]; omega) _ _ (size_calls a ha) (size_calls b hb) hM w).mono fun e w' h => ⟨h.2, h.1⟩
        · rw [show numN ab = .error 40 from if_neg (by unfold inI; omega)]
          exact (prod_01_no a b (decide_eq_false h1) (decide_eq_true h2) P (decide_eq_false hL) _ _ (size_calls a ha) (size_calls b hb) hM w).mono fun e w' h => ⟨h.2, h.1⟩
      · rw [show numN ab = .error 40 from if_neg (by unfold inI; omega)]
        exact (prod_01_hi a b (decide_eq_false h1) (decide_eq_true h2) _ _ (by rw [beq_eq_false_iff_ne]; omega) _ _ (size_calls a ha) (size_calls b hb) hM w).mono fun e w' h => ⟨h.2, h.1⟩
    · have hs : 0 ≤ a * b := Int.mul_nonneg (by omega) (by omega)
      generalize a * b = ab at *
      by_cases hH : P / 18446744073709551616 = 0
      · rw [hH] at hM
        have hPL : P % 18446744073709551616 = P := by omega
        rw [hPL] at hM
        by_cases hL : (P : Int) ≤ 9223372036854775807
        · rw [show numN ab = .ok ab from if_pos ⟨by omega, by omega⟩]
          exact (prod_00_ok a b (decide_eq_false h1) (decide_eq_false h2) P hL ab (by rw [i64_left']; omega) _ _ (size_calls a ha) (size_calls b hb) hM w).mono fun e w' h => ⟨h.2, h.1⟩
        · rw [show numN ab = .error 40 from if_neg (by unfold inI; omega)]
          exact (prod_00_no a b (decide_eq_false h1) (decide_eq_false h2) P (decide_eq_false hL) _ _ (size_calls a ha) (size_calls b hb) hM w).mono fun e w' h => ⟨h.2, h.1⟩
      · rw [show numN ab = .error 40 from if_neg (by unfold inI; omega)]
        exact (prod_00_hi a b (decide_eq_false h1) (decide_eq_false h2) _ _ (by rw [beq_eq_false_iff_ne]; omega) _ _ (size_calls a ha) (size_calls b hb) hM w).mono fun e w' h => ⟨h.2, h.1⟩
set_option maxRecDepth 100000 in
set_option maxHeartbeats 1600000 in
theorem sum_mul_ok (a b z : Int) (h : ∀ w, Calls Try.prog 111 #[.int .i64 a, .int .i64 b] w fun e w' => e = .returned (.int .i64 z) ∧ w' = w) (w : World) : Calls Try.prog 65 #[.int .i64 13, .int .i64 a, .int .i64 b] w fun e w' => e = .returned (.int .i64 z) ∧ w' = w := by
  have H := Asd.mk h
  clear h
  go_enter Try.func65, Try.ntmps65
  go_wp2_with fail
  refine (H.out _).mono ?_
  rintro e w' ⟨rfl, rfl⟩
  go_wp2
  go_ret
  exact ⟨rfl, rfl⟩
set_option maxRecDepth 100000 in
set_option maxHeartbeats 1600000 in
theorem sum_mul_no (a b : Int) (h : ∀ w, Calls Try.prog 111 #[.int .i64 a, .int .i64 b] w fun e w' => e = errP 40 ∧ w' = w) (w : World) : Calls Try.prog 65 #[.int .i64 13, .int .i64 a, .int .i64 b] w fun e w' => e = errP 40 ∧ w' = w := by
  have H := Asd.mk h
  clear h
  go_enter Try.func65, Try.ntmps65
  go_wp2_with fail
  refine (H.out _).mono ?_
  rintro e w' ⟨rfl, rfl⟩
  go_wp2
  exact ⟨rfl, rfl, rfl⟩
/-- calc.sum. -/
theorem sum_calls (op a b : Int) (h : 11 ≤ op) (h' : op ≤ 15) (ha : inI a) (hb : inI b) (w : World) : Calls Try.prog 65 #[.int .i64 op, .int .i64 a, .int .i64 b] w (SumR (sumN op a b) w) := by
  have hc : op = 11 ∨ op = 12 ∨ op = 13 ∨ op = 14 ∨ op = 15 := by omega
  have hw1 := fun n => IntWalk.i64_left n
  rcases hc with rfl | rfl | rfl | rfl | rfl
  · have hg := add_fits a b ha hb
    rw [show sumN 11 a b = numN (a + b) from rfl]
    unfold numN
    rw [hw1] at hg
    by_cases hi : inI (a + b)
    · rw [if_pos hi]
      rw [wrap64_id _ hi] at hg
      exact (sum_add_ok a b (a + b) (wrap64_id _ hi) (decide_eq_true (hg.2 hi)) w).mono fun e w' h => ⟨h.2, h.1⟩
    · rw [if_neg hi]
      exact (sum_add_no a b _ rfl (decide_eq_false fun h => hi (hg.1 h)) w).mono fun e w' h => ⟨h.2, h.1⟩
  · have hg := sub_fits a b ha hb
    rw [show sumN 12 a b = numN (a - b) from rfl]
    unfold numN
    rw [hw1] at hg
    by_cases hi : inI (a - b)
    · rw [if_pos hi]
      rw [wrap64_id _ hi] at hg
      exact (sum_sub_ok a b (a - b) (wrap64_id _ hi) (decide_eq_true (hg.2 hi)) w).mono fun e w' h => ⟨h.2, h.1⟩
    · rw [if_neg hi]
      exact (sum_sub_no a b _ rfl (decide_eq_false fun h => hi (hg.1 h)) w).mono fun e w' h => ⟨h.2, h.1⟩
  · rw [show sumN 13 a b = numN (a * b) from rfl]
    have hp := prod_calls a b ha hb
    unfold numN at hp ⊢
    by_cases hi : inI (a * b)
    · rw [if_pos hi] at hp ⊢
      exact (sum_mul_ok a b _ (fun w => (hp w).mono fun e w' h => ⟨h.2, h.1⟩) w).mono fun e w' h => ⟨h.2, h.1⟩
    · rw [if_neg hi] at hp ⊢
      exact (sum_mul_no a b (fun w => (hp w).mono fun e w' h => ⟨h.2, h.1⟩) w).mono fun e w' h => ⟨h.2, h.1⟩
  · by_cases hz : b = 0
    · subst hz
      exact (sum_14_zero a w).mono fun e w' h => ⟨h.2, h.1⟩
    · rw [show sumN 14 a b = numN (a.tdiv b) by simp [sumN, hz]]
      unfold numN
      by_cases hl : a = -9223372036854775808
      · subst hl
        by_cases hb1 : b = -1
        · subst hb1
          rw [if_neg (by decide)]
          exact (sum_div_least w).mono fun e w' h => ⟨h.2, h.1⟩
        · have hi := tdiv_in _ b ha (fun h => hb1 h.2)
          rw [if_pos hi]
          exact (sum_div2 b _ (by rw [← Int.neg_tdiv]; exact wrap64_id _ hi) hz (by simpa using hz) (by simpa using hb1) w).mono fun e w' h => ⟨h.2, h.1⟩
      · have hi := tdiv_in a b ha (fun h => hl h.1)
        rw [if_pos hi]
        exact (sum_div a b _ (wrap64_id _ hi) hz (by simpa using hz) (by simpa using hl) ha hb w).mono fun e w' h => ⟨h.2, h.1⟩
  · by_cases hz : b = 0
    · subst hz
      exact (sum_15_zero a w).mono fun e w' h => ⟨h.2, h.1⟩
    · rw [show sumN 15 a b = .ok (a.tmod b) by simp [sumN, hz]]
      by_cases hb1 : b = -1
      · subst hb1
        rw [show a.tmod (-1) = 0 by simp]
        exact (sum_rem_one a w).mono fun e w' h => ⟨h.2, h.1⟩
      · exact (sum_rem a b hz (by simpa using hz) (by simpa using hb1) ha hb w).mono fun e w' h => ⟨h.2, h.1⟩
end Go.Proofs.Ytinflndbfdbnhaa.Exp

/- value.Compare at two values of one kind. -/
set_option linter.unusedVariables false
set_option linter.unusedSimpArgs false
namespace Go.Proofs.Ytinflndbfdbnhaa.Exp
open Go.RowKit Go.Proofs.Ytinflndbfdbnhaa.Base Go.Proofs.Ytinflndbfdbnhaa.App Go.Proofs.Ytinflndbfdbnhaa.Byt

theorem nan64 (x : Int) (w : World) : Calls Try.prog 126 #[.int .i64 x] w fun e w' => e = .returned (.bool false) ∧ w' = w := by
  go_enter Try.func126, Try.ntmps126
  go_wp2
  go_ret
  exact ⟨rfl, rfl⟩
theorem cmp64_lt (x y : Int) (h : x < y) (w : World) : Calls Try.prog 109 #[.int .i64 x, .int .i64 y] w fun e w' => e = .returned (.int .i64 (-1)) ∧ w' = w := by
  go_enter Try.func109, Try.ntmps109
  go_wp2_with fail
  refine (nan64 x _).mono ?_
  rintro e w' ⟨rfl, rfl⟩
  go_wp2_with fail
  refine (nan64 y _).mono ?_
  rintro e w' ⟨rfl, rfl⟩
  go_wp2
  go_ret
  exact ⟨rfl, rfl⟩
theorem cmp64_gt (x y : Int) (h : ¬ x < y) (h' : y < x) (w : World) : Calls Try.prog 109 #[.int .i64 x, .int .i64 y] w fun e w' => e = .returned (.int .i64 1) ∧ w' = w := by
  go_enter Try.func109, Try.ntmps109
  go_wp2_with fail
  refine (nan64 x _).mono ?_
  rintro e w' ⟨rfl, rfl⟩
  go_wp2_with fail
  refine (nan64 y _).mono ?_
  rintro e w' ⟨rfl, rfl⟩
  go_wp2
  go_ret
  exact ⟨rfl, rfl⟩
theorem cmp64_eq (x y : Int) (h : ¬ x < y) (h' : ¬ y < x) (w : World) : Calls Try.prog 109 #[.int .i64 x, .int .i64 y] w fun e w' => e = .returned (.int .i64 0) ∧ w' = w := by
  go_enter Try.func109, Try.ntmps109
  go_wp2_with fail
  refine (nan64 x _).mono ?_
  rintro e w' ⟨rfl, rfl⟩
  go_wp2_with fail
  refine (nan64 y _).mono ?_
  rintro e w' ⟨rfl, rfl⟩
  go_wp2
  go_ret
  exact ⟨rfl, rfl⟩
theorem cmp64_calls (x y : Int) (w : World) : Calls Try.prog 109 #[.int .i64 x, .int .i64 y] w fun e w' => e = .returned (.int .i64 (if x < y then -1 else if y < x then 1 else 0)) ∧ w' = w := by
  by_cases h : x < y
  · rw [if_pos h]; exact cmp64_lt x y h w
  · rw [if_neg h]
    by_cases h' : y < x
    · rw [if_pos h']; exact cmp64_gt x y h h' w
    · rw [if_neg h']; exact cmp64_eq x y h h' w
set_option maxRecDepth 100000 in
set_option maxHeartbeats 1600000 in
theorem compare_num (k x y : Int) (hk : k = 1 ∨ k = 2) (z : Int) (s t : List UInt8) (H : Asd (∀ w, Calls Try.prog 109 #[.int .i64 x, .int .i64 y] w fun e w' => e = .returned (.int .i64 z) ∧ w' = w)) (w : World) :
    Calls Try.prog 63 #[vC ⟨k, x, s⟩, vC ⟨k, y, t⟩] w fun e w' => e = .returned (.int .i64 z) ∧ Below w.heap.size w w' := by
  unfold vC
  rcases hk with rfl | rfl
  all_goals
    go_enter Try.func63, Try.ntmps63
    go_wp2_with fail
    refine (H.out _).mono ?_
    rintro e w' ⟨rfl, rfl⟩
    go_wp2
    go_ret
    exact ⟨rfl, below_alloc (below_alloc (Below.refl _ _) _) _⟩
set_option maxRecDepth 100000 in
set_option maxHeartbeats 1600000 in
theorem compare_text (k x y : Int) (hk : k = 3 ∨ k = 4) (s t : List UInt8) (w : World) :
    Calls Try.prog 63 #[vC ⟨k, x, s⟩, vC ⟨k, y, t⟩] w fun e w' => e = .returned (.int .i64 (Lib.compareBytes s t)) ∧ Below w.heap.size w w' := by
  have H := Asd.mk (fun w => Try.strings_Compare ⟨s.toArray⟩ ⟨t.toArray⟩ w)
  unfold vC
  rcases hk with rfl | rfl
  all_goals
    go_enter Try.func63, Try.ntmps63
    go_wp2_with fail
    refine (H.out _).mono ?_
    rintro e w' ⟨rfl, rfl⟩
    go_wp2
    go_ret
    exact ⟨rfl, below_alloc (below_alloc (Below.refl _ _) _) _⟩
theorem compare_calls (a b : Vl) (ha : RV a) (hb : RV b) (hk : a.kind = b.kind) (h0 : ¬ a.kind = 0) (w : World) :
    Calls Try.prog 63 #[vC a, vC b] w fun e w' => e = .returned (.int .i64 (cmpV a b)) ∧ Below w.heap.size w w' := by
  cases ha with
  | null => exact absurd rfl h0
  | bool p => cases hb with
    | bool q => exact compare_num 1 _ _ (.inl rfl) _ _ _ ⟨cmp64_calls _ _⟩ w
    | null => cases hk
    | num n h => cases hk
    | text s h => cases hk
    | blob s h => cases hk
  | num n h => cases hb with
    | num m h => exact compare_num 2 _ _ (.inr rfl) _ _ _ ⟨cmp64_calls _ _⟩ w
    | null => cases hk
    | bool p => cases hk
    | text s h => cases hk
    | blob s h => cases hk
  | text s h => cases hb with
    | text t h => exact compare_text 3 _ _ (.inl rfl) _ _ w
    | null => cases hk
    | bool p => cases hk
    | num n h => cases hk
    | blob s h => cases hk
  | blob s h => cases hb with
    | blob t h => exact compare_text 4 _ _ (.inr rfl) _ _ w
    | null => cases hk
    | bool p => cases hk
    | num n h => cases hk
    | text s h => cases hk
end Go.Proofs.Ytinflndbfdbnhaa.Exp

/- calc.Binary. -/
set_option linter.unusedVariables false
set_option linter.unusedSimpArgs false
namespace Go.Proofs.Ytinflndbfdbnhaa.Exp
open Go.RowKit Go.Proofs.Ytinflndbfdbnhaa.Base Go.Proofs.Ytinflndbfdbnhaa.App Go.Proofs.Ytinflndbfdbnhaa.Byt

/-- The blocks of Binary's operands. -/
structure BinW (W : World) (po pa pb : Nat) (op : Int) (a b : Vl) : Prop where
  o : W.heap[po]? = some (.cells #[.int .i64 op] 3 (0, 0))
  a : W.heap[pa]? = some (vK a)
  b : W.heap[pb]? = some (vK b)
theorem BinW.below {W W' : World} {po pa pb : Nat} {op : Int} {a b : Vl} (h : BinW W po pa pb op a b) (hb : Below W.heap.size W W') : BinW W' po pa pb op a b := ⟨blk_below hb h.o, blk_below hb h.a, blk_below hb h.b⟩
theorem drewb {W : World} {g : Nat} {o : Obj} (h : W.heap[g]? = some o) : W.drew.heap[g]? = some o := h
theorem bcat (a b : List UInt8) : (⟨a.toArray⟩ : ByteArray) ++ ⟨b.toArray⟩ = ⟨(a ++ b).toArray⟩ := by
  apply ByteArray.ext
  simp
set_option maxRecDepth 100000 in
set_option maxHeartbeats 6400000 in
theorem bin_L3_a (ka kb : Int) (h1 : (ka == 1) = false) (h0 : (ka == 0) = false) (i j : Int) (s t : List UInt8) (po pa pb : Nat) (w : World) (h : BinW w po pa pb 3 ⟨ka, i, s⟩ ⟨kb, j, t⟩) :
    Calls Try.prog 59 #[.pointer (some ⟨po, 0, none⟩), .pointer (some ⟨pa, 0, none⟩), .pointer (some ⟨pb, 0, none⟩)] w (EvR (.error 35) w) := by
  have HW := Asd.mk h
  have HX := Asd.mk (blk_new w zeroV)
  have HB : Asd (Below w.heap.size w (w.alloc zeroV)) := Asd.mk (below_alloc (Below.refl _ _) _)
  clear h
  go_enter Try.func59, Try.ntmps59
  go_upto_region 1 with fail
  generalize w.alloc _ = w1 at HX HB ⊢
  have HW1 := Asd.mk (HW.out.below HB.out)
  have o0 := (blk_cell HW1.out.o 0).trans rfl
  obtain ⟨a0, a1, a2⟩ := val_cells HW1.out.a
  obtain ⟨b0, b1, b2⟩ := val_cells HW1.out.b
  obtain ⟨⟨x0, x1, x2⟩, y0, y1, y2⟩ := zero_cells HX.out
  simp only at a0 a1 a2 b0 b1 b2
  go_wp2_with fail
  refine (check_ok 5 _).mono ?_
  rintro e w' ⟨rfl, rfl⟩
  go_wp2_with fail
  refine (wants_bool 3 (by decide) _).mono ?_
  rintro e w' ⟨rfl, rfl⟩
  go_wp2_with fail
  refine (check_no 35 _).mono ?_
  rintro e w' ⟨rfl, rfl⟩
  go_wp2
  exact ⟨rfl, HB.out, rfl⟩
set_option maxRecDepth 100000 in
set_option maxHeartbeats 6400000 in
theorem bin_L3_b0 (kb : Int) (h1 : (kb == 1) = false) (h0 : (kb == 0) = false) (i j : Int) (s t : List UInt8) (po pa pb : Nat) (w : World) (h : BinW w po pa pb 3 ⟨0, i, s⟩ ⟨kb, j, t⟩) :
    Calls Try.prog 59 #[.pointer (some ⟨po, 0, none⟩), .pointer (some ⟨pa, 0, none⟩), .pointer (some ⟨pb, 0, none⟩)] w (EvR (.error 35) w) := by
  have HW := Asd.mk h
  have HX := Asd.mk (blk_new w zeroV)
  have HB : Asd (Below w.heap.size w (w.alloc zeroV)) := Asd.mk (below_alloc (Below.refl _ _) _)
  clear h
  go_enter Try.func59, Try.ntmps59
  go_upto_region 1 with fail
  generalize w.alloc _ = w1 at HX HB ⊢
  have HW1 := Asd.mk (HW.out.below HB.out)
  have o0 := (blk_cell HW1.out.o 0).trans rfl
  obtain ⟨a0, a1, a2⟩ := val_cells HW1.out.a
  obtain ⟨b0, b1, b2⟩ := val_cells HW1.out.b
  obtain ⟨⟨x0, x1, x2⟩, y0, y1, y2⟩ := zero_cells HX.out
  simp only at a0 a1 a2 b0 b1 b2
  go_wp2_with fail
  refine (check_ok 5 _).mono ?_
  rintro e w' ⟨rfl, rfl⟩
  go_wp2_with fail
  refine (wants_bool 3 (by decide) _).mono ?_
  rintro e w' ⟨rfl, rfl⟩
  go_wp2_with fail
  refine (check_ok 35 _).mono ?_
  rintro e w' ⟨rfl, rfl⟩
  go_wp2_with fail
  refine (check_no 35 _).mono ?_
  rintro e w' ⟨rfl, rfl⟩
  go_wp2
  exact ⟨rfl, HB.out, rfl⟩
set_option maxRecDepth 100000 in
set_option maxHeartbeats 6400000 in
theorem bin_L3_00 (i j : Int) (s t : List UInt8) (po pa pb : Nat) (w : World) (h : BinW w po pa pb 3 ⟨0, i, s⟩ ⟨0, j, t⟩) :
    Calls Try.prog 59 #[.pointer (some ⟨po, 0, none⟩), .pointer (some ⟨pa, 0, none⟩), .pointer (some ⟨pb, 0, none⟩)] w (EvR (.ok (logicP true ⟨0, i, s⟩ ⟨0, j, t⟩)) w) := by
  have HW := Asd.mk h
  have HX := Asd.mk (blk_new w zeroV)
  have HB : Asd (Below w.heap.size w (w.alloc zeroV)) := Asd.mk (below_alloc (Below.refl _ _) _)
  clear h
  go_enter Try.func59, Try.ntmps59
  go_upto_region 1 with fail
  generalize w.alloc _ = w1 at HX HB ⊢
  have HW1 := Asd.mk (HW.out.below HB.out)
  have o0 := (blk_cell HW1.out.o 0).trans rfl
  obtain ⟨a0, a1, a2⟩ := val_cells HW1.out.a
  obtain ⟨b0, b1, b2⟩ := val_cells HW1.out.b
  obtain ⟨⟨x0, x1, x2⟩, y0, y1, y2⟩ := zero_cells HX.out
  simp only at a0 a1 a2 b0 b1 b2
  go_wp2_with fail
  refine (check_ok 5 _).mono ?_
  rintro e w' ⟨rfl, rfl⟩
  go_wp2_with fail
  refine (wants_bool 3 (by decide) _).mono ?_
  rintro e w' ⟨rfl, rfl⟩
  go_wp2_with fail
  refine (check_ok 35 _).mono ?_
  rintro e w' ⟨rfl, rfl⟩
  go_wp2_with fail
  refine (check_ok 35 _).mono ?_
  rintro e w' ⟨rfl, rfl⟩
  go_upto_region 9 with fail
  clear x0 x1 x2 y0 y1 y2
  have HS : Asd (∀ w', Below w.heap.size w w' → w'.cell? ⟨po, 0, none⟩ = some (.int .i64 3) ∧ w'.cell? ⟨pa, 0, none⟩ = some (.int .i64 0) ∧ w'.cell? ⟨pa, 1, none⟩ = some (.int .i64 i) ∧ w'.cell? ⟨pa, 2, none⟩ = some (.string ⟨s.toArray⟩) ∧ w'.cell? ⟨pb, 0, none⟩ = some (.int .i64 0) ∧ w'.cell? ⟨pb, 1, none⟩ = some (.int .i64 j) ∧ w'.cell? ⟨pb, 2, none⟩ = some (.string ⟨t.toArray⟩) ∧ Below w.heap.size w w') := Asd.mk fun w' hb => by
    have h := HW.out.below hb
    obtain ⟨a0, a1, a2⟩ := val_cells h.a
    obtain ⟨b0, b1, b2⟩ := val_cells h.b
    exact ⟨(blk_cell h.o 0).trans rfl, a0, a1, a2, b0, b1, b2, hb⟩
  clear a0 a1 a2 b0 b1 b2 o0
  go_region_held3 (fun w' => w'.cell? ⟨po, 0, none⟩ = some (.int .i64 3) ∧ w'.cell? ⟨pa, 0, none⟩ = some (.int .i64 0) ∧ w'.cell? ⟨pa, 1, none⟩ = some (.int .i64 i) ∧ w'.cell? ⟨pa, 2, none⟩ = some (.string ⟨s.toArray⟩) ∧ w'.cell? ⟨pb, 0, none⟩ = some (.int .i64 0) ∧ w'.cell? ⟨pb, 1, none⟩ = some (.int .i64 j) ∧ w'.cell? ⟨pb, 2, none⟩ = some (.string ⟨t.toArray⟩) ∧ Below w.heap.size w w')
    (first
      | exact HS.out _ HB.out
      | exact HS.out _ HB.out.drew
      | exact HS.out _ HB2.out
      | exact HS.out _ HB3.out
      | exact HS.out _ HB4.out
      | exact HS.out _ (below_put3 HB3.out (Nat.le_refl _) _ _ _)
      | exact HS.out _ (below_put3 HB4.out (Nat.le_refl _) _ _ _)
      | (go_split_ands; exact HS.out _ (by assumption))
      | fail)
    (first
      | (go_at_call_of 57 (Value.bool true)
         refine (truth_calls true _).mono ?_
         rintro e w2 ⟨rfl, hb2⟩
         have HB2 : Asd (Below w.heap.size w w2) := Asd.mk (HB.out.drew.trans (hb2.mono HB.out.drew.size))
         have HX2 := Asd.mk (blk_below hb2 (drewb HX.out))
         unfold vC)
      | (go_at_call 61
         refine (logic_calls true ⟨0, i, s⟩ ⟨0, j, t⟩ _).mono ?_
         rintro e w3 ⟨rfl, hb3⟩
         have HB3 : Asd (Below w.heap.size w w3) := Asd.mk (HB2.out.trans (hb3.mono HB2.out.size))
         have HX3 := Asd.mk (blk_below hb3 HX2.out)
         obtain ⟨⟨x0, x1, x2⟩, y0, y1, y2⟩ := zero_cells HX3.out
         unfold vC)
      | fail)
  go_wp2
  refine val_ret rfl w.heap.size _ _ _ rfl (put3_blk HX3.out _ _ _) rfl ?_
  exact ⟨below_put3 HB3.out (Nat.le_refl _) _ _ _, rfl⟩
set_option maxRecDepth 100000 in
set_option maxHeartbeats 6400000 in
theorem bin_L3_01 (i j : Int) (s t : List UInt8) (po pa pb : Nat) (w : World) (h : BinW w po pa pb 3 ⟨0, i, s⟩ ⟨1, j, t⟩) :
    Calls Try.prog 59 #[.pointer (some ⟨po, 0, none⟩), .pointer (some ⟨pa, 0, none⟩), .pointer (some ⟨pb, 0, none⟩)] w (EvR (.ok (logicP true ⟨0, i, s⟩ ⟨1, j, t⟩)) w) := by
  have HW := Asd.mk h
  have HX := Asd.mk (blk_new w zeroV)
  have HB : Asd (Below w.heap.size w (w.alloc zeroV)) := Asd.mk (below_alloc (Below.refl _ _) _)
  clear h
  go_enter Try.func59, Try.ntmps59
  go_upto_region 1 with fail
  generalize w.alloc _ = w1 at HX HB ⊢
  have HW1 := Asd.mk (HW.out.below HB.out)
  have o0 := (blk_cell HW1.out.o 0).trans rfl
  obtain ⟨a0, a1, a2⟩ := val_cells HW1.out.a
  obtain ⟨b0, b1, b2⟩ := val_cells HW1.out.b
  obtain ⟨⟨x0, x1, x2⟩, y0, y1, y2⟩ := zero_cells HX.out
  simp only at a0 a1 a2 b0 b1 b2
  go_wp2_with fail
  refine (check_ok 5 _).mono ?_
  rintro e w' ⟨rfl, rfl⟩
  go_wp2_with fail
  refine (wants_bool 3 (by decide) _).mono ?_
  rintro e w' ⟨rfl, rfl⟩
  go_wp2_with fail
  refine (check_ok 35 _).mono ?_
  rintro e w' ⟨rfl, rfl⟩
  go_wp2_with fail
  refine (check_ok 35 _).mono ?_
  rintro e w' ⟨rfl, rfl⟩
  go_upto_region 9 with fail
  clear x0 x1 x2 y0 y1 y2
  have HS : Asd (∀ w', Below w.heap.size w w' → w'.cell? ⟨po, 0, none⟩ = some (.int .i64 3) ∧ w'.cell? ⟨pa, 0, none⟩ = some (.int .i64 0) ∧ w'.cell? ⟨pa, 1, none⟩ = some (.int .i64 i) ∧ w'.cell? ⟨pa, 2, none⟩ = some (.string ⟨s.toArray⟩) ∧ w'.cell? ⟨pb, 0, none⟩ = some (.int .i64 1) ∧ w'.cell? ⟨pb, 1, none⟩ = some (.int .i64 j) ∧ w'.cell? ⟨pb, 2, none⟩ = some (.string ⟨t.toArray⟩) ∧ Below w.heap.size w w') := Asd.mk fun w' hb => by
    have h := HW.out.below hb
    obtain ⟨a0, a1, a2⟩ := val_cells h.a
    obtain ⟨b0, b1, b2⟩ := val_cells h.b
    exact ⟨(blk_cell h.o 0).trans rfl, a0, a1, a2, b0, b1, b2, hb⟩
  clear a0 a1 a2 b0 b1 b2 o0
  go_region_held3 (fun w' => w'.cell? ⟨po, 0, none⟩ = some (.int .i64 3) ∧ w'.cell? ⟨pa, 0, none⟩ = some (.int .i64 0) ∧ w'.cell? ⟨pa, 1, none⟩ = some (.int .i64 i) ∧ w'.cell? ⟨pa, 2, none⟩ = some (.string ⟨s.toArray⟩) ∧ w'.cell? ⟨pb, 0, none⟩ = some (.int .i64 1) ∧ w'.cell? ⟨pb, 1, none⟩ = some (.int .i64 j) ∧ w'.cell? ⟨pb, 2, none⟩ = some (.string ⟨t.toArray⟩) ∧ Below w.heap.size w w')
    (first
      | exact HS.out _ HB.out
      | exact HS.out _ HB.out.drew
      | exact HS.out _ HB2.out
      | exact HS.out _ HB3.out
      | exact HS.out _ HB4.out
      | exact HS.out _ (below_put3 HB3.out (Nat.le_refl _) _ _ _)
      | exact HS.out _ (below_put3 HB4.out (Nat.le_refl _) _ _ _)
      | (go_split_ands; exact HS.out _ (by assumption))
      | fail)
    (first
      | (go_at_call_of 57 (Value.bool true)
         refine (truth_calls true _).mono ?_
         rintro e w2 ⟨rfl, hb2⟩
         have HB2 : Asd (Below w.heap.size w w2) := Asd.mk (HB.out.drew.trans (hb2.mono HB.out.drew.size))
         have HX2 := Asd.mk (blk_below hb2 (drewb HX.out))
         unfold vC)
      | (go_at_call 61
         refine (logic_calls true ⟨0, i, s⟩ ⟨1, j, t⟩ _).mono ?_
         rintro e w3 ⟨rfl, hb3⟩
         have HB3 : Asd (Below w.heap.size w w3) := Asd.mk (HB2.out.trans (hb3.mono HB2.out.size))
         have HX3 := Asd.mk (blk_below hb3 HX2.out)
         obtain ⟨⟨x0, x1, x2⟩, y0, y1, y2⟩ := zero_cells HX3.out
         unfold vC)
      | fail)
  go_wp2
  refine val_ret rfl w.heap.size _ _ _ rfl (put3_blk HX3.out _ _ _) rfl ?_
  exact ⟨below_put3 HB3.out (Nat.le_refl _) _ _ _, rfl⟩
set_option maxRecDepth 100000 in
set_option maxHeartbeats 6400000 in
theorem bin_L3_b1 (kb : Int) (h1 : (kb == 1) = false) (h0 : (kb == 0) = false) (i j : Int) (s t : List UInt8) (po pa pb : Nat) (w : World) (h : BinW w po pa pb 3 ⟨1, i, s⟩ ⟨kb, j, t⟩) :
    Calls Try.prog 59 #[.pointer (some ⟨po, 0, none⟩), .pointer (some ⟨pa, 0, none⟩), .pointer (some ⟨pb, 0, none⟩)] w (EvR (.error 35) w) := by
  have HW := Asd.mk h
  have HX := Asd.mk (blk_new w zeroV)
  have HB : Asd (Below w.heap.size w (w.alloc zeroV)) := Asd.mk (below_alloc (Below.refl _ _) _)
  clear h
  go_enter Try.func59, Try.ntmps59
  go_upto_region 1 with fail
  generalize w.alloc _ = w1 at HX HB ⊢
  have HW1 := Asd.mk (HW.out.below HB.out)
  have o0 := (blk_cell HW1.out.o 0).trans rfl
  obtain ⟨a0, a1, a2⟩ := val_cells HW1.out.a
  obtain ⟨b0, b1, b2⟩ := val_cells HW1.out.b
  obtain ⟨⟨x0, x1, x2⟩, y0, y1, y2⟩ := zero_cells HX.out
  simp only at a0 a1 a2 b0 b1 b2
  go_wp2_with fail
  refine (check_ok 5 _).mono ?_
  rintro e w' ⟨rfl, rfl⟩
  go_wp2_with fail
  refine (wants_bool 3 (by decide) _).mono ?_
  rintro e w' ⟨rfl, rfl⟩
  go_wp2_with fail
  refine (check_ok 35 _).mono ?_
  rintro e w' ⟨rfl, rfl⟩
  go_wp2_with fail
  refine (check_no 35 _).mono ?_
  rintro e w' ⟨rfl, rfl⟩
  go_wp2
  exact ⟨rfl, HB.out, rfl⟩
set_option maxRecDepth 100000 in
set_option maxHeartbeats 6400000 in
theorem bin_L3_10 (i j : Int) (s t : List UInt8) (po pa pb : Nat) (w : World) (h : BinW w po pa pb 3 ⟨1, i, s⟩ ⟨0, j, t⟩) :
    Calls Try.prog 59 #[.pointer (some ⟨po, 0, none⟩), .pointer (some ⟨pa, 0, none⟩), .pointer (some ⟨pb, 0, none⟩)] w (EvR (.ok (logicP true ⟨1, i, s⟩ ⟨0, j, t⟩)) w) := by
  have HW := Asd.mk h
  have HX := Asd.mk (blk_new w zeroV)
  have HB : Asd (Below w.heap.size w (w.alloc zeroV)) := Asd.mk (below_alloc (Below.refl _ _) _)
  clear h
  go_enter Try.func59, Try.ntmps59
  go_upto_region 1 with fail
  generalize w.alloc _ = w1 at HX HB ⊢
  have HW1 := Asd.mk (HW.out.below HB.out)
  have o0 := (blk_cell HW1.out.o 0).trans rfl
  obtain ⟨a0, a1, a2⟩ := val_cells HW1.out.a
  obtain ⟨b0, b1, b2⟩ := val_cells HW1.out.b
  obtain ⟨⟨x0, x1, x2⟩, y0, y1, y2⟩ := zero_cells HX.out
  simp only at a0 a1 a2 b0 b1 b2
  go_wp2_with fail
  refine (check_ok 5 _).mono ?_
  rintro e w' ⟨rfl, rfl⟩
  go_wp2_with fail
  refine (wants_bool 3 (by decide) _).mono ?_
  rintro e w' ⟨rfl, rfl⟩
  go_wp2_with fail
  refine (check_ok 35 _).mono ?_
  rintro e w' ⟨rfl, rfl⟩
  go_wp2_with fail
  refine (check_ok 35 _).mono ?_
  rintro e w' ⟨rfl, rfl⟩
  go_upto_region 9 with fail
  clear x0 x1 x2 y0 y1 y2
  have HS : Asd (∀ w', Below w.heap.size w w' → w'.cell? ⟨po, 0, none⟩ = some (.int .i64 3) ∧ w'.cell? ⟨pa, 0, none⟩ = some (.int .i64 1) ∧ w'.cell? ⟨pa, 1, none⟩ = some (.int .i64 i) ∧ w'.cell? ⟨pa, 2, none⟩ = some (.string ⟨s.toArray⟩) ∧ w'.cell? ⟨pb, 0, none⟩ = some (.int .i64 0) ∧ w'.cell? ⟨pb, 1, none⟩ = some (.int .i64 j) ∧ w'.cell? ⟨pb, 2, none⟩ = some (.string ⟨t.toArray⟩) ∧ Below w.heap.size w w') := Asd.mk fun w' hb => by
    have h := HW.out.below hb
    obtain ⟨a0, a1, a2⟩ := val_cells h.a
    obtain ⟨b0, b1, b2⟩ := val_cells h.b
    exact ⟨(blk_cell h.o 0).trans rfl, a0, a1, a2, b0, b1, b2, hb⟩
  clear a0 a1 a2 b0 b1 b2 o0
  go_region_held3 (fun w' => w'.cell? ⟨po, 0, none⟩ = some (.int .i64 3) ∧ w'.cell? ⟨pa, 0, none⟩ = some (.int .i64 1) ∧ w'.cell? ⟨pa, 1, none⟩ = some (.int .i64 i) ∧ w'.cell? ⟨pa, 2, none⟩ = some (.string ⟨s.toArray⟩) ∧ w'.cell? ⟨pb, 0, none⟩ = some (.int .i64 0) ∧ w'.cell? ⟨pb, 1, none⟩ = some (.int .i64 j) ∧ w'.cell? ⟨pb, 2, none⟩ = some (.string ⟨t.toArray⟩) ∧ Below w.heap.size w w')
    (first
      | exact HS.out _ HB.out
      | exact HS.out _ HB.out.drew
      | exact HS.out _ HB2.out
      | exact HS.out _ HB3.out
      | exact HS.out _ HB4.out
      | exact HS.out _ (below_put3 HB3.out (Nat.le_refl _) _ _ _)
      | exact HS.out _ (below_put3 HB4.out (Nat.le_refl _) _ _ _)
      | (go_split_ands; exact HS.out _ (by assumption))
      | fail)
    (first
      | (go_at_call_of 57 (Value.bool true)
         refine (truth_calls true _).mono ?_
         rintro e w2 ⟨rfl, hb2⟩
         have HB2 : Asd (Below w.heap.size w w2) := Asd.mk (HB.out.drew.trans (hb2.mono HB.out.drew.size))
         have HX2 := Asd.mk (blk_below hb2 (drewb HX.out))
         unfold vC)
      | (go_at_call 61
         refine (logic_calls true ⟨1, i, s⟩ ⟨0, j, t⟩ _).mono ?_
         rintro e w3 ⟨rfl, hb3⟩
         have HB3 : Asd (Below w.heap.size w w3) := Asd.mk (HB2.out.trans (hb3.mono HB2.out.size))
         have HX3 := Asd.mk (blk_below hb3 HX2.out)
         obtain ⟨⟨x0, x1, x2⟩, y0, y1, y2⟩ := zero_cells HX3.out
         unfold vC)
      | fail)
  go_wp2
  refine val_ret rfl w.heap.size _ _ _ rfl (put3_blk HX3.out _ _ _) rfl ?_
  exact ⟨below_put3 HB3.out (Nat.le_refl _) _ _ _, rfl⟩
set_option maxRecDepth 100000 in
set_option maxHeartbeats 6400000 in
theorem bin_L3_11 (i j : Int) (s t : List UInt8) (po pa pb : Nat) (w : World) (h : BinW w po pa pb 3 ⟨1, i, s⟩ ⟨1, j, t⟩) :
    Calls Try.prog 59 #[.pointer (some ⟨po, 0, none⟩), .pointer (some ⟨pa, 0, none⟩), .pointer (some ⟨pb, 0, none⟩)] w (EvR (.ok (logicP true ⟨1, i, s⟩ ⟨1, j, t⟩)) w) := by
  have HW := Asd.mk h
  have HX := Asd.mk (blk_new w zeroV)
  have HB : Asd (Below w.heap.size w (w.alloc zeroV)) := Asd.mk (below_alloc (Below.refl _ _) _)
  clear h
  go_enter Try.func59, Try.ntmps59
  go_upto_region 1 with fail
  generalize w.alloc _ = w1 at HX HB ⊢
  have HW1 := Asd.mk (HW.out.below HB.out)
  have o0 := (blk_cell HW1.out.o 0).trans rfl
  obtain ⟨a0, a1, a2⟩ := val_cells HW1.out.a
  obtain ⟨b0, b1, b2⟩ := val_cells HW1.out.b
  obtain ⟨⟨x0, x1, x2⟩, y0, y1, y2⟩ := zero_cells HX.out
  simp only at a0 a1 a2 b0 b1 b2
  go_wp2_with fail
  refine (check_ok 5 _).mono ?_
  rintro e w' ⟨rfl, rfl⟩
  go_wp2_with fail
  refine (wants_bool 3 (by decide) _).mono ?_
  rintro e w' ⟨rfl, rfl⟩
  go_wp2_with fail
  refine (check_ok 35 _).mono ?_
  rintro e w' ⟨rfl, rfl⟩
  go_wp2_with fail
  refine (check_ok 35 _).mono ?_
  rintro e w' ⟨rfl, rfl⟩
  go_upto_region 9 with fail
  clear x0 x1 x2 y0 y1 y2
  have HS : Asd (∀ w', Below w.heap.size w w' → w'.cell? ⟨po, 0, none⟩ = some (.int .i64 3) ∧ w'.cell? ⟨pa, 0, none⟩ = some (.int .i64 1) ∧ w'.cell? ⟨pa, 1, none⟩ = some (.int .i64 i) ∧ w'.cell? ⟨pa, 2, none⟩ = some (.string ⟨s.toArray⟩) ∧ w'.cell? ⟨pb, 0, none⟩ = some (.int .i64 1) ∧ w'.cell? ⟨pb, 1, none⟩ = some (.int .i64 j) ∧ w'.cell? ⟨pb, 2, none⟩ = some (.string ⟨t.toArray⟩) ∧ Below w.heap.size w w') := Asd.mk fun w' hb => by
    have h := HW.out.below hb
    obtain ⟨a0, a1, a2⟩ := val_cells h.a
    obtain ⟨b0, b1, b2⟩ := val_cells h.b
    exact ⟨(blk_cell h.o 0).trans rfl, a0, a1, a2, b0, b1, b2, hb⟩
  clear a0 a1 a2 b0 b1 b2 o0
  go_region_held3 (fun w' => w'.cell? ⟨po, 0, none⟩ = some (.int .i64 3) ∧ w'.cell? ⟨pa, 0, none⟩ = some (.int .i64 1) ∧ w'.cell? ⟨pa, 1, none⟩ = some (.int .i64 i) ∧ w'.cell? ⟨pa, 2, none⟩ = some (.string ⟨s.toArray⟩) ∧ w'.cell? ⟨pb, 0, none⟩ = some (.int .i64 1) ∧ w'.cell? ⟨pb, 1, none⟩ = some (.int .i64 j) ∧ w'.cell? ⟨pb, 2, none⟩ = some (.string ⟨t.toArray⟩) ∧ Below w.heap.size w w')
    (first
      | exact HS.out _ HB.out
      | exact HS.out _ HB.out.drew
      | exact HS.out _ HB2.out
      | exact HS.out _ HB3.out
      | exact HS.out _ HB4.out
      | exact HS.out _ (below_put3 HB3.out (Nat.le_refl _) _ _ _)
      | exact HS.out _ (below_put3 HB4.out (Nat.le_refl _) _ _ _)
      | (go_split_ands; exact HS.out _ (by assumption))
      | fail)
    (first
      | (go_at_call_of 57 (Value.bool true)
         refine (truth_calls true _).mono ?_
         rintro e w2 ⟨rfl, hb2⟩
         have HB2 : Asd (Below w.heap.size w w2) := Asd.mk (HB.out.drew.trans (hb2.mono HB.out.drew.size))
         have HX2 := Asd.mk (blk_below hb2 (drewb HX.out))
         unfold vC)
      | (go_at_call 61
         refine (logic_calls true ⟨1, i, s⟩ ⟨1, j, t⟩ _).mono ?_
         rintro e w3 ⟨rfl, hb3⟩
         have HB3 : Asd (Below w.heap.size w w3) := Asd.mk (HB2.out.trans (hb3.mono HB2.out.size))
         have HX3 := Asd.mk (blk_below hb3 HX2.out)
         obtain ⟨⟨x0, x1, x2⟩, y0, y1, y2⟩ := zero_cells HX3.out
         unfold vC)
      | fail)
  go_wp2
  refine val_ret rfl w.heap.size _ _ _ rfl (put3_blk HX3.out _ _ _) rfl ?_
  exact ⟨below_put3 HB3.out (Nat.le_refl _) _ _ _, rfl⟩
set_option maxRecDepth 100000 in
set_option maxHeartbeats 6400000 in
theorem bin_L4_a (ka kb : Int) (h1 : (ka == 1) = false) (h0 : (ka == 0) = false) (i j : Int) (s t : List UInt8) (po pa pb : Nat) (w : World) (h : BinW w po pa pb 4 ⟨ka, i, s⟩ ⟨kb, j, t⟩) :
    Calls Try.prog 59 #[.pointer (some ⟨po, 0, none⟩), .pointer (some ⟨pa, 0, none⟩), .pointer (some ⟨pb, 0, none⟩)] w (EvR (.error 35) w) := by
  have HW := Asd.mk h
  have HX := Asd.mk (blk_new w zeroV)
  have HB : Asd (Below w.heap.size w (w.alloc zeroV)) := Asd.mk (below_alloc (Below.refl _ _) _)
  clear h
  go_enter Try.func59, Try.ntmps59
  go_upto_region 1 with fail
  generalize w.alloc _ = w1 at HX HB ⊢
  have HW1 := Asd.mk (HW.out.below HB.out)
  have o0 := (blk_cell HW1.out.o 0).trans rfl
  obtain ⟨a0, a1, a2⟩ := val_cells HW1.out.a
  obtain ⟨b0, b1, b2⟩ := val_cells HW1.out.b
  obtain ⟨⟨x0, x1, x2⟩, y0, y1, y2⟩ := zero_cells HX.out
  simp only at a0 a1 a2 b0 b1 b2
  go_wp2_with fail
  refine (check_ok 5 _).mono ?_
  rintro e w' ⟨rfl, rfl⟩
  go_wp2_with fail
  refine (wants_bool 4 (by decide) _).mono ?_
  rintro e w' ⟨rfl, rfl⟩
  go_wp2_with fail
  refine (check_no 35 _).mono ?_
  rintro e w' ⟨rfl, rfl⟩
  go_wp2
  exact ⟨rfl, HB.out, rfl⟩
set_option maxRecDepth 100000 in
set_option maxHeartbeats 6400000 in
theorem bin_L4_b0 (kb : Int) (h1 : (kb == 1) = false) (h0 : (kb == 0) = false) (i j : Int) (s t : List UInt8) (po pa pb : Nat) (w : World) (h : BinW w po pa pb 4 ⟨0, i, s⟩ ⟨kb, j, t⟩) :
    Calls Try.prog 59 #[.pointer (some ⟨po, 0, none⟩), .pointer (some ⟨pa, 0, none⟩), .pointer (some ⟨pb, 0, none⟩)] w (EvR (.error 35) w) := by
  have HW := Asd.mk h
  have HX := Asd.mk (blk_new w zeroV)
  have HB : Asd (Below w.heap.size w (w.alloc zeroV)) := Asd.mk (below_alloc (Below.refl _ _) _)
  clear h
  go_enter Try.func59, Try.ntmps59
  go_upto_region 1 with fail
  generalize w.alloc _ = w1 at HX HB ⊢
  have HW1 := Asd.mk (HW.out.below HB.out)
  have o0 := (blk_cell HW1.out.o 0).trans rfl
  obtain ⟨a0, a1, a2⟩ := val_cells HW1.out.a
  obtain ⟨b0, b1, b2⟩ := val_cells HW1.out.b
  obtain ⟨⟨x0, x1, x2⟩, y0, y1, y2⟩ := zero_cells HX.out
  simp only at a0 a1 a2 b0 b1 b2
  go_wp2_with fail
  refine (check_ok 5 _).mono ?_
  rintro e w' ⟨rfl, rfl⟩
  go_wp2_with fail
  refine (wants_bool 4 (by decide) _).mono ?_
  rintro e w' ⟨rfl, rfl⟩
  go_wp2_with fail
  refine (check_ok 35 _).mono ?_
  rintro e w' ⟨rfl, rfl⟩
  go_wp2_with fail
  refine (check_no 35 _).mono ?_
  rintro e w' ⟨rfl, rfl⟩
  go_wp2
  exact ⟨rfl, HB.out, rfl⟩
set_option maxRecDepth 100000 in
set_option maxHeartbeats 6400000 in
theorem bin_L4_00 (i j : Int) (s t : List UInt8) (po pa pb : Nat) (w : World) (h : BinW w po pa pb 4 ⟨0, i, s⟩ ⟨0, j, t⟩) :
    Calls Try.prog 59 #[.pointer (some ⟨po, 0, none⟩), .pointer (some ⟨pa, 0, none⟩), .pointer (some ⟨pb, 0, none⟩)] w (EvR (.ok (logicP false ⟨0, i, s⟩ ⟨0, j, t⟩)) w) := by
  have HW := Asd.mk h
  have HX := Asd.mk (blk_new w zeroV)
  have HB : Asd (Below w.heap.size w (w.alloc zeroV)) := Asd.mk (below_alloc (Below.refl _ _) _)
  clear h
  go_enter Try.func59, Try.ntmps59
  go_upto_region 1 with fail
  generalize w.alloc _ = w1 at HX HB ⊢
  have HW1 := Asd.mk (HW.out.below HB.out)
  have o0 := (blk_cell HW1.out.o 0).trans rfl
  obtain ⟨a0, a1, a2⟩ := val_cells HW1.out.a
  obtain ⟨b0, b1, b2⟩ := val_cells HW1.out.b
  obtain ⟨⟨x0, x1, x2⟩, y0, y1, y2⟩ := zero_cells HX.out
  simp only at a0 a1 a2 b0 b1 b2
  go_wp2_with fail
  refine (check_ok 5 _).mono ?_
  rintro e w' ⟨rfl, rfl⟩
  go_wp2_with fail
  refine (wants_bool 4 (by decide) _).mono ?_
  rintro e w' ⟨rfl, rfl⟩
  go_wp2_with fail
  refine (check_ok 35 _).mono ?_
  rintro e w' ⟨rfl, rfl⟩
  go_wp2_with fail
  refine (check_ok 35 _).mono ?_
  rintro e w' ⟨rfl, rfl⟩
  go_upto_region 9 with fail
  clear x0 x1 x2 y0 y1 y2
  have HS : Asd (∀ w', Below w.heap.size w w' → w'.cell? ⟨po, 0, none⟩ = some (.int .i64 4) ∧ w'.cell? ⟨pa, 0, none⟩ = some (.int .i64 0) ∧ w'.cell? ⟨pa, 1, none⟩ = some (.int .i64 i) ∧ w'.cell? ⟨pa, 2, none⟩ = some (.string ⟨s.toArray⟩) ∧ w'.cell? ⟨pb, 0, none⟩ = some (.int .i64 0) ∧ w'.cell? ⟨pb, 1, none⟩ = some (.int .i64 j) ∧ w'.cell? ⟨pb, 2, none⟩ = some (.string ⟨t.toArray⟩) ∧ Below w.heap.size w w') := Asd.mk fun w' hb => by
    have h := HW.out.below hb
    obtain ⟨a0, a1, a2⟩ := val_cells h.a
    obtain ⟨b0, b1, b2⟩ := val_cells h.b
    exact ⟨(blk_cell h.o 0).trans rfl, a0, a1, a2, b0, b1, b2, hb⟩
  clear a0 a1 a2 b0 b1 b2 o0
  go_region_held3 (fun w' => w'.cell? ⟨po, 0, none⟩ = some (.int .i64 4) ∧ w'.cell? ⟨pa, 0, none⟩ = some (.int .i64 0) ∧ w'.cell? ⟨pa, 1, none⟩ = some (.int .i64 i) ∧ w'.cell? ⟨pa, 2, none⟩ = some (.string ⟨s.toArray⟩) ∧ w'.cell? ⟨pb, 0, none⟩ = some (.int .i64 0) ∧ w'.cell? ⟨pb, 1, none⟩ = some (.int .i64 j) ∧ w'.cell? ⟨pb, 2, none⟩ = some (.string ⟨t.toArray⟩) ∧ Below w.heap.size w w')
    (first
      | exact HS.out _ HB.out
      | exact HS.out _ HB.out.drew
      | exact HS.out _ HB2.out
      | exact HS.out _ HB3.out
      | exact HS.out _ HB4.out
      | exact HS.out _ (below_put3 HB3.out (Nat.le_refl _) _ _ _)
      | exact HS.out _ (below_put3 HB4.out (Nat.le_refl _) _ _ _)
      | (go_split_ands; exact HS.out _ (by assumption))
      | fail)
    (first
      | (go_at_call_of 57 (Value.bool false)
         refine (truth_calls false _).mono ?_
         rintro e w2 ⟨rfl, hb2⟩
         have HB2 : Asd (Below w.heap.size w w2) := Asd.mk (HB.out.drew.trans (hb2.mono HB.out.drew.size))
         have HX2 := Asd.mk (blk_below hb2 (drewb HX.out))
         unfold vC)
      | (go_at_call 61
         refine (logic_calls false ⟨0, i, s⟩ ⟨0, j, t⟩ _).mono ?_
         rintro e w3 ⟨rfl, hb3⟩
         have HB3 : Asd (Below w.heap.size w w3) := Asd.mk (HB2.out.trans (hb3.mono HB2.out.size))
         have HX3 := Asd.mk (blk_below hb3 HX2.out)
         obtain ⟨⟨x0, x1, x2⟩, y0, y1, y2⟩ := zero_cells HX3.out
         unfold vC)
      | fail)
  go_wp2
  refine val_ret rfl w.heap.size _ _ _ rfl (put3_blk HX3.out _ _ _) rfl ?_
  exact ⟨below_put3 HB3.out (Nat.le_refl _) _ _ _, rfl⟩
set_option maxRecDepth 100000 in
set_option maxHeartbeats 6400000 in
theorem bin_L4_01 (i j : Int) (s t : List UInt8) (po pa pb : Nat) (w : World) (h : BinW w po pa pb 4 ⟨0, i, s⟩ ⟨1, j, t⟩) :
    Calls Try.prog 59 #[.pointer (some ⟨po, 0, none⟩), .pointer (some ⟨pa, 0, none⟩), .pointer (some ⟨pb, 0, none⟩)] w (EvR (.ok (logicP false ⟨0, i, s⟩ ⟨1, j, t⟩)) w) := by
  have HW := Asd.mk h
  have HX := Asd.mk (blk_new w zeroV)
  have HB : Asd (Below w.heap.size w (w.alloc zeroV)) := Asd.mk (below_alloc (Below.refl _ _) _)
  clear h
  go_enter Try.func59, Try.ntmps59
  go_upto_region 1 with fail
  generalize w.alloc _ = w1 at HX HB ⊢
  have HW1 := Asd.mk (HW.out.below HB.out)
  have o0 := (blk_cell HW1.out.o 0).trans rfl
  obtain ⟨a0, a1, a2⟩ := val_cells HW1.out.a
  obtain ⟨b0, b1, b2⟩ := val_cells HW1.out.b
  obtain ⟨⟨x0, x1, x2⟩, y0, y1, y2⟩ := zero_cells HX.out
  simp only at a0 a1 a2 b0 b1 b2
  go_wp2_with fail
  refine (check_ok 5 _).mono ?_
  rintro e w' ⟨rfl, rfl⟩
  go_wp2_with fail
  refine (wants_bool 4 (by decide) _).mono ?_
  rintro e w' ⟨rfl, rfl⟩
  go_wp2_with fail
  refine (check_ok 35 _).mono ?_
  rintro e w' ⟨rfl, rfl⟩
  go_wp2_with fail
  refine (check_ok 35 _).mono ?_
  rintro e w' ⟨rfl, rfl⟩
  go_upto_region 9 with fail
  clear x0 x1 x2 y0 y1 y2
  have HS : Asd (∀ w', Below w.heap.size w w' → w'.cell? ⟨po, 0, none⟩ = some (.int .i64 4) ∧ w'.cell? ⟨pa, 0, none⟩ = some (.int .i64 0) ∧ w'.cell? ⟨pa, 1, none⟩ = some (.int .i64 i) ∧ w'.cell? ⟨pa, 2, none⟩ = some (.string ⟨s.toArray⟩) ∧ w'.cell? ⟨pb, 0, none⟩ = some (.int .i64 1) ∧ w'.cell? ⟨pb, 1, none⟩ = some (.int .i64 j) ∧ w'.cell? ⟨pb, 2, none⟩ = some (.string ⟨t.toArray⟩) ∧ Below w.heap.size w w') := Asd.mk fun w' hb => by
    have h := HW.out.below hb
    obtain ⟨a0, a1, a2⟩ := val_cells h.a
    obtain ⟨b0, b1, b2⟩ := val_cells h.b
    exact ⟨(blk_cell h.o 0).trans rfl, a0, a1, a2, b0, b1, b2, hb⟩
  clear a0 a1 a2 b0 b1 b2 o0
  go_region_held3 (fun w' => w'.cell? ⟨po, 0, none⟩ = some (.int .i64 4) ∧ w'.cell? ⟨pa, 0, none⟩ = some (.int .i64 0) ∧ w'.cell? ⟨pa, 1, none⟩ = some (.int .i64 i) ∧ w'.cell? ⟨pa, 2, none⟩ = some (.string ⟨s.toArray⟩) ∧ w'.cell? ⟨pb, 0, none⟩ = some (.int .i64 1) ∧ w'.cell? ⟨pb, 1, none⟩ = some (.int .i64 j) ∧ w'.cell? ⟨pb, 2, none⟩ = some (.string ⟨t.toArray⟩) ∧ Below w.heap.size w w')
    (first
      | exact HS.out _ HB.out
      | exact HS.out _ HB.out.drew
      | exact HS.out _ HB2.out
      | exact HS.out _ HB3.out
      | exact HS.out _ HB4.out
      | exact HS.out _ (below_put3 HB3.out (Nat.le_refl _) _ _ _)
      | exact HS.out _ (below_put3 HB4.out (Nat.le_refl _) _ _ _)
      | (go_split_ands; exact HS.out _ (by assumption))
      | fail)
    (first
      | (go_at_call_of 57 (Value.bool false)
         refine (truth_calls false _).mono ?_
         rintro e w2 ⟨rfl, hb2⟩
         have HB2 : Asd (Below w.heap.size w w2) := Asd.mk (HB.out.drew.trans (hb2.mono HB.out.drew.size))
         have HX2 := Asd.mk (blk_below hb2 (drewb HX.out))
         unfold vC)
      | (go_at_call 61
         refine (logic_calls false ⟨0, i, s⟩ ⟨1, j, t⟩ _).mono ?_
         rintro e w3 ⟨rfl, hb3⟩
         have HB3 : Asd (Below w.heap.size w w3) := Asd.mk (HB2.out.trans (hb3.mono HB2.out.size))
         have HX3 := Asd.mk (blk_below hb3 HX2.out)
         obtain ⟨⟨x0, x1, x2⟩, y0, y1, y2⟩ := zero_cells HX3.out
         unfold vC)
      | fail)
  go_wp2
  refine val_ret rfl w.heap.size _ _ _ rfl (put3_blk HX3.out _ _ _) rfl ?_
  exact ⟨below_put3 HB3.out (Nat.le_refl _) _ _ _, rfl⟩
set_option maxRecDepth 100000 in
set_option maxHeartbeats 6400000 in
theorem bin_L4_b1 (kb : Int) (h1 : (kb == 1) = false) (h0 : (kb == 0) = false) (i j : Int) (s t : List UInt8) (po pa pb : Nat) (w : World) (h : BinW w po pa pb 4 ⟨1, i, s⟩ ⟨kb, j, t⟩) :
    Calls Try.prog 59 #[.pointer (some ⟨po, 0, none⟩), .pointer (some ⟨pa, 0, none⟩), .pointer (some ⟨pb, 0, none⟩)] w (EvR (.error 35) w) := by
  have HW := Asd.mk h
  have HX := Asd.mk (blk_new w zeroV)
  have HB : Asd (Below w.heap.size w (w.alloc zeroV)) := Asd.mk (below_alloc (Below.refl _ _) _)
  clear h
  go_enter Try.func59, Try.ntmps59
  go_upto_region 1 with fail
  generalize w.alloc _ = w1 at HX HB ⊢
  have HW1 := Asd.mk (HW.out.below HB.out)
  have o0 := (blk_cell HW1.out.o 0).trans rfl
  obtain ⟨a0, a1, a2⟩ := val_cells HW1.out.a
  obtain ⟨b0, b1, b2⟩ := val_cells HW1.out.b
  obtain ⟨⟨x0, x1, x2⟩, y0, y1, y2⟩ := zero_cells HX.out
  simp only at a0 a1 a2 b0 b1 b2
  go_wp2_with fail
  refine (check_ok 5 _).mono ?_
  rintro e w' ⟨rfl, rfl⟩
  go_wp2_with fail
  refine (wants_bool 4 (by decide) _).mono ?_
  rintro e w' ⟨rfl, rfl⟩
  go_wp2_with fail
  refine (check_ok 35 _).mono ?_
  rintro e w' ⟨rfl, rfl⟩
  go_wp2_with fail
  refine (check_no 35 _).mono ?_
  rintro e w' ⟨rfl, rfl⟩
  go_wp2
  exact ⟨rfl, HB.out, rfl⟩
set_option maxRecDepth 100000 in
set_option maxHeartbeats 6400000 in
theorem bin_L4_10 (i j : Int) (s t : List UInt8) (po pa pb : Nat) (w : World) (h : BinW w po pa pb 4 ⟨1, i, s⟩ ⟨0, j, t⟩) :
    Calls Try.prog 59 #[.pointer (some ⟨po, 0, none⟩), .pointer (some ⟨pa, 0, none⟩), .pointer (some ⟨pb, 0, none⟩)] w (EvR (.ok (logicP false ⟨1, i, s⟩ ⟨0, j, t⟩)) w) := by
  have HW := Asd.mk h
  have HX := Asd.mk (blk_new w zeroV)
  have HB : Asd (Below w.heap.size w (w.alloc zeroV)) := Asd.mk (below_alloc (Below.refl _ _) _)
  clear h
  go_enter Try.func59, Try.ntmps59
  go_upto_region 1 with fail
  generalize w.alloc _ = w1 at HX HB ⊢
  have HW1 := Asd.mk (HW.out.below HB.out)
  have o0 := (blk_cell HW1.out.o 0).trans rfl
  obtain ⟨a0, a1, a2⟩ := val_cells HW1.out.a
  obtain ⟨b0, b1, b2⟩ := val_cells HW1.out.b
  obtain ⟨⟨x0, x1, x2⟩, y0, y1, y2⟩ := zero_cells HX.out
  simp only at a0 a1 a2 b0 b1 b2
  go_wp2_with fail
  refine (check_ok 5 _).mono ?_
  rintro e w' ⟨rfl, rfl⟩
  go_wp2_with fail
  refine (wants_bool 4 (by decide) _).mono ?_
  rintro e w' ⟨rfl, rfl⟩
  go_wp2_with fail
  refine (check_ok 35 _).mono ?_
  rintro e w' ⟨rfl, rfl⟩
  go_wp2_with fail
  refine (check_ok 35 _).mono ?_
  rintro e w' ⟨rfl, rfl⟩
  go_upto_region 9 with fail
  clear x0 x1 x2 y0 y1 y2
  have HS : Asd (∀ w', Below w.heap.size w w' → w'.cell? ⟨po, 0, none⟩ = some (.int .i64 4) ∧ w'.cell? ⟨pa, 0, none⟩ = some (.int .i64 1) ∧ w'.cell? ⟨pa, 1, none⟩ = some (.int .i64 i) ∧ w'.cell? ⟨pa, 2, none⟩ = some (.string ⟨s.toArray⟩) ∧ w'.cell? ⟨pb, 0, none⟩ = some (.int .i64 0) ∧ w'.cell? ⟨pb, 1, none⟩ = some (.int .i64 j) ∧ w'.cell? ⟨pb, 2, none⟩ = some (.string ⟨t.toArray⟩) ∧ Below w.heap.size w w') := Asd.mk fun w' hb => by
    have h := HW.out.below hb
    obtain ⟨a0, a1, a2⟩ := val_cells h.a
    obtain ⟨b0, b1, b2⟩ := val_cells h.b
    exact ⟨(blk_cell h.o 0).trans rfl, a0, a1, a2, b0, b1, b2, hb⟩
  clear a0 a1 a2 b0 b1 b2 o0
  go_region_held3 (fun w' => w'.cell? ⟨po, 0, none⟩ = some (.int .i64 4) ∧ w'.cell? ⟨pa, 0, none⟩ = some (.int .i64 1) ∧ w'.cell? ⟨pa, 1, none⟩ = some (.int .i64 i) ∧ w'.cell? ⟨pa, 2, none⟩ = some (.string ⟨s.toArray⟩) ∧ w'.cell? ⟨pb, 0, none⟩ = some (.int .i64 0) ∧ w'.cell? ⟨pb, 1, none⟩ = some (.int .i64 j) ∧ w'.cell? ⟨pb, 2, none⟩ = some (.string ⟨t.toArray⟩) ∧ Below w.heap.size w w')
    (first
      | exact HS.out _ HB.out
      | exact HS.out _ HB.out.drew
      | exact HS.out _ HB2.out
      | exact HS.out _ HB3.out
      | exact HS.out _ HB4.out
      | exact HS.out _ (below_put3 HB3.out (Nat.le_refl _) _ _ _)
      | exact HS.out _ (below_put3 HB4.out (Nat.le_refl _) _ _ _)
      | (go_split_ands; exact HS.out _ (by assumption))
      | fail)
    (first
      | (go_at_call_of 57 (Value.bool false)
         refine (truth_calls false _).mono ?_
         rintro e w2 ⟨rfl, hb2⟩
         have HB2 : Asd (Below w.heap.size w w2) := Asd.mk (HB.out.drew.trans (hb2.mono HB.out.drew.size))
         have HX2 := Asd.mk (blk_below hb2 (drewb HX.out))
         unfold vC)
      | (go_at_call 61
         refine (logic_calls false ⟨1, i, s⟩ ⟨0, j, t⟩ _).mono ?_
         rintro e w3 ⟨rfl, hb3⟩
         have HB3 : Asd (Below w.heap.size w w3) := Asd.mk (HB2.out.trans (hb3.mono HB2.out.size))
         have HX3 := Asd.mk (blk_below hb3 HX2.out)
         obtain ⟨⟨x0, x1, x2⟩, y0, y1, y2⟩ := zero_cells HX3.out
         unfold vC)
      | fail)
  go_wp2
  refine val_ret rfl w.heap.size _ _ _ rfl (put3_blk HX3.out _ _ _) rfl ?_
  exact ⟨below_put3 HB3.out (Nat.le_refl _) _ _ _, rfl⟩
set_option maxRecDepth 100000 in
set_option maxHeartbeats 6400000 in
theorem bin_L4_11 (i j : Int) (s t : List UInt8) (po pa pb : Nat) (w : World) (h : BinW w po pa pb 4 ⟨1, i, s⟩ ⟨1, j, t⟩) :
    Calls Try.prog 59 #[.pointer (some ⟨po, 0, none⟩), .pointer (some ⟨pa, 0, none⟩), .pointer (some ⟨pb, 0, none⟩)] w (EvR (.ok (logicP false ⟨1, i, s⟩ ⟨1, j, t⟩)) w) := by
  have HW := Asd.mk h
  have HX := Asd.mk (blk_new w zeroV)
  have HB : Asd (Below w.heap.size w (w.alloc zeroV)) := Asd.mk (below_alloc (Below.refl _ _) _)
  clear h
  go_enter Try.func59, Try.ntmps59
  go_upto_region 1 with fail
  generalize w.alloc _ = w1 at HX HB ⊢
  have HW1 := Asd.mk (HW.out.below HB.out)
  have o0 := (blk_cell HW1.out.o 0).trans rfl
  obtain ⟨a0, a1, a2⟩ := val_cells HW1.out.a
  obtain ⟨b0, b1, b2⟩ := val_cells HW1.out.b
  obtain ⟨⟨x0, x1, x2⟩, y0, y1, y2⟩ := zero_cells HX.out
  simp only at a0 a1 a2 b0 b1 b2
  go_wp2_with fail
  refine (check_ok 5 _).mono ?_
  rintro e w' ⟨rfl, rfl⟩
  go_wp2_with fail
  refine (wants_bool 4 (by decide) _).mono ?_
  rintro e w' ⟨rfl, rfl⟩
  go_wp2_with fail
  refine (check_ok 35 _).mono ?_
  rintro e w' ⟨rfl, rfl⟩
  go_wp2_with fail
  refine (check_ok 35 _).mono ?_
  rintro e w' ⟨rfl, rfl⟩
  go_upto_region 9 with fail
  clear x0 x1 x2 y0 y1 y2
  have HS : Asd (∀ w', Below w.heap.size w w' → w'.cell? ⟨po, 0, none⟩ = some (.int .i64 4) ∧ w'.cell? ⟨pa, 0, none⟩ = some (.int .i64 1) ∧ w'.cell? ⟨pa, 1, none⟩ = some (.int .i64 i) ∧ w'.cell? ⟨pa, 2, none⟩ = some (.string ⟨s.toArray⟩) ∧ w'.cell? ⟨pb, 0, none⟩ = some (.int .i64 1) ∧ w'.cell? ⟨pb, 1, none⟩ = some (.int .i64 j) ∧ w'.cell? ⟨pb, 2, none⟩ = some (.string ⟨t.toArray⟩) ∧ Below w.heap.size w w') := Asd.mk fun w' hb => by
    have h := HW.out.below hb
    obtain ⟨a0, a1, a2⟩ := val_cells h.a
    obtain ⟨b0, b1, b2⟩ := val_cells h.b
    exact ⟨(blk_cell h.o 0).trans rfl, a0, a1, a2, b0, b1, b2, hb⟩
  clear a0 a1 a2 b0 b1 b2 o0
  go_region_held3 (fun w' => w'.cell? ⟨po, 0, none⟩ = some (.int .i64 4) ∧ w'.cell? ⟨pa, 0, none⟩ = some (.int .i64 1) ∧ w'.cell? ⟨pa, 1, none⟩ = some (.int .i64 i) ∧ w'.cell? ⟨pa, 2, none⟩ = some (.string ⟨s.toArray⟩) ∧ w'.cell? ⟨pb, 0, none⟩ = some (.int .i64 1) ∧ w'.cell? ⟨pb, 1, none⟩ = some (.int .i64 j) ∧ w'.cell? ⟨pb, 2, none⟩ = some (.string ⟨t.toArray⟩) ∧ Below w.heap.size w w')
    (first
      | exact HS.out _ HB.out
      | exact HS.out _ HB.out.drew
      | exact HS.out _ HB2.out
      | exact HS.out _ HB3.out
      | exact HS.out _ HB4.out
      | exact HS.out _ (below_put3 HB3.out (Nat.le_refl _) _ _ _)
      | exact HS.out _ (below_put3 HB4.out (Nat.le_refl _) _ _ _)
      | (go_split_ands; exact HS.out _ (by assumption))
      | fail)
    (first
      | (go_at_call_of 57 (Value.bool false)
         refine (truth_calls false _).mono ?_
         rintro e w2 ⟨rfl, hb2⟩
         have HB2 : Asd (Below w.heap.size w w2) := Asd.mk (HB.out.drew.trans (hb2.mono HB.out.drew.size))
         have HX2 := Asd.mk (blk_below hb2 (drewb HX.out))
         unfold vC)
      | (go_at_call 61
         refine (logic_calls false ⟨1, i, s⟩ ⟨1, j, t⟩ _).mono ?_
         rintro e w3 ⟨rfl, hb3⟩
         have HB3 : Asd (Below w.heap.size w w3) := Asd.mk (HB2.out.trans (hb3.mono HB2.out.size))
         have HX3 := Asd.mk (blk_below hb3 HX2.out)
         obtain ⟨⟨x0, x1, x2⟩, y0, y1, y2⟩ := zero_cells HX3.out
         unfold vC)
      | fail)
  go_wp2
  refine val_ret rfl w.heap.size _ _ _ rfl (put3_blk HX3.out _ _ _) rfl ?_
  exact ⟨below_put3 HB3.out (Nat.le_refl _) _ _ _, rfl⟩
set_option maxRecDepth 100000 in
set_option maxHeartbeats 6400000 in
theorem bin_C_0 (op : Int) (h3 : 3 ≤ op) (h16 : op ≤ 16) (h4 : ¬ op ≤ 4) (h10 : op ≤ 10) (kb : Int) (i j : Int) (s t : List UInt8) (po pa pb : Nat) (w : World) (h : BinW w po pa pb op ⟨0, i, s⟩ ⟨kb, j, t⟩) :
    Calls Try.prog 59 #[.pointer (some ⟨po, 0, none⟩), .pointer (some ⟨pa, 0, none⟩), .pointer (some ⟨pb, 0, none⟩)] w (EvR (.ok vNull) w) := by
  have HW := Asd.mk h
  have HX := Asd.mk (blk_new w zeroV)
  have HB : Asd (Below w.heap.size w (w.alloc zeroV)) := Asd.mk (below_alloc (Below.refl _ _) _)
  clear h
  go_enter Try.func59, Try.ntmps59
  go_upto_region 1 with fail
  generalize w.alloc _ = w1 at HX HB ⊢
  have HW1 := Asd.mk (HW.out.below HB.out)
  have o0 := (blk_cell HW1.out.o 0).trans rfl
  obtain ⟨a0, a1, a2⟩ := val_cells HW1.out.a
  obtain ⟨b0, b1, b2⟩ := val_cells HW1.out.b
  obtain ⟨⟨x0, x1, x2⟩, y0, y1, y2⟩ := zero_cells HX.out
  simp only at a0 a1 a2 b0 b1 b2
  go_wp2_with fail
  refine (check_ok 5 _).mono ?_
  rintro e w' ⟨rfl, rfl⟩
  go_wp2_with fail
  refine (wants_any op (by omega) (by omega) _).mono ?_
  rintro e w' ⟨rfl, rfl⟩
  go_wp2_with fail
  refine (check_ok 35 _).mono ?_
  rintro e w' ⟨rfl, rfl⟩
  go_wp2
  refine val_ret rfl w.heap.size _ _ _ rfl (put3_blk HX.out _ _ _) rfl ?_
  exact ⟨below_put3 HB.out (Nat.le_refl _) _ _ _, rfl⟩
set_option maxRecDepth 100000 in
set_option maxHeartbeats 6400000 in
theorem bin_C_n (op : Int) (h3 : 3 ≤ op) (h16 : op ≤ 16) (h4 : ¬ op ≤ 4) (h10 : op ≤ 10) (ka : Int) (hk : (ka == 0) = false) (i j : Int) (s t : List UInt8) (po pa pb : Nat) (w : World) (h : BinW w po pa pb op ⟨ka, i, s⟩ ⟨0, j, t⟩) :
    Calls Try.prog 59 #[.pointer (some ⟨po, 0, none⟩), .pointer (some ⟨pa, 0, none⟩), .pointer (some ⟨pb, 0, none⟩)] w (EvR (.ok vNull) w) := by
  have HW := Asd.mk h
  have HX := Asd.mk (blk_new w zeroV)
  have HB : Asd (Below w.heap.size w (w.alloc zeroV)) := Asd.mk (below_alloc (Below.refl _ _) _)
  clear h
  go_enter Try.func59, Try.ntmps59
  go_upto_region 1 with fail
  generalize w.alloc _ = w1 at HX HB ⊢
  have HW1 := Asd.mk (HW.out.below HB.out)
  have o0 := (blk_cell HW1.out.o 0).trans rfl
  obtain ⟨a0, a1, a2⟩ := val_cells HW1.out.a
  obtain ⟨b0, b1, b2⟩ := val_cells HW1.out.b
  obtain ⟨⟨x0, x1, x2⟩, y0, y1, y2⟩ := zero_cells HX.out
  simp only at a0 a1 a2 b0 b1 b2
  go_wp2_with fail
  refine (check_ok 5 _).mono ?_
  rintro e w' ⟨rfl, rfl⟩
  go_wp2_with fail
  refine (wants_any op (by omega) (by omega) _).mono ?_
  rintro e w' ⟨rfl, rfl⟩
  go_wp2_with fail
  refine (check_ok 35 _).mono ?_
  rintro e w' ⟨rfl, rfl⟩
  go_wp2
  refine val_ret rfl w.heap.size _ _ _ rfl (put3_blk HX.out _ _ _) rfl ?_
  exact ⟨below_put3 HB.out (Nat.le_refl _) _ _ _, rfl⟩
set_option maxRecDepth 100000 in
set_option maxHeartbeats 6400000 in
theorem bin_C_no (op : Int) (h3 : 3 ≤ op) (h16 : op ≤ 16) (h4 : ¬ op ≤ 4) (h10 : op ≤ 10) (ka kb : Int) (ha : (ka == 0) = false) (hb : (kb == 0) = false) (hk : (ka == kb) = false) (i j : Int) (s t : List UInt8) (po pa pb : Nat) (w : World) (h : BinW w po pa pb op ⟨ka, i, s⟩ ⟨kb, j, t⟩) :
    Calls Try.prog 59 #[.pointer (some ⟨po, 0, none⟩), .pointer (some ⟨pa, 0, none⟩), .pointer (some ⟨pb, 0, none⟩)] w (EvR (.error 35) w) := by
  have HW := Asd.mk h
  have HX := Asd.mk (blk_new w zeroV)
  have HB : Asd (Below w.heap.size w (w.alloc zeroV)) := Asd.mk (below_alloc (Below.refl _ _) _)
  clear h
  go_enter Try.func59, Try.ntmps59
  go_upto_region 1 with fail
  generalize w.alloc _ = w1 at HX HB ⊢
  have HW1 := Asd.mk (HW.out.below HB.out)
  have o0 := (blk_cell HW1.out.o 0).trans rfl
  obtain ⟨a0, a1, a2⟩ := val_cells HW1.out.a
  obtain ⟨b0, b1, b2⟩ := val_cells HW1.out.b
  obtain ⟨⟨x0, x1, x2⟩, y0, y1, y2⟩ := zero_cells HX.out
  simp only at a0 a1 a2 b0 b1 b2
  go_wp2_with fail
  refine (check_ok 5 _).mono ?_
  rintro e w' ⟨rfl, rfl⟩
  go_wp2_with fail
  refine (wants_any op (by omega) (by omega) _).mono ?_
  rintro e w' ⟨rfl, rfl⟩
  go_wp2_with fail
  refine (check_no 35 _).mono ?_
  rintro e w' ⟨rfl, rfl⟩
  go_wp2
  exact ⟨rfl, HB.out, rfl⟩
set_option maxRecDepth 100000 in
set_option maxHeartbeats 6400000 in
theorem bin_C_yes (op : Int) (h3 : 3 ≤ op) (h16 : op ≤ 16) (h4 : ¬ op ≤ 4) (h10 : op ≤ 10) (k : Int) (hk : (k == 0) = false) (c : Int) (i j : Int) (s t : List UInt8) (HC : Asd (∀ W, Calls Try.prog 63 #[vC ⟨k, i, s⟩, vC ⟨k, j, t⟩] W fun e W' => e = .returned (.int .i64 c) ∧ Below W.heap.size W W')) (po pa pb : Nat) (w : World) (h : BinW w po pa pb op ⟨k, i, s⟩ ⟨k, j, t⟩) :
    Calls Try.prog 59 #[.pointer (some ⟨po, 0, none⟩), .pointer (some ⟨pa, 0, none⟩), .pointer (some ⟨pb, 0, none⟩)] w (EvR (.ok (vTru (holdP op c))) w) := by
  have HW := Asd.mk h
  have HX := Asd.mk (blk_new w zeroV)
  have HB : Asd (Below w.heap.size w (w.alloc zeroV)) := Asd.mk (below_alloc (Below.refl _ _) _)
  clear h
  go_enter Try.func59, Try.ntmps59
  go_upto_region 1 with fail
  generalize w.alloc _ = w1 at HX HB ⊢
  have HW1 := Asd.mk (HW.out.below HB.out)
  have o0 := (blk_cell HW1.out.o 0).trans rfl
  obtain ⟨a0, a1, a2⟩ := val_cells HW1.out.a
  obtain ⟨b0, b1, b2⟩ := val_cells HW1.out.b
  obtain ⟨⟨x0, x1, x2⟩, y0, y1, y2⟩ := zero_cells HX.out
  simp only at a0 a1 a2 b0 b1 b2
  go_wp2_with fail
  refine (check_ok 5 _).mono ?_
  rintro e w' ⟨rfl, rfl⟩
  go_wp2_with fail
  refine (wants_any op (by omega) (by omega) _).mono ?_
  rintro e w' ⟨rfl, rfl⟩
  go_wp2_with fail
  refine (check_ok 35 _).mono ?_
  rintro e w' ⟨rfl, rfl⟩
  go_upto_region 13 with fail
  clear x0 x1 x2 y0 y1 y2
  have HS : Asd (∀ w', Below w.heap.size w w' → w'.cell? ⟨po, 0, none⟩ = some (.int .i64 op) ∧ w'.cell? ⟨pa, 0, none⟩ = some (.int .i64 k) ∧ w'.cell? ⟨pa, 1, none⟩ = some (.int .i64 i) ∧ w'.cell? ⟨pa, 2, none⟩ = some (.string ⟨s.toArray⟩) ∧ w'.cell? ⟨pb, 0, none⟩ = some (.int .i64 k) ∧ w'.cell? ⟨pb, 1, none⟩ = some (.int .i64 j) ∧ w'.cell? ⟨pb, 2, none⟩ = some (.string ⟨t.toArray⟩) ∧ Below w.heap.size w w') := Asd.mk fun w' hb => by
    have h := HW.out.below hb
    obtain ⟨a0, a1, a2⟩ := val_cells h.a
    obtain ⟨b0, b1, b2⟩ := val_cells h.b
    exact ⟨(blk_cell h.o 0).trans rfl, a0, a1, a2, b0, b1, b2, hb⟩
  clear a0 a1 a2 b0 b1 b2 o0
  go_region_held3 (fun w' => w'.cell? ⟨po, 0, none⟩ = some (.int .i64 op) ∧ w'.cell? ⟨pa, 0, none⟩ = some (.int .i64 k) ∧ w'.cell? ⟨pa, 1, none⟩ = some (.int .i64 i) ∧ w'.cell? ⟨pa, 2, none⟩ = some (.string ⟨s.toArray⟩) ∧ w'.cell? ⟨pb, 0, none⟩ = some (.int .i64 k) ∧ w'.cell? ⟨pb, 1, none⟩ = some (.int .i64 j) ∧ w'.cell? ⟨pb, 2, none⟩ = some (.string ⟨t.toArray⟩) ∧ Below w.heap.size w w')
    (first
      | exact HS.out _ HB.out
      | exact HS.out _ HB.out.drew
      | exact HS.out _ HB2.out
      | exact HS.out _ HB3.out
      | exact HS.out _ HB4.out
      | exact HS.out _ (below_put3 HB3.out (Nat.le_refl _) _ _ _)
      | exact HS.out _ (below_put3 HB4.out (Nat.le_refl _) _ _ _)
      | (go_split_ands; exact HS.out _ (by assumption))
      | fail)
    (first
      | (go_at_call 63
         refine (HC.out _).mono ?_
         rintro e w2 ⟨rfl, hb2⟩
         have HB2 : Asd (Below w.heap.size w w2) := Asd.mk (HB.out.drew.trans (hb2.mono HB.out.drew.size))
         have HX2 := Asd.mk (blk_below hb2 (drewb HX.out)))
      | (go_at_call 62
         refine (compared_calls op c (by omega) h10 _).mono ?_
         rintro e w3 ⟨rfl, rfl⟩)
      | (go_at_call 57
         refine (truth_calls (holdP op c) _).mono ?_
         rintro e w4 ⟨rfl, hb4⟩
         have HB4 : Asd (Below w.heap.size w w4) := Asd.mk (HB2.out.trans (hb4.mono HB2.out.size))
         have HX4 := Asd.mk (blk_below hb4 HX2.out)
         obtain ⟨⟨x0, x1, x2⟩, y0, y1, y2⟩ := zero_cells HX4.out
         unfold vC)
      | fail)
  go_wp2
  refine val_ret rfl w.heap.size _ _ _ rfl (put3_blk HX4.out _ _ _) rfl ?_
  exact ⟨below_put3 HB4.out (Nat.le_refl _) _ _ _, rfl⟩
set_option maxRecDepth 100000 in
set_option maxHeartbeats 6400000 in
theorem bin_S_a (ka kb : Int) (h1 : (ka == 3) = false) (h0 : (ka == 0) = false) (i j : Int) (s t : List UInt8) (po pa pb : Nat) (w : World) (h : BinW w po pa pb 16 ⟨ka, i, s⟩ ⟨kb, j, t⟩) :
    Calls Try.prog 59 #[.pointer (some ⟨po, 0, none⟩), .pointer (some ⟨pa, 0, none⟩), .pointer (some ⟨pb, 0, none⟩)] w (EvR (.error 35) w) := by
  have HW := Asd.mk h
  have HX := Asd.mk (blk_new w zeroV)
  have HB : Asd (Below w.heap.size w (w.alloc zeroV)) := Asd.mk (below_alloc (Below.refl _ _) _)
  clear h
  go_enter Try.func59, Try.ntmps59
  go_upto_region 1 with fail
  generalize w.alloc _ = w1 at HX HB ⊢
  have HW1 := Asd.mk (HW.out.below HB.out)
  have o0 := (blk_cell HW1.out.o 0).trans rfl
  obtain ⟨a0, a1, a2⟩ := val_cells HW1.out.a
  obtain ⟨b0, b1, b2⟩ := val_cells HW1.out.b
  obtain ⟨⟨x0, x1, x2⟩, y0, y1, y2⟩ := zero_cells HX.out
  simp only at a0 a1 a2 b0 b1 b2
  go_wp2_with fail
  refine (check_ok 5 _).mono ?_
  rintro e w' ⟨rfl, rfl⟩
  go_wp2_with fail
  refine (wants_text _).mono ?_
  rintro e w' ⟨rfl, rfl⟩
  go_wp2_with fail
  refine (check_no 35 _).mono ?_
  rintro e w' ⟨rfl, rfl⟩
  go_wp2
  exact ⟨rfl, HB.out, rfl⟩
set_option maxRecDepth 100000 in
set_option maxHeartbeats 6400000 in
theorem bin_S_b0 (kb : Int) (h1 : (kb == 3) = false) (h0 : (kb == 0) = false) (i j : Int) (s t : List UInt8) (po pa pb : Nat) (w : World) (h : BinW w po pa pb 16 ⟨0, i, s⟩ ⟨kb, j, t⟩) :
    Calls Try.prog 59 #[.pointer (some ⟨po, 0, none⟩), .pointer (some ⟨pa, 0, none⟩), .pointer (some ⟨pb, 0, none⟩)] w (EvR (.error 35) w) := by
  have HW := Asd.mk h
  have HX := Asd.mk (blk_new w zeroV)
  have HB : Asd (Below w.heap.size w (w.alloc zeroV)) := Asd.mk (below_alloc (Below.refl _ _) _)
  clear h
  go_enter Try.func59, Try.ntmps59
  go_upto_region 1 with fail
  generalize w.alloc _ = w1 at HX HB ⊢
  have HW1 := Asd.mk (HW.out.below HB.out)
  have o0 := (blk_cell HW1.out.o 0).trans rfl
  obtain ⟨a0, a1, a2⟩ := val_cells HW1.out.a
  obtain ⟨b0, b1, b2⟩ := val_cells HW1.out.b
  obtain ⟨⟨x0, x1, x2⟩, y0, y1, y2⟩ := zero_cells HX.out
  simp only at a0 a1 a2 b0 b1 b2
  go_wp2_with fail
  refine (check_ok 5 _).mono ?_
  rintro e w' ⟨rfl, rfl⟩
  go_wp2_with fail
  refine (wants_text _).mono ?_
  rintro e w' ⟨rfl, rfl⟩
  go_wp2_with fail
  refine (check_ok 35 _).mono ?_
  rintro e w' ⟨rfl, rfl⟩
  go_wp2_with fail
  refine (check_no 35 _).mono ?_
  rintro e w' ⟨rfl, rfl⟩
  go_wp2
  exact ⟨rfl, HB.out, rfl⟩
set_option maxRecDepth 100000 in
set_option maxHeartbeats 6400000 in
theorem bin_S_00 (i j : Int) (s t : List UInt8) (po pa pb : Nat) (w : World) (h : BinW w po pa pb 16 ⟨0, i, s⟩ ⟨0, j, t⟩) :
    Calls Try.prog 59 #[.pointer (some ⟨po, 0, none⟩), .pointer (some ⟨pa, 0, none⟩), .pointer (some ⟨pb, 0, none⟩)] w (EvR (.ok vNull) w) := by
  have HW := Asd.mk h
  have HX := Asd.mk (blk_new w zeroV)
  have HB : Asd (Below w.heap.size w (w.alloc zeroV)) := Asd.mk (below_alloc (Below.refl _ _) _)
  clear h
  go_enter Try.func59, Try.ntmps59
  go_upto_region 1 with fail
  generalize w.alloc _ = w1 at HX HB ⊢
  have HW1 := Asd.mk (HW.out.below HB.out)
  have o0 := (blk_cell HW1.out.o 0).trans rfl
  obtain ⟨a0, a1, a2⟩ := val_cells HW1.out.a
  obtain ⟨b0, b1, b2⟩ := val_cells HW1.out.b
  obtain ⟨⟨x0, x1, x2⟩, y0, y1, y2⟩ := zero_cells HX.out
  simp only at a0 a1 a2 b0 b1 b2
  go_wp2_with fail
  refine (check_ok 5 _).mono ?_
  rintro e w' ⟨rfl, rfl⟩
  go_wp2_with fail
  refine (wants_text _).mono ?_
  rintro e w' ⟨rfl, rfl⟩
  go_wp2_with fail
  refine (check_ok 35 _).mono ?_
  rintro e w' ⟨rfl, rfl⟩
  go_wp2_with fail
  refine (check_ok 35 _).mono ?_
  rintro e w' ⟨rfl, rfl⟩
  go_wp2
  refine val_ret rfl w.heap.size _ _ _ rfl (put3_blk HX.out _ _ _) rfl ?_
  exact ⟨below_put3 HB.out (Nat.le_refl _) _ _ _, rfl⟩
set_option maxRecDepth 100000 in
set_option maxHeartbeats 6400000 in
theorem bin_S_03 (i j : Int) (s t : List UInt8) (po pa pb : Nat) (w : World) (h : BinW w po pa pb 16 ⟨0, i, s⟩ ⟨3, j, t⟩) :
    Calls Try.prog 59 #[.pointer (some ⟨po, 0, none⟩), .pointer (some ⟨pa, 0, none⟩), .pointer (some ⟨pb, 0, none⟩)] w (EvR (.ok vNull) w) := by
  have HW := Asd.mk h
  have HX := Asd.mk (blk_new w zeroV)
  have HB : Asd (Below w.heap.size w (w.alloc zeroV)) := Asd.mk (below_alloc (Below.refl _ _) _)
  clear h
  go_enter Try.func59, Try.ntmps59
  go_upto_region 1 with fail
  generalize w.alloc _ = w1 at HX HB ⊢
  have HW1 := Asd.mk (HW.out.below HB.out)
  have o0 := (blk_cell HW1.out.o 0).trans rfl
  obtain ⟨a0, a1, a2⟩ := val_cells HW1.out.a
  obtain ⟨b0, b1, b2⟩ := val_cells HW1.out.b
  obtain ⟨⟨x0, x1, x2⟩, y0, y1, y2⟩ := zero_cells HX.out
  simp only at a0 a1 a2 b0 b1 b2
  go_wp2_with fail
  refine (check_ok 5 _).mono ?_
  rintro e w' ⟨rfl, rfl⟩
  go_wp2_with fail
  refine (wants_text _).mono ?_
  rintro e w' ⟨rfl, rfl⟩
  go_wp2_with fail
  refine (check_ok 35 _).mono ?_
  rintro e w' ⟨rfl, rfl⟩
  go_wp2_with fail
  refine (check_ok 35 _).mono ?_
  rintro e w' ⟨rfl, rfl⟩
  go_wp2
  refine val_ret rfl w.heap.size _ _ _ rfl (put3_blk HX.out _ _ _) rfl ?_
  exact ⟨below_put3 HB.out (Nat.le_refl _) _ _ _, rfl⟩
set_option maxRecDepth 100000 in
set_option maxHeartbeats 6400000 in
theorem bin_S_b3 (kb : Int) (h1 : (kb == 3) = false) (h0 : (kb == 0) = false) (i j : Int) (s t : List UInt8) (po pa pb : Nat) (w : World) (h : BinW w po pa pb 16 ⟨3, i, s⟩ ⟨kb, j, t⟩) :
    Calls Try.prog 59 #[.pointer (some ⟨po, 0, none⟩), .pointer (some ⟨pa, 0, none⟩), .pointer (some ⟨pb, 0, none⟩)] w (EvR (.error 35) w) := by
  have HW := Asd.mk h
  have HX := Asd.mk (blk_new w zeroV)
  have HB : Asd (Below w.heap.size w (w.alloc zeroV)) := Asd.mk (below_alloc (Below.refl _ _) _)
  clear h
  go_enter Try.func59, Try.ntmps59
  go_upto_region 1 with fail
  generalize w.alloc _ = w1 at HX HB ⊢
  have HW1 := Asd.mk (HW.out.below HB.out)
  have o0 := (blk_cell HW1.out.o 0).trans rfl
  obtain ⟨a0, a1, a2⟩ := val_cells HW1.out.a
  obtain ⟨b0, b1, b2⟩ := val_cells HW1.out.b
  obtain ⟨⟨x0, x1, x2⟩, y0, y1, y2⟩ := zero_cells HX.out
  simp only at a0 a1 a2 b0 b1 b2
  go_wp2_with fail
  refine (check_ok 5 _).mono ?_
  rintro e w' ⟨rfl, rfl⟩
  go_wp2_with fail
  refine (wants_text _).mono ?_
  rintro e w' ⟨rfl, rfl⟩
  go_wp2_with fail
  refine (check_ok 35 _).mono ?_
  rintro e w' ⟨rfl, rfl⟩
  go_wp2_with fail
  refine (check_no 35 _).mono ?_
  rintro e w' ⟨rfl, rfl⟩
  go_wp2
  exact ⟨rfl, HB.out, rfl⟩
set_option maxRecDepth 100000 in
set_option maxHeartbeats 6400000 in
theorem bin_S_30 (i j : Int) (s t : List UInt8) (po pa pb : Nat) (w : World) (h : BinW w po pa pb 16 ⟨3, i, s⟩ ⟨0, j, t⟩) :
    Calls Try.prog 59 #[.pointer (some ⟨po, 0, none⟩), .pointer (some ⟨pa, 0, none⟩), .pointer (some ⟨pb, 0, none⟩)] w (EvR (.ok vNull) w) := by
  have HW := Asd.mk h
  have HX := Asd.mk (blk_new w zeroV)
  have HB : Asd (Below w.heap.size w (w.alloc zeroV)) := Asd.mk (below_alloc (Below.refl _ _) _)
  clear h
  go_enter Try.func59, Try.ntmps59
  go_upto_region 1 with fail
  generalize w.alloc _ = w1 at HX HB ⊢
  have HW1 := Asd.mk (HW.out.below HB.out)
  have o0 := (blk_cell HW1.out.o 0).trans rfl
  obtain ⟨a0, a1, a2⟩ := val_cells HW1.out.a
  obtain ⟨b0, b1, b2⟩ := val_cells HW1.out.b
  obtain ⟨⟨x0, x1, x2⟩, y0, y1, y2⟩ := zero_cells HX.out
  simp only at a0 a1 a2 b0 b1 b2
  go_wp2_with fail
  refine (check_ok 5 _).mono ?_
  rintro e w' ⟨rfl, rfl⟩
  go_wp2_with fail
  refine (wants_text _).mono ?_
  rintro e w' ⟨rfl, rfl⟩
  go_wp2_with fail
  refine (check_ok 35 _).mono ?_
  rintro e w' ⟨rfl, rfl⟩
  go_wp2_with fail
  refine (check_ok 35 _).mono ?_
  rintro e w' ⟨rfl, rfl⟩
  go_wp2
  refine val_ret rfl w.heap.size _ _ _ rfl (put3_blk HX.out _ _ _) rfl ?_
  exact ⟨below_put3 HB.out (Nat.le_refl _) _ _ _, rfl⟩
set_option maxRecDepth 100000 in
set_option maxHeartbeats 6400000 in
theorem bin_A_a (op : Int) (h3 : 3 ≤ op) (h16 : op ≤ 16) (h4 : ¬ op ≤ 4) (h10 : ¬ op ≤ 10) (h6 : ¬ op = 16) (ka kb : Int) (h1 : (ka == 2) = false) (h0 : (ka == 0) = false) (i j : Int) (s t : List UInt8) (po pa pb : Nat) (w : World) (h : BinW w po pa pb op ⟨ka, i, s⟩ ⟨kb, j, t⟩) :
    Calls Try.prog 59 #[.pointer (some ⟨po, 0, none⟩), .pointer (some ⟨pa, 0, none⟩), .pointer (some ⟨pb, 0, none⟩)] w (EvR (.error 35) w) := by
  have HW := Asd.mk h
  have HX := Asd.mk (blk_new w zeroV)
  have HB : Asd (Below w.heap.size w (w.alloc zeroV)) := Asd.mk (below_alloc (Below.refl _ _) _)
  clear h
  go_enter Try.func59, Try.ntmps59
  go_upto_region 1 with fail
  generalize w.alloc _ = w1 at HX HB ⊢
  have HW1 := Asd.mk (HW.out.below HB.out)
  have o0 := (blk_cell HW1.out.o 0).trans rfl
  obtain ⟨a0, a1, a2⟩ := val_cells HW1.out.a
  obtain ⟨b0, b1, b2⟩ := val_cells HW1.out.b
  obtain ⟨⟨x0, x1, x2⟩, y0, y1, y2⟩ := zero_cells HX.out
  simp only at a0 a1 a2 b0 b1 b2
  go_wp2_with fail
  refine (check_ok 5 _).mono ?_
  rintro e w' ⟨rfl, rfl⟩
  go_wp2_with fail
  refine (wants_int op (by omega) (by omega) h6 _).mono ?_
  rintro e w' ⟨rfl, rfl⟩
  go_wp2_with fail
  refine (check_no 35 _).mono ?_
  rintro e w' ⟨rfl, rfl⟩
  go_wp2
  exact ⟨rfl, HB.out, rfl⟩
set_option maxRecDepth 100000 in
set_option maxHeartbeats 6400000 in
theorem bin_A_b0 (op : Int) (h3 : 3 ≤ op) (h16 : op ≤ 16) (h4 : ¬ op ≤ 4) (h10 : ¬ op ≤ 10) (h6 : ¬ op = 16) (kb : Int) (h1 : (kb == 2) = false) (h0 : (kb == 0) = false) (i j : Int) (s t : List UInt8) (po pa pb : Nat) (w : World) (h : BinW w po pa pb op ⟨0, i, s⟩ ⟨kb, j, t⟩) :
    Calls Try.prog 59 #[.pointer (some ⟨po, 0, none⟩), .pointer (some ⟨pa, 0, none⟩), .pointer (some ⟨pb, 0, none⟩)] w (EvR (.error 35) w) := by
  have HW := Asd.mk h
  have HX := Asd.mk (blk_new w zeroV)
  have HB : Asd (Below w.heap.size w (w.alloc zeroV)) := Asd.mk (below_alloc (Below.refl _ _) _)
  clear h
  go_enter Try.func59, Try.ntmps59
  go_upto_region 1 with fail
  generalize w.alloc _ = w1 at HX HB ⊢
  have HW1 := Asd.mk (HW.out.below HB.out)
  have o0 := (blk_cell HW1.out.o 0).trans rfl
  obtain ⟨a0, a1, a2⟩ := val_cells HW1.out.a
  obtain ⟨b0, b1, b2⟩ := val_cells HW1.out.b
  obtain ⟨⟨x0, x1, x2⟩, y0, y1, y2⟩ := zero_cells HX.out
  simp only at a0 a1 a2 b0 b1 b2
  go_wp2_with fail
  refine (check_ok 5 _).mono ?_
  rintro e w' ⟨rfl, rfl⟩
  go_wp2_with fail
  refine (wants_int op (by omega) (by omega) h6 _).mono ?_
  rintro e w' ⟨rfl, rfl⟩
  go_wp2_with fail
  refine (check_ok 35 _).mono ?_
  rintro e w' ⟨rfl, rfl⟩
  go_wp2_with fail
  refine (check_no 35 _).mono ?_
  rintro e w' ⟨rfl, rfl⟩
  go_wp2
  exact ⟨rfl, HB.out, rfl⟩
set_option maxRecDepth 100000 in
set_option maxHeartbeats 6400000 in
theorem bin_A_00 (op : Int) (h3 : 3 ≤ op) (h16 : op ≤ 16) (h4 : ¬ op ≤ 4) (h10 : ¬ op ≤ 10) (h6 : ¬ op = 16) (i j : Int) (s t : List UInt8) (po pa pb : Nat) (w : World) (h : BinW w po pa pb op ⟨0, i, s⟩ ⟨0, j, t⟩) :
    Calls Try.prog 59 #[.pointer (some ⟨po, 0, none⟩), .pointer (some ⟨pa, 0, none⟩), .pointer (some ⟨pb, 0, none⟩)] w (EvR (.ok vNull) w) := by
  have HW := Asd.mk h
  have HX := Asd.mk (blk_new w zeroV)
  have HB : Asd (Below w.heap.size w (w.alloc zeroV)) := Asd.mk (below_alloc (Below.refl _ _) _)
  clear h
  go_enter Try.func59, Try.ntmps59
  go_upto_region 1 with fail
  generalize w.alloc _ = w1 at HX HB ⊢
  have HW1 := Asd.mk (HW.out.below HB.out)
  have o0 := (blk_cell HW1.out.o 0).trans rfl
  obtain ⟨a0, a1, a2⟩ := val_cells HW1.out.a
  obtain ⟨b0, b1, b2⟩ := val_cells HW1.out.b
  obtain ⟨⟨x0, x1, x2⟩, y0, y1, y2⟩ := zero_cells HX.out
  simp only at a0 a1 a2 b0 b1 b2
  go_wp2_with fail
  refine (check_ok 5 _).mono ?_
  rintro e w' ⟨rfl, rfl⟩
  go_wp2_with fail
  refine (wants_int op (by omega) (by omega) h6 _).mono ?_
  rintro e w' ⟨rfl, rfl⟩
  go_wp2_with fail
  refine (check_ok 35 _).mono ?_
  rintro e w' ⟨rfl, rfl⟩
  go_wp2_with fail
  refine (check_ok 35 _).mono ?_
  rintro e w' ⟨rfl, rfl⟩
  go_wp2
  refine val_ret rfl w.heap.size _ _ _ rfl (put3_blk HX.out _ _ _) rfl ?_
  exact ⟨below_put3 HB.out (Nat.le_refl _) _ _ _, rfl⟩
set_option maxRecDepth 100000 in
set_option maxHeartbeats 6400000 in
theorem bin_A_02 (op : Int) (h3 : 3 ≤ op) (h16 : op ≤ 16) (h4 : ¬ op ≤ 4) (h10 : ¬ op ≤ 10) (h6 : ¬ op = 16) (i j : Int) (s t : List UInt8) (po pa pb : Nat) (w : World) (h : BinW w po pa pb op ⟨0, i, s⟩ ⟨2, j, t⟩) :
    Calls Try.prog 59 #[.pointer (some ⟨po, 0, none⟩), .pointer (some ⟨pa, 0, none⟩), .pointer (some ⟨pb, 0, none⟩)] w (EvR (.ok vNull) w) := by
  have HW := Asd.mk h
  have HX := Asd.mk (blk_new w zeroV)
  have HB : Asd (Below w.heap.size w (w.alloc zeroV)) := Asd.mk (below_alloc (Below.refl _ _) _)
  clear h
  go_enter Try.func59, Try.ntmps59
  go_upto_region 1 with fail
  generalize w.alloc _ = w1 at HX HB ⊢
  have HW1 := Asd.mk (HW.out.below HB.out)
  have o0 := (blk_cell HW1.out.o 0).trans rfl
  obtain ⟨a0, a1, a2⟩ := val_cells HW1.out.a
  obtain ⟨b0, b1, b2⟩ := val_cells HW1.out.b
  obtain ⟨⟨x0, x1, x2⟩, y0, y1, y2⟩ := zero_cells HX.out
  simp only at a0 a1 a2 b0 b1 b2
  go_wp2_with fail
  refine (check_ok 5 _).mono ?_
  rintro e w' ⟨rfl, rfl⟩
  go_wp2_with fail
  refine (wants_int op (by omega) (by omega) h6 _).mono ?_
  rintro e w' ⟨rfl, rfl⟩
  go_wp2_with fail
  refine (check_ok 35 _).mono ?_
  rintro e w' ⟨rfl, rfl⟩
  go_wp2_with fail
  refine (check_ok 35 _).mono ?_
  rintro e w' ⟨rfl, rfl⟩
  go_wp2
  refine val_ret rfl w.heap.size _ _ _ rfl (put3_blk HX.out _ _ _) rfl ?_
  exact ⟨below_put3 HB.out (Nat.le_refl _) _ _ _, rfl⟩
set_option maxRecDepth 100000 in
set_option maxHeartbeats 6400000 in
theorem bin_A_b2 (op : Int) (h3 : 3 ≤ op) (h16 : op ≤ 16) (h4 : ¬ op ≤ 4) (h10 : ¬ op ≤ 10) (h6 : ¬ op = 16) (kb : Int) (h1 : (kb == 2) = false) (h0 : (kb == 0) = false) (i j : Int) (s t : List UInt8) (po pa pb : Nat) (w : World) (h : BinW w po pa pb op ⟨2, i, s⟩ ⟨kb, j, t⟩) :
    Calls Try.prog 59 #[.pointer (some ⟨po, 0, none⟩), .pointer (some ⟨pa, 0, none⟩), .pointer (some ⟨pb, 0, none⟩)] w (EvR (.error 35) w) := by
  have HW := Asd.mk h
  have HX := Asd.mk (blk_new w zeroV)
  have HB : Asd (Below w.heap.size w (w.alloc zeroV)) := Asd.mk (below_alloc (Below.refl _ _) _)
  clear h
  go_enter Try.func59, Try.ntmps59
  go_upto_region 1 with fail
  generalize w.alloc _ = w1 at HX HB ⊢
  have HW1 := Asd.mk (HW.out.below HB.out)
  have o0 := (blk_cell HW1.out.o 0).trans rfl
  obtain ⟨a0, a1, a2⟩ := val_cells HW1.out.a
  obtain ⟨b0, b1, b2⟩ := val_cells HW1.out.b
  obtain ⟨⟨x0, x1, x2⟩, y0, y1, y2⟩ := zero_cells HX.out
  simp only at a0 a1 a2 b0 b1 b2
  go_wp2_with fail
  refine (check_ok 5 _).mono ?_
  rintro e w' ⟨rfl, rfl⟩
  go_wp2_with fail
  refine (wants_int op (by omega) (by omega) h6 _).mono ?_
  rintro e w' ⟨rfl, rfl⟩
  go_wp2_with fail
  refine (check_ok 35 _).mono ?_
  rintro e w' ⟨rfl, rfl⟩
  go_wp2_with fail
  refine (check_no 35 _).mono ?_
  rintro e w' ⟨rfl, rfl⟩
  go_wp2
  exact ⟨rfl, HB.out, rfl⟩
set_option maxRecDepth 100000 in
set_option maxHeartbeats 6400000 in
theorem bin_A_20 (op : Int) (h3 : 3 ≤ op) (h16 : op ≤ 16) (h4 : ¬ op ≤ 4) (h10 : ¬ op ≤ 10) (h6 : ¬ op = 16) (i j : Int) (s t : List UInt8) (po pa pb : Nat) (w : World) (h : BinW w po pa pb op ⟨2, i, s⟩ ⟨0, j, t⟩) :
    Calls Try.prog 59 #[.pointer (some ⟨po, 0, none⟩), .pointer (some ⟨pa, 0, none⟩), .pointer (some ⟨pb, 0, none⟩)] w (EvR (.ok vNull) w) := by
  have HW := Asd.mk h
  have HX := Asd.mk (blk_new w zeroV)
  have HB : Asd (Below w.heap.size w (w.alloc zeroV)) := Asd.mk (below_alloc (Below.refl _ _) _)
  clear h
  go_enter Try.func59, Try.ntmps59
  go_upto_region 1 with fail
  generalize w.alloc _ = w1 at HX HB ⊢
  have HW1 := Asd.mk (HW.out.below HB.out)
  have o0 := (blk_cell HW1.out.o 0).trans rfl
  obtain ⟨a0, a1, a2⟩ := val_cells HW1.out.a
  obtain ⟨b0, b1, b2⟩ := val_cells HW1.out.b
  obtain ⟨⟨x0, x1, x2⟩, y0, y1, y2⟩ := zero_cells HX.out
  simp only at a0 a1 a2 b0 b1 b2
  go_wp2_with fail
  refine (check_ok 5 _).mono ?_
  rintro e w' ⟨rfl, rfl⟩
  go_wp2_with fail
  refine (wants_int op (by omega) (by omega) h6 _).mono ?_
  rintro e w' ⟨rfl, rfl⟩
  go_wp2_with fail
  refine (check_ok 35 _).mono ?_
  rintro e w' ⟨rfl, rfl⟩
  go_wp2_with fail
  refine (check_ok 35 _).mono ?_
  rintro e w' ⟨rfl, rfl⟩
  go_wp2
  refine val_ret rfl w.heap.size _ _ _ rfl (put3_blk HX.out _ _ _) rfl ?_
  exact ⟨below_put3 HB.out (Nat.le_refl _) _ _ _, rfl⟩
set_option maxRecDepth 100000 in
set_option maxHeartbeats 6400000 in
theorem bin_S_ok (i j : Int) (s t : List UInt8) (hl : s.length + t.length ≤ 2048) (hd : decide ((s.length : Int) + (t.length : Int) ≤ 2048) = true) (po pa pb : Nat) (w : World) (h : BinW w po pa pb 16 ⟨3, i, s⟩ ⟨3, j, t⟩) :
    Calls Try.prog 59 #[.pointer (some ⟨po, 0, none⟩), .pointer (some ⟨pa, 0, none⟩), .pointer (some ⟨pb, 0, none⟩)] w (EvR (.ok (vTxt (s ++ t))) w) := by
  have HW := Asd.mk h
  have HX := Asd.mk (blk_new w zeroV)
  have HB : Asd (Below w.heap.size w (w.alloc zeroV)) := Asd.mk (below_alloc (Below.refl _ _) _)
  clear h
  go_enter Try.func59, Try.ntmps59
  go_upto_region 1 with fail
  generalize w.alloc _ = w1 at HX HB ⊢
  have HW1 := Asd.mk (HW.out.below HB.out)
  have o0 := (blk_cell HW1.out.o 0).trans rfl
  obtain ⟨a0, a1, a2⟩ := val_cells HW1.out.a
  obtain ⟨b0, b1, b2⟩ := val_cells HW1.out.b
  obtain ⟨⟨x0, x1, x2⟩, y0, y1, y2⟩ := zero_cells HX.out
  simp only at a0 a1 a2 b0 b1 b2
  go_wp2_with fail
  refine (check_ok 5 _).mono ?_
  rintro e w' ⟨rfl, rfl⟩
  go_wp2_with fail
  refine (wants_text _).mono ?_
  rintro e w' ⟨rfl, rfl⟩
  go_wp2_with fail
  refine (check_ok 35 _).mono ?_
  rintro e w' ⟨rfl, rfl⟩
  go_wp2_with fail
  refine (check_ok 35 _).mono ?_
  rintro e w' ⟨rfl, rfl⟩
  have hs : (⟨s.toArray⟩ : ByteArray).size = s.length := rfl
  have ht : (⟨t.toArray⟩ : ByteArray).size = t.length := rfl
  go_wp2_with fail
  refine (check_ok 8 _).mono ?_
  rintro e w' ⟨rfl, rfl⟩
  go_wp2_with fail
  rw [bcat]
  refine (text_calls (s ++ t) _).mono ?_
  rintro e w2 ⟨rfl, hb2⟩
  have HX2 := Asd.mk (blk_below hb2 HX.out)
  have HB2 : Asd (Below w.heap.size w w2) := Asd.mk (HB.out.trans (hb2.mono HB.out.size))
  clear x0 x1 x2 y0 y1 y2 a0 a1 a2 b0 b1 b2 o0 hb2
  obtain ⟨⟨x0, x1, x2⟩, y0, y1, y2⟩ := zero_cells HX2.out
  unfold vC
  go_wp2
  refine val_ret rfl w.heap.size _ _ _ rfl (put3_blk HX2.out _ _ _) rfl ?_
  exact ⟨below_put3 HB2.out (Nat.le_refl _) _ _ _, rfl⟩
set_option maxRecDepth 100000 in
set_option maxHeartbeats 6400000 in
theorem bin_S_long (i j : Int) (s t : List UInt8) (hd : decide (wrap64 ((s.length : Int) + (t.length : Int)) ≤ 2048) = false) (po pa pb : Nat) (w : World) (h : BinW w po pa pb 16 ⟨3, i, s⟩ ⟨3, j, t⟩) :
    Calls Try.prog 59 #[.pointer (some ⟨po, 0, none⟩), .pointer (some ⟨pa, 0, none⟩), .pointer (some ⟨pb, 0, none⟩)] w (EvR (.error 8) w) := by
  have HW := Asd.mk h
  have HX := Asd.mk (blk_new w zeroV)
  have HB : Asd (Below w.heap.size w (w.alloc zeroV)) := Asd.mk (below_alloc (Below.refl _ _) _)
  clear h
  go_enter Try.func59, Try.ntmps59
  go_upto_region 1 with fail
  generalize w.alloc _ = w1 at HX HB ⊢
  have HW1 := Asd.mk (HW.out.below HB.out)
  have o0 := (blk_cell HW1.out.o 0).trans rfl
  obtain ⟨a0, a1, a2⟩ := val_cells HW1.out.a
  obtain ⟨b0, b1, b2⟩ := val_cells HW1.out.b
  obtain ⟨⟨x0, x1, x2⟩, y0, y1, y2⟩ := zero_cells HX.out
  simp only at a0 a1 a2 b0 b1 b2
  go_wp2_with fail
  refine (check_ok 5 _).mono ?_
  rintro e w' ⟨rfl, rfl⟩
  go_wp2_with fail
  refine (wants_text _).mono ?_
  rintro e w' ⟨rfl, rfl⟩
  go_wp2_with fail
  refine (check_ok 35 _).mono ?_
  rintro e w' ⟨rfl, rfl⟩
  go_wp2_with fail
  refine (check_ok 35 _).mono ?_
  rintro e w' ⟨rfl, rfl⟩
  have hs : (⟨s.toArray⟩ : ByteArray).size = s.length := rfl
  have ht : (⟨t.toArray⟩ : ByteArray).size = t.length := rfl
  go_wp2_with fail
  refine (check_no 8 _).mono ?_
  rintro e w' ⟨rfl, rfl⟩
  go_wp2
  exact ⟨rfl, HB.out, rfl⟩
set_option maxRecDepth 100000 in
set_option maxHeartbeats 6400000 in
theorem bin_A_ok (op : Int) (h3 : 3 ≤ op) (h16 : op ≤ 16) (h4 : ¬ op ≤ 4) (h10 : ¬ op ≤ 10) (h6 : ¬ op = 16) (z : Int) (i j : Int) (s t : List UInt8) (HC : Asd (∀ W, Calls Try.prog 65 #[.int .i64 op, .int .i64 i, .int .i64 j] W fun e W' => e = .returned (.int .i64 z) ∧ W' = W)) (po pa pb : Nat) (w : World) (h : BinW w po pa pb op ⟨2, i, s⟩ ⟨2, j, t⟩) :
    Calls Try.prog 59 #[.pointer (some ⟨po, 0, none⟩), .pointer (some ⟨pa, 0, none⟩), .pointer (some ⟨pb, 0, none⟩)] w (EvR (.ok (vNum z)) w) := by
  have HW := Asd.mk h
  have HX := Asd.mk (blk_new w zeroV)
  have HB : Asd (Below w.heap.size w (w.alloc zeroV)) := Asd.mk (below_alloc (Below.refl _ _) _)
  clear h
  go_enter Try.func59, Try.ntmps59
  go_upto_region 1 with fail
  generalize w.alloc _ = w1 at HX HB ⊢
  have HW1 := Asd.mk (HW.out.below HB.out)
  have o0 := (blk_cell HW1.out.o 0).trans rfl
  obtain ⟨a0, a1, a2⟩ := val_cells HW1.out.a
  obtain ⟨b0, b1, b2⟩ := val_cells HW1.out.b
  obtain ⟨⟨x0, x1, x2⟩, y0, y1, y2⟩ := zero_cells HX.out
  simp only at a0 a1 a2 b0 b1 b2
  go_wp2_with fail
  refine (check_ok 5 _).mono ?_
  rintro e w' ⟨rfl, rfl⟩
  go_wp2_with fail
  refine (wants_int op (by omega) (by omega) h6 _).mono ?_
  rintro e w' ⟨rfl, rfl⟩
  go_wp2_with fail
  refine (check_ok 35 _).mono ?_
  rintro e w' ⟨rfl, rfl⟩
  go_wp2_with fail
  refine (check_ok 35 _).mono ?_
  rintro e w' ⟨rfl, rfl⟩
  go_wp2_with fail
  refine (HC.out _).mono ?_
  rintro e w' ⟨rfl, rfl⟩
  go_wp2_with fail
  refine (number_calls z _).mono ?_
  rintro e w2 ⟨rfl, hb2⟩
  have HX2 := Asd.mk (blk_below hb2 HX.out)
  have HB2 : Asd (Below w.heap.size w w2) := Asd.mk (HB.out.trans (hb2.mono HB.out.size))
  clear x0 x1 x2 y0 y1 y2 a0 a1 a2 b0 b1 b2 o0 hb2
  obtain ⟨⟨x0, x1, x2⟩, y0, y1, y2⟩ := zero_cells HX2.out
  unfold vC
  go_wp2
  refine val_ret rfl w.heap.size _ _ _ rfl (put3_blk HX2.out _ _ _) rfl ?_
  exact ⟨below_put3 HB2.out (Nat.le_refl _) _ _ _, rfl⟩
set_option maxRecDepth 100000 in
set_option maxHeartbeats 6400000 in
theorem bin_A_no (op : Int) (h3 : 3 ≤ op) (h16 : op ≤ 16) (h4 : ¬ op ≤ 4) (h10 : ¬ op ≤ 10) (h6 : ¬ op = 16) (n : Int) (i j : Int) (s t : List UInt8) (HC : Asd (∀ W, Calls Try.prog 65 #[.int .i64 op, .int .i64 i, .int .i64 j] W fun e W' => e = errP n ∧ W' = W)) (po pa pb : Nat) (w : World) (h : BinW w po pa pb op ⟨2, i, s⟩ ⟨2, j, t⟩) :
    Calls Try.prog 59 #[.pointer (some ⟨po, 0, none⟩), .pointer (some ⟨pa, 0, none⟩), .pointer (some ⟨pb, 0, none⟩)] w (EvR (.error n) w) := by
  have HW := Asd.mk h
  have HX := Asd.mk (blk_new w zeroV)
  have HB : Asd (Below w.heap.size w (w.alloc zeroV)) := Asd.mk (below_alloc (Below.refl _ _) _)
  clear h
  go_enter Try.func59, Try.ntmps59
  go_upto_region 1 with fail
  generalize w.alloc _ = w1 at HX HB ⊢
  have HW1 := Asd.mk (HW.out.below HB.out)
  have o0 := (blk_cell HW1.out.o 0).trans rfl
  obtain ⟨a0, a1, a2⟩ := val_cells HW1.out.a
  obtain ⟨b0, b1, b2⟩ := val_cells HW1.out.b
  obtain ⟨⟨x0, x1, x2⟩, y0, y1, y2⟩ := zero_cells HX.out
  simp only at a0 a1 a2 b0 b1 b2
  go_wp2_with fail
  refine (check_ok 5 _).mono ?_
  rintro e w' ⟨rfl, rfl⟩
  go_wp2_with fail
  refine (wants_int op (by omega) (by omega) h6 _).mono ?_
  rintro e w' ⟨rfl, rfl⟩
  go_wp2_with fail
  refine (check_ok 35 _).mono ?_
  rintro e w' ⟨rfl, rfl⟩
  go_wp2_with fail
  refine (check_ok 35 _).mono ?_
  rintro e w' ⟨rfl, rfl⟩
  go_wp2_with fail
  refine (HC.out _).mono ?_
  rintro e w' ⟨rfl, rfl⟩
  go_wp2
  exact ⟨rfl, HB.out, rfl⟩
theorem len_sum (s t : List UInt8) (hs : s.length ≤ reachBytes) (ht : t.length ≤ reachBytes) : wrap64 ((s.length : Int) + (t.length : Int)) = ((s.length + t.length : Nat) : Int) := by
  have : reachBytes = 140737488351232 := rfl
  rw [IntWalk.wrap64_in _ (by omega)]
  omega
theorem rv_len {v : Vl} (h : RV v) : v.text.length ≤ reachBytes := by
  cases h with
  | null => exact Nat.zero_le _
  | bool b => exact Nat.zero_le _
  | num n h => exact Nat.zero_le _
  | text s h => exact h
  | blob s h => exact h
theorem rv_int {v : Vl} (h : RV v) : inI v.int := by
  cases h with
  | null => exact ⟨by decide, by decide⟩
  | bool b => cases b <;> exact ⟨by decide, by decide⟩
  | num n h => exact h
  | text s h => exact (show inI 0 by decide)
  | blob s h => exact (show inI 0 by decide)
theorem fit_or {k : Int} {v : Vl} (h : fitK k v = true) : v.kind = k ∨ v.kind = 0 := by
  unfold fitK at h
  simpa using h
theorem fit_not {k : Int} {v : Vl} (h : fitK k v = false) : (v.kind == k) = false ∧ (v.kind == 0) = false := by
  unfold fitK at h
  simpa using h
/-- calc.Binary's sum. -/
theorem bin_calls (op : Int) (h3 : 3 ≤ op) (h16 : op ≤ 16) (a b : Vl) (ha : RV a) (hb : RV b) (po pa pb : Nat) (w : World) (h : BinW w po pa pb op a b) :
    Calls Try.prog 59 #[.pointer (some ⟨po, 0, none⟩), .pointer (some ⟨pa, 0, none⟩), .pointer (some ⟨pb, 0, none⟩)] w (EvR (binP op a b) w) := by
  by_cases h4 : op ≤ 4
  · have e : binP op a b = if fitK 1 a && fitK 1 b then .ok (logicP (op == 3) a b) else .error 35 := by unfold binP; rw [if_pos h4]
    rw [e]
    cases hfa : fitK 1 a with
    | false =>
      obtain ⟨p1, p2⟩ := fit_not hfa
      rcases (show op = 3 ∨ op = 4 by omega) with rfl | rfl
      · exact bin_L3_a _ _ p1 p2 _ _ _ _ po pa pb w h
      · exact bin_L4_a _ _ p1 p2 _ _ _ _ po pa pb w h
    | true =>
      have ga := fit_or hfa
      cases hfb : fitK 1 b with
      | false =>
        obtain ⟨p1, p2⟩ := fit_not hfb
        obtain ⟨ka, i, s⟩ := a
        rcases (show op = 3 ∨ op = 4 by omega) with rfl | rfl
        · rcases ga with rfl | rfl
          · exact bin_L3_b1 _ p1 p2 _ _ _ _ po pa pb w h
          · exact bin_L3_b0 _ p1 p2 _ _ _ _ po pa pb w h
        · rcases ga with rfl | rfl
          · exact bin_L4_b1 _ p1 p2 _ _ _ _ po pa pb w h
          · exact bin_L4_b0 _ p1 p2 _ _ _ _ po pa pb w h
      | true =>
        have gb := fit_or hfb
        obtain ⟨ka, i, s⟩ := a
        obtain ⟨kb, j, t⟩ := b
        rcases (show op = 3 ∨ op = 4 by omega) with rfl | rfl
        · rcases ga with rfl | rfl
          · rcases gb with rfl | rfl
            · exact bin_L3_11 _ _ _ _ po pa pb w h
            · exact bin_L3_10 _ _ _ _ po pa pb w h
          · rcases gb with rfl | rfl
            · exact bin_L3_01 _ _ _ _ po pa pb w h
            · exact bin_L3_00 _ _ _ _ po pa pb w h
        · rcases ga with rfl | rfl
          · rcases gb with rfl | rfl
            · exact bin_L4_11 _ _ _ _ po pa pb w h
            · exact bin_L4_10 _ _ _ _ po pa pb w h
          · rcases gb with rfl | rfl
            · exact bin_L4_01 _ _ _ _ po pa pb w h
            · exact bin_L4_00 _ _ _ _ po pa pb w h
  by_cases h10 : op ≤ 10
  · have e : binP op a b = if a.kind = 0 ∨ b.kind = 0 then .ok vNull else if a.kind = b.kind then .ok (vTru (holdP op (cmpV a b))) else .error 35 := by unfold binP; rw [if_neg h4, if_pos h10]
    rw [e]
    by_cases ka0 : a.kind = 0
    · rw [if_pos (.inl ka0)]
      obtain ⟨ka, i, s⟩ := a
      obtain rfl : ka = 0 := ka0
      exact bin_C_0 op h3 h16 h4 h10 _ _ _ _ _ po pa pb w h
    · have na : (a.kind == 0) = false := by simpa using ka0
      by_cases kb0 : b.kind = 0
      · rw [if_pos (.inr kb0)]
        obtain ⟨kb, j, t⟩ := b
        obtain rfl : kb = 0 := kb0
        exact bin_C_n op h3 h16 h4 h10 _ na _ _ _ _ po pa pb w h
      · rw [if_neg (by rintro (h | h); exact ka0 h; exact kb0 h)]
        have nb : (b.kind == 0) = false := by simpa using kb0
        by_cases hk : a.kind = b.kind
        · rw [if_pos hk]
          have HC := Asd.mk (compare_calls a b ha hb hk ka0)
          generalize cmpV a b = c at HC ⊢
          obtain ⟨ka, i, s⟩ := a
          obtain ⟨kb, j, t⟩ := b
          obtain rfl : ka = kb := hk
          exact bin_C_yes op h3 h16 h4 h10 _ na c _ _ _ _ HC po pa pb w h
        · rw [if_neg hk]
          exact bin_C_no op h3 h16 h4 h10 _ _ na nb (by simpa using hk) _ _ _ _ po pa pb w h
  by_cases h6 : op = 16
  · subst h6
    have e : binP 16 a b = if fitK 3 a && fitK 3 b then (if a.kind = 0 ∨ b.kind = 0 then .ok vNull else if a.text.length + b.text.length ≤ 2048 then .ok (vTxt (a.text ++ b.text)) else .error 8) else .error 35 := rfl
    rw [e]
    have hla := rv_len ha
    have hlb := rv_len hb
    cases hfa : fitK 3 a with
    | false =>
      obtain ⟨p1, p2⟩ := fit_not hfa
      exact bin_S_a _ _ p1 p2 _ _ _ _ po pa pb w h
    | true =>
      have ga := fit_or hfa
      cases hfb : fitK 3 b with
      | false =>
        obtain ⟨p1, p2⟩ := fit_not hfb
        obtain ⟨ka, i, s⟩ := a
        rcases ga with rfl | rfl
        · exact bin_S_b3 _ p1 p2 _ _ _ _ po pa pb w h
        · exact bin_S_b0 _ p1 p2 _ _ _ _ po pa pb w h
      | true =>
        have gb := fit_or hfb
        obtain ⟨ka, i, s⟩ := a
        obtain ⟨kb, j, t⟩ := b
        rcases ga with rfl | rfl
        · rcases gb with rfl | rfl
          · rw [Bool.and_self, if_pos rfl, if_neg (by simp)]
            have hw := len_sum s t hla hlb
            by_cases hl : s.length + t.length ≤ 2048
            · rw [if_pos hl]
              exact bin_S_ok _ _ _ _ hl (decide_eq_true (by omega)) po pa pb w h
            · rw [if_neg hl]
              exact bin_S_long _ _ _ _ (by rw [hw]; exact decide_eq_false (by omega)) po pa pb w h
          · exact bin_S_30 _ _ _ _ po pa pb w h
        · rcases gb with rfl | rfl
          · exact bin_S_03 _ _ _ _ po pa pb w h
          · exact bin_S_00 _ _ _ _ po pa pb w h
  · have e : binP op a b = if fitK 2 a && fitK 2 b then (if a.kind = 0 ∨ b.kind = 0 then .ok vNull else sumV op a.int b.int) else .error 35 := by unfold binP; rw [if_neg h4, if_neg h10, if_neg h6]
    rw [e]
    have hia := rv_int ha
    have hib := rv_int hb
    cases hfa : fitK 2 a with
    | false =>
      obtain ⟨p1, p2⟩ := fit_not hfa
      exact bin_A_a op h3 h16 h4 h10 h6 _ _ p1 p2 _ _ _ _ po pa pb w h
    | true =>
      have ga := fit_or hfa
      cases hfb : fitK 2 b with
      | false =>
        obtain ⟨p1, p2⟩ := fit_not hfb
        obtain ⟨ka, i, s⟩ := a
        rcases ga with rfl | rfl
        · exact bin_A_b2 op h3 h16 h4 h10 h6 _ p1 p2 _ _ _ _ po pa pb w h
        · exact bin_A_b0 op h3 h16 h4 h10 h6 _ p1 p2 _ _ _ _ po pa pb w h
      | true =>
        have gb := fit_or hfb
        obtain ⟨ka, i, s⟩ := a
        obtain ⟨kb, j, t⟩ := b
        rcases ga with rfl | rfl
        · rcases gb with rfl | rfl
          · rw [Bool.and_self, if_pos rfl, if_neg (by simp)]
            have hc := sum_calls op i j (by omega) (by omega) hia hib
            show Calls _ _ _ w (EvR (sumV op i j) w)
            unfold sumV
            cases hs : sumN op i j with
            | ok z =>
              rw [hs] at hc
              exact bin_A_ok op h3 h16 h4 h10 h6 z _ _ _ _ ⟨fun W => (hc W).mono fun e w' h => ⟨h.2, h.1⟩⟩ po pa pb w h
            | error n =>
              rw [hs] at hc
              exact bin_A_no op h3 h16 h4 h10 h6 n _ _ _ _ ⟨fun W => (hc W).mono fun e w' h => ⟨h.2, h.1⟩⟩ po pa pb w h
          · exact bin_A_20 op h3 h16 h4 h10 h6 _ _ _ _ po pa pb w h
        · rcases gb with rfl | rfl
          · exact bin_A_02 op h3 h16 h4 h10 h6 _ _ _ _ po pa pb w h
          · exact bin_A_00 op h3 h16 h4 h10 h6 _ _ _ _ po pa pb w h
set_option maxRecDepth 100000 in
set_option maxHeartbeats 6400000 in
/-- calc.Binary. -/
theorem binary_calls (op : Int) (h3 : 3 ≤ op) (h16 : op ≤ 16) (a b : Vl) (ha : RV a) (hb : RV b) (w : World) : Calls Try.prog 24 #[.int .i64 op, vC a, vC b] w (Ev2 (binP op a b) w) := by
  have hmf := mk_func
  have HC := Asd.mk (bin_calls op h3 h16 a b ha hb)
  clear h3 h16 ha hb
  generalize binP op a b = r at HC ⊢
  unfold vC
  have HW : Asd (BinW ((((w.alloc (.cells #[.int .i64 op] 3 (0, 0))).alloc (vK a)).alloc (vK b)).alloc zeroV) w.heap.size (w.heap.size + 1) (w.heap.size + 1 + 1) op a b) := Asd.mk ⟨blk_alloc (blk_alloc (blk_alloc (blk_new w _) _) _) _, blk_alloc (blk_alloc (nb1 w _ _) _) _, blk_alloc (nb2 w _ _ _) _⟩
  have HX := Asd.mk (nb3 w (.cells #[.int .i64 op] 3 (0, 0)) (vK a) (vK b) zeroV)
  have HB : Asd (Below w.heap.size w ((((w.alloc (.cells #[.int .i64 op] 3 (0, 0))).alloc (vK a)).alloc (vK b)).alloc zeroV)) := Asd.mk (below_alloc (below_alloc (below_alloc (below_alloc (Below.refl _ _) _) _) _) _)
  go_enter Try.func24, Try.ntmps24
  go_upto_region 1 with fail
  generalize ((((w.alloc (.cells #[.int .i64 op] 3 (0, 0))).alloc (vK a)).alloc (vK b)).alloc zeroV) = w1 at HW HX HB ⊢
  go_wp2_with fail
  refine (caught_calls 59 _ r _ (isGo_of Try.func59 (by decide) rfl) fun W hW => HC.out _ _ _ W (HW.out.below hW)).mono ?_
  rintro e w2 ⟨hb2, rfl⟩
  have HX2 := Asd.mk (blk_below hb2 HX.out)
  have HB2 : Asd (Below w.heap.size w w2) := Asd.mk (HB.out.trans (hb2.mono HB.out.size))
  clear hb2
  obtain ⟨⟨x0, x1, x2⟩, y0, y1, y2⟩ := zero_cells HX2.out
  cases r with
  | ok u =>
    unfold vC
    go_wp2
    refine val_ret2 rfl (w.heap.size + 1 + 1 + 1) _ _ _ rfl (put3_blk HX2.out _ _ _) rfl ?_
    exact ⟨below_put3 HB2.out (by omega) _ _ _, rfl⟩
  | error n =>
    unfold vC
    simp only [vNull]
    go_wp2
    refine val_ret2 rfl (w.heap.size + 1 + 1 + 1) _ _ _ rfl (put3_blk HX2.out _ _ _) rfl ?_
    exact ⟨below_put3 HB2.out (by omega) _ _ _, rfl⟩
end Go.Proofs.Ytinflndbfdbnhaa.Exp

/- calc: mapped, cut, Args, takes. -/
set_option linter.unusedVariables false
set_option linter.unusedSimpArgs false
namespace Go.Proofs.Ytinflndbfdbnhaa.Exp
open Go.RowKit Go.Proofs.Ytinflndbfdbnhaa.Base Go.Proofs.Ytinflndbfdbnhaa.App Go.Proofs.Ytinflndbfdbnhaa.Byt

theorem take_snocB (s : List UInt8) (k : Nat) (h : k < s.length) : s.take (k + 1) = s.take k ++ [s[k]] := List.take_succ_eq_append_getElem h
theorem byteCells_lenB (l : List UInt8) : (Lib.byteCells l).length = l.length := by simp [Lib.byteCells]
theorem byteCells_snocB (l : List UInt8) (c : UInt8) : Lib.byteCells (l ++ [c]) = Lib.byteCells l ++ [.int .u8 c.toNat] := by simp [Lib.byteCells]
theorem bld_freshB (w : World) : Lib.IsBuilder 148 5 w.heap.size w.heap.size [] (w.alloc (.cells #[.pointer none, .slice none 0 0] 148)) :=
  .inl ⟨Nat.le_refl _, .slice none 0 0, blk_new _ _, World.ownsRow_nil _ _ _ _, by simp [Value.ownBlock]⟩
def mapC (from_ to_ : UInt8) (c : UInt8) : UInt8 := if from_.toNat ≤ c.toNat ∧ c.toNat ≤ from_.toNat + 25 then c + (to_ - from_) else c
theorem mapP_eq (f t : UInt8) (s : List UInt8) : mapP f t s = s.map (mapC f t) := rfl
theorem mapP_len (f t : UInt8) (s : List UInt8) : (mapP f t s).length = s.length := by simp [mapP]
theorem mapP_snoc (f t : UInt8) (s : List UInt8) (c : UInt8) : mapP f t (s ++ [c]) = mapP f t s ++ [mapC f t c] := by simp [mapP, mapC]

set_option maxRecDepth 100000 in
set_option maxHeartbeats 3200000 in
theorem mapped_up (s : ByteArray) (hs : s.size ≤ reachBytes) (w : World) : Calls Try.prog 112 #[.string s, .int .u8 97, .int .u8 65] w fun e w' => e = .returned (.string ⟨(mapP 97 65 s.data.toList).toArray⟩) ∧ Below w.heap.size w w' := by
  have hs : s.size ≤ 140737488351232 := hs
  have HBF := Asd.mk (bld_freshB w)
  have HB : Asd (Below w.heap.size w (w.alloc (.cells #[.pointer none, .slice none 0 0] 148))) := Asd.mk (below_alloc (Below.refl _ _) _)
  go_enter Try.func112, Try.ntmps112
  go_upto_region 2 with fail
  generalize w.alloc (.cells #[.pointer none, .slice none 0 0] 148) = w1 at HBF HB ⊢
  have HBW : Asd (w.heap.size ≤ w1.heap.size) := Asd.mk HB.out.size
  go_wp2
  go_loopw [12] (fun i wr => ∃ k : Nat, k ≤ s.size ∧ i = .int .i64 (k : Int) ∧ Asd (Lib.IsBuilder 148 5 w.heap.size w.heap.size (Lib.byteCells (mapP 97 65 (s.data.toList.take k))) wr) ∧ Asd (Below w.heap.size w wr)) (fun i _ => s.size - (intOf i).toNat)
  case atStart => exact ⟨0, by omega, rfl, ⟨HBF.out⟩, ⟨HB.out⟩⟩
  case round =>
    obtain ⟨k, hk, rfl, HBD, HBR⟩ := hrel
    by_cases hlt : k < s.size
    · have hc := s[k].toNat_lt
      have HN : Asd ((mapP 97 65 (s.data.toList.take (k + 1))) = mapP 97 65 (s.data.toList.take k) ++ [mapC 97 65 s[k]]) := Asd.mk (by rw [take_snocB _ k (by simpa using hlt), mapP_snoc]; rfl)
      have HLK : Asd ((Lib.byteCells (mapP 97 65 (s.data.toList.take k))).length ≤ k) := Asd.mk (by rw [byteCells_lenB, mapP_len, List.length_take]; omega)
      generalize hck : s[k] = c at hc HN
      by_cases h1 : 97 ≤ c.toNat
      · by_cases h2 : c.toNat ≤ 122
        · have HV : Asd (((c.toNat : Int) + 224) % 256 = ((mapC 97 65 c).toNat : Int)) := Asd.mk (by
            unfold mapC
            rw [if_pos ⟨h1, h2⟩, UInt8.toNat_add]
            show _ = (((c.toNat + 224) % 256 : Nat) : Int)
            omega)
          go_wp2_with fail
          rw [HV.out]
          refine (Try.Builder_WriteByte w.heap.size w.heap.size _ _ wr HBD.out (by have := HLK.out; omega) (by have := HBW.out; have := HBR.out.size; omega)).mono ?_
          rintro e w4 ⟨rfl, hbd, hb4⟩
          have HB4 : Asd (Below w.heap.size w w4) := Asd.mk (HBR.out.trans hb4)
          have HBD4 : Asd (Lib.IsBuilder 148 5 w.heap.size w.heap.size (Lib.byteCells (mapP 97 65 (s.data.toList.take (k + 1)))) w4) := Asd.mk (by
            rw [HN.out, byteCells_snocB]
            exact .inr hbd)
          clear hbd hb4
          go_wp2
          go_roundw
          case rel => exact ⟨k + 1, by omega, by go_num, HBD4, HB4⟩
          case measure => simp [intOf]; omega
        · have HV : Asd (mapC 97 65 c = c) := Asd.mk (by unfold mapC; exact if_neg fun h => h2 h.2)
          rw [HV.out] at HN
          go_wp2_with fail
          refine (Try.Builder_WriteByte w.heap.size w.heap.size _ _ wr HBD.out (by have := HLK.out; omega) (by have := HBW.out; have := HBR.out.size; omega)).mono ?_
          rintro e w4 ⟨rfl, hbd, hb4⟩
          have HB4 : Asd (Below w.heap.size w w4) := Asd.mk (HBR.out.trans hb4)
          have HBD4 : Asd (Lib.IsBuilder 148 5 w.heap.size w.heap.size (Lib.byteCells (mapP 97 65 (s.data.toList.take (k + 1)))) w4) := Asd.mk (by
            rw [HN.out, byteCells_snocB]
            exact .inr hbd)
          clear hbd hb4
          go_wp2
          go_roundw
          case rel => exact ⟨k + 1, by omega, by go_num, HBD4, HB4⟩
          case measure => simp [intOf]; omega
      · have HV : Asd (mapC 97 65 c = c) := Asd.mk (by unfold mapC; exact if_neg fun h => h1 h.1)
        rw [HV.out] at HN
        go_wp2_with fail
        refine (Try.Builder_WriteByte w.heap.size w.heap.size _ _ wr HBD.out (by have := HLK.out; omega) (by have := HBW.out; have := HBR.out.size; omega)).mono ?_
        rintro e w4 ⟨rfl, hbd, hb4⟩
        have HB4 : Asd (Below w.heap.size w w4) := Asd.mk (HBR.out.trans hb4)
        have HBD4 : Asd (Lib.IsBuilder 148 5 w.heap.size w.heap.size (Lib.byteCells (mapP 97 65 (s.data.toList.take (k + 1)))) w4) := Asd.mk (by
          rw [HN.out, byteCells_snocB]
          exact .inr hbd)
        clear hbd hb4
        go_wp2
        go_roundw
        case rel => exact ⟨k + 1, by omega, by go_num, HBD4, HB4⟩
        case measure => simp [intOf]; omega
    · obtain rfl : k = s.size := by omega
      have HT : Asd (s.data.toList.take s.size = s.data.toList) := Asd.mk (List.take_of_length_le (Nat.le_of_eq (show s.data.toList.length = s.size from rfl)))
      rw [HT.out] at HBD
      go_wp2_with fail
      refine (Try.Builder_String_any w.heap.size w.heap.size _ wr HBD.out (by have := HBW.out; have := HBR.out.size; omega)).mono ?_
      rintro e w5 ⟨rfl, hb5⟩
      go_wp2
      go_ret
      exact ⟨rfl, HBR.out.trans hb5⟩
set_option maxRecDepth 100000 in
set_option maxHeartbeats 3200000 in
theorem mapped_low (s : ByteArray) (hs : s.size ≤ reachBytes) (w : World) : Calls Try.prog 112 #[.string s, .int .u8 65, .int .u8 97] w fun e w' => e = .returned (.string ⟨(mapP 65 97 s.data.toList).toArray⟩) ∧ Below w.heap.size w w' := by
  have hs : s.size ≤ 140737488351232 := hs
  have HBF := Asd.mk (bld_freshB w)
  have HB : Asd (Below w.heap.size w (w.alloc (.cells #[.pointer none, .slice none 0 0] 148))) := Asd.mk (below_alloc (Below.refl _ _) _)
  go_enter Try.func112, Try.ntmps112
  go_upto_region 2 with fail
  generalize w.alloc (.cells #[.pointer none, .slice none 0 0] 148) = w1 at HBF HB ⊢
  have HBW : Asd (w.heap.size ≤ w1.heap.size) := Asd.mk HB.out.size
  go_wp2
  go_loopw [12] (fun i wr => ∃ k : Nat, k ≤ s.size ∧ i = .int .i64 (k : Int) ∧ Asd (Lib.IsBuilder 148 5 w.heap.size w.heap.size (Lib.byteCells (mapP 65 97 (s.data.toList.take k))) wr) ∧ Asd (Below w.heap.size w wr)) (fun i _ => s.size - (intOf i).toNat)
  case atStart => exact ⟨0, by omega, rfl, ⟨HBF.out⟩, ⟨HB.out⟩⟩
  case round =>
    obtain ⟨k, hk, rfl, HBD, HBR⟩ := hrel
    by_cases hlt : k < s.size
    · have hc := s[k].toNat_lt
      have HN : Asd ((mapP 65 97 (s.data.toList.take (k + 1))) = mapP 65 97 (s.data.toList.take k) ++ [mapC 65 97 s[k]]) := Asd.mk (by rw [take_snocB _ k (by simpa using hlt), mapP_snoc]; rfl)
      have HLK : Asd ((Lib.byteCells (mapP 65 97 (s.data.toList.take k))).length ≤ k) := Asd.mk (by rw [byteCells_lenB, mapP_len, List.length_take]; omega)
      generalize hck : s[k] = c at hc HN
      by_cases h1 : 65 ≤ c.toNat
      · by_cases h2 : c.toNat ≤ 90
        · have HV : Asd (((c.toNat : Int) + 32) = ((mapC 65 97 c).toNat : Int)) := Asd.mk (by
            unfold mapC
            rw [if_pos ⟨h1, h2⟩, UInt8.toNat_add]
            show _ = (((c.toNat + 32) % 256 : Nat) : Int)
            omega)
          go_wp2_with fail
          rw [HV.out]
          refine (Try.Builder_WriteByte w.heap.size w.heap.size _ _ wr HBD.out (by have := HLK.out; omega) (by have := HBW.out; have := HBR.out.size; omega)).mono ?_
          rintro e w4 ⟨rfl, hbd, hb4⟩
          have HB4 : Asd (Below w.heap.size w w4) := Asd.mk (HBR.out.trans hb4)
          have HBD4 : Asd (Lib.IsBuilder 148 5 w.heap.size w.heap.size (Lib.byteCells (mapP 65 97 (s.data.toList.take (k + 1)))) w4) := Asd.mk (by
            rw [HN.out, byteCells_snocB]
            exact .inr hbd)
          clear hbd hb4
          go_wp2
          go_roundw
          case rel => exact ⟨k + 1, by omega, by go_num, HBD4, HB4⟩
          case measure => simp [intOf]; omega
        · have HV : Asd (mapC 65 97 c = c) := Asd.mk (by unfold mapC; exact if_neg fun h => h2 h.2)
          rw [HV.out] at HN
          go_wp2_with fail
          refine (Try.Builder_WriteByte w.heap.size w.heap.size _ _ wr HBD.out (by have := HLK.out; omega) (by have := HBW.out; have := HBR.out.size; omega)).mono ?_
          rintro e w4 ⟨rfl, hbd, hb4⟩
          have HB4 : Asd (Below w.heap.size w w4) := Asd.mk (HBR.out.trans hb4)
          have HBD4 : Asd (Lib.IsBuilder 148 5 w.heap.size w.heap.size (Lib.byteCells (mapP 65 97 (s.data.toList.take (k + 1)))) w4) := Asd.mk (by
            rw [HN.out, byteCells_snocB]
            exact .inr hbd)
          clear hbd hb4
          go_wp2
          go_roundw
          case rel => exact ⟨k + 1, by omega, by go_num, HBD4, HB4⟩
          case measure => simp [intOf]; omega
      · have HV : Asd (mapC 65 97 c = c) := Asd.mk (by unfold mapC; exact if_neg fun h => h1 h.1)
        rw [HV.out] at HN
        go_wp2_with fail
        refine (Try.Builder_WriteByte w.heap.size w.heap.size _ _ wr HBD.out (by have := HLK.out; omega) (by have := HBW.out; have := HBR.out.size; omega)).mono ?_
        rintro e w4 ⟨rfl, hbd, hb4⟩
        have HB4 : Asd (Below w.heap.size w w4) := Asd.mk (HBR.out.trans hb4)
        have HBD4 : Asd (Lib.IsBuilder 148 5 w.heap.size w.heap.size (Lib.byteCells (mapP 65 97 (s.data.toList.take (k + 1)))) w4) := Asd.mk (by
          rw [HN.out, byteCells_snocB]
          exact .inr hbd)
        clear hbd hb4
        go_wp2
        go_roundw
        case rel => exact ⟨k + 1, by omega, by go_num, HBD4, HB4⟩
        case measure => simp [intOf]; omega
    · obtain rfl : k = s.size := by omega
      have HT : Asd (s.data.toList.take s.size = s.data.toList) := Asd.mk (List.take_of_length_le (Nat.le_of_eq (show s.data.toList.length = s.size from rfl)))
      rw [HT.out] at HBD
      go_wp2_with fail
      refine (Try.Builder_String_any w.heap.size w.heap.size _ wr HBD.out (by have := HBW.out; have := HBR.out.size; omega)).mono ?_
      rintro e w5 ⟨rfl, hb5⟩
      go_wp2
      go_ret
      exact ⟨rfl, HBR.out.trans hb5⟩
theorem args_calls (f : Int) (h : 1 ≤ f) (h' : f ≤ 5) (w : World) : Calls Try.prog 67 #[.int .i64 f] w fun e w' => e = .returned (.int .i64 ((opn f.toNat : Nat) : Int)) ∧ w' = w := by
  rcases (show f = 1 ∨ f = 2 ∨ f = 3 ∨ f = 4 ∨ f = 5 by omega) with rfl | rfl | rfl | rfl | rfl
  all_goals
    go_enter Try.func67, Try.ntmps67
    go_wp2
    go_ret
    exact ⟨rfl, rfl⟩
end Go.Proofs.Ytinflndbfdbnhaa.Exp

/- quarryref02.letters. -/
set_option linter.unusedVariables false
set_option linter.unusedSimpArgs false
namespace Go.Proofs.Ytinflndbfdbnhaa.Exp
open Go.RowKit Go.Proofs.Ytinflndbfdbnhaa.Base Go.Proofs.Ytinflndbfdbnhaa.App Go.Proofs.Ytinflndbfdbnhaa.Byt Go.Proofs.Ytinflndbfdbnhaa.Lex
set_option maxRecDepth 100000 in
set_option maxHeartbeats 6400000 in
theorem rletters_up (s : ByteArray) (hs : s.size ≤ 140737488351232) (w : World) : Calls Try.prog 81 #[.string s, .int .u8 97, .int .u8 65] w fun e w' => e = .returned (.string ⟨(mapP 97 65 s.data.toList).toArray⟩) ∧ Below w.heap.size w w' := by
  go_enter Try.func81, Try.ntmps81
  go_wp2
  go_loopw [7, 8] (fun v i wr => ∃ (k c : Nat) (A : Option Addr), k ≤ s.size ∧ i = .int .i64 (k : Int) ∧ v = .slice A k c ∧ Asd (wr.ownsRow w.heap.size 5 1 (.slice A k c) k (bcells (mapP 97 65 (s.data.toList.take k)))) ∧ Asd (Below w.heap.size w wr)) (fun _ i _ => s.size - (intOf i).toNat)
  case atStart => exact ⟨0, 0, none, by omega, rfl, rfl, ⟨World.ownsRow_nil _ _ _ _⟩, ⟨Below.refl _ _⟩⟩
  case round =>
    obtain ⟨k, c, A, hk, rfl, rfl, HO, HBR⟩ := hrel
    have hsz : w.heap.size ≤ wr.heap.size := HBR.out.size
    by_cases hlt : k < s.size
    · have hc := s[k].toNat_lt
      have HN : Asd ((mapP 97 65 (s.data.toList.take (k + 1))) = mapP 97 65 (s.data.toList.take k) ++ [mapC 97 65 s[k]]) := Asd.mk (by rw [take_snocB _ k (by simpa using hlt), mapP_snoc]; rfl)
      generalize hck : s[k] = b at hc HN
      by_cases h1 : 97 ≤ b.toNat
      · by_cases h2 : b.toNat < 123
        · have HV : Asd ((b.toNat : Int) - 97 + 65 = ((mapC 97 65 b).toNat : Int)) := Asd.mk (by
            unfold mapC
            rw [if_pos ⟨h1, by show b.toNat ≤ 97 + 25; omega⟩, UInt8.toNat_add]
            show _ = (((b.toNat + 224) % 256 : Nat) : Int)
            omega)
          go_upto_region 8 with fail
          rw [HV.out]
          generalize mapC 97 65 b = d at HN ⊢
          have HOA := Asd.mk (HO.out.alloc (.cells #[.int .u8 (d.toNat : Int)] 5))
          have HF := Asd.mk (Feeds.of_block (size := 1) (m := 1) (c := 1) (blk_new wr (.cells #[.int .u8 (d.toNat : Int)] 5)) rfl (by simp [Value.oneCell']))
          go_wp2_with (at_builtin; refine wpList_src rfl (.tmp 33) (.tmp 35) _ rfl rowB _ rfl HOA.out (some ⟨wr.heap.size, 0, none⟩) 1 1 rfl HF.out (by unfold maxLen; omega) (by omega) (by simp; omega) ?_)
          intro A9 c9 w9 ho9 hg9
          have HO9 : Asd (w9.ownsRow w.heap.size 5 1 (.slice A9 (k + 1) c9) (k + 1) (bcells (mapP 97 65 (s.data.toList.take (k + 1))))) := Asd.mk (by
            rw [HN.out]
            simpa [bcells, bcell] using ho9)
          have HB9 : Asd (Below w.heap.size w w9) := Asd.mk (below_own (below_alloc HBR.out _) HOA.out hg9 (Nat.le_refl _))
          clear ho9 hg9
          go_wp2
          go_roundw
          case rel => exact ⟨k + 1, _, _, by omega, by go_num, rfl, HO9, HB9⟩
          case measure => simp [intOf]; omega
        · have HV : Asd (mapC 97 65 b = b) := Asd.mk (by unfold mapC; exact if_neg fun h => h2 (by have : b.toNat ≤ 97 + 25 := h.2; omega))
          rw [HV.out] at HN
          have HOA := Asd.mk (HO.out.alloc (.cells #[.int .u8 (b.toNat : Int)] 5))
          have HF := Asd.mk (Feeds.of_block (size := 1) (m := 1) (c := 1) (blk_new wr (.cells #[.int .u8 (b.toNat : Int)] 5)) rfl (by simp [Value.oneCell']))
          go_wp2_with (at_builtin; refine wpList_src rfl (.tmp 33) (.tmp 35) _ rfl rowB _ rfl HOA.out (some ⟨wr.heap.size, 0, none⟩) 1 1 rfl HF.out (by unfold maxLen; omega) (by omega) (by simp; omega) ?_)
          intro A9 c9 w9 ho9 hg9
          have HO9 : Asd (w9.ownsRow w.heap.size 5 1 (.slice A9 (k + 1) c9) (k + 1) (bcells (mapP 97 65 (s.data.toList.take (k + 1))))) := Asd.mk (by
            rw [HN.out]
            simpa [bcells, bcell] using ho9)
          have HB9 : Asd (Below w.heap.size w w9) := Asd.mk (below_own (below_alloc HBR.out _) HOA.out hg9 (Nat.le_refl _))
          clear ho9 hg9
          go_wp2
          go_roundw
          case rel => exact ⟨k + 1, _, _, by omega, by go_num, rfl, HO9, HB9⟩
          case measure => simp [intOf]; omega
      · have HV : Asd (mapC 97 65 b = b) := Asd.mk (by unfold mapC; exact if_neg fun h => h1 h.1)
        rw [HV.out] at HN
        have HOA := Asd.mk (HO.out.alloc (.cells #[.int .u8 (b.toNat : Int)] 5))
        have HF := Asd.mk (Feeds.of_block (size := 1) (m := 1) (c := 1) (blk_new wr (.cells #[.int .u8 (b.toNat : Int)] 5)) rfl (by simp [Value.oneCell']))
        go_wp2_with (at_builtin; refine wpList_src rfl (.tmp 33) (.tmp 35) _ rfl rowB _ rfl HOA.out (some ⟨wr.heap.size, 0, none⟩) 1 1 rfl HF.out (by unfold maxLen; omega) (by omega) (by simp; omega) ?_)
        intro A9 c9 w9 ho9 hg9
        have HO9 : Asd (w9.ownsRow w.heap.size 5 1 (.slice A9 (k + 1) c9) (k + 1) (bcells (mapP 97 65 (s.data.toList.take (k + 1))))) := Asd.mk (by
          rw [HN.out]
          simpa [bcells, bcell] using ho9)
        have HB9 : Asd (Below w.heap.size w w9) := Asd.mk (below_own (below_alloc HBR.out _) HOA.out hg9 (Nat.le_refl _))
        clear ho9 hg9
        go_wp2
        go_roundw
        case rel => exact ⟨k + 1, _, _, by omega, by go_num, rfl, HO9, HB9⟩
        case measure => simp [intOf]; omega
    · obtain rfl : k = s.size := by omega
      have HTK := Asd.mk (List.take_of_length_le (Nat.le_of_eq (show s.data.toList.length = s.size from rfl)))
      clear hlt
      have HO9 := HO.out
      rw [HTK.out] at HO9
      obtain ⟨A8, c8, e8, hib, _⟩ := of_own HO9 (by omega)
      injection e8 with e1 e2 e3
      subst e1 e3
      have hcv := run_string 134 9 5 Try.underlying134 Try.underlying5 Try.underlying9 c hib
      clear HO9 hib
      generalize hrr : (⟨(mapP 97 65 s.data.toList).toArray⟩ : ByteArray) = rr at hcv
      have HRR := Asd.mk hrr
      clear hrr
      go_wp2
      go_ret
      exact ⟨ret_eq (by rw [HRR.out]; rfl), HBR.out⟩
set_option maxRecDepth 100000 in
set_option maxHeartbeats 6400000 in
theorem rletters_low (s : ByteArray) (hs : s.size ≤ 140737488351232) (w : World) : Calls Try.prog 81 #[.string s, .int .u8 65, .int .u8 97] w fun e w' => e = .returned (.string ⟨(mapP 65 97 s.data.toList).toArray⟩) ∧ Below w.heap.size w w' := by
  go_enter Try.func81, Try.ntmps81
  go_wp2
  go_loopw [7, 8] (fun v i wr => ∃ (k c : Nat) (A : Option Addr), k ≤ s.size ∧ i = .int .i64 (k : Int) ∧ v = .slice A k c ∧ Asd (wr.ownsRow w.heap.size 5 1 (.slice A k c) k (bcells (mapP 65 97 (s.data.toList.take k)))) ∧ Asd (Below w.heap.size w wr)) (fun _ i _ => s.size - (intOf i).toNat)
  case atStart => exact ⟨0, 0, none, by omega, rfl, rfl, ⟨World.ownsRow_nil _ _ _ _⟩, ⟨Below.refl _ _⟩⟩
  case round =>
    obtain ⟨k, c, A, hk, rfl, rfl, HO, HBR⟩ := hrel
    have hsz : w.heap.size ≤ wr.heap.size := HBR.out.size
    by_cases hlt : k < s.size
    · have hc := s[k].toNat_lt
      have HN : Asd ((mapP 65 97 (s.data.toList.take (k + 1))) = mapP 65 97 (s.data.toList.take k) ++ [mapC 65 97 s[k]]) := Asd.mk (by rw [take_snocB _ k (by simpa using hlt), mapP_snoc]; rfl)
      generalize hck : s[k] = b at hc HN
      by_cases h1 : 65 ≤ b.toNat
      · by_cases h2 : b.toNat < 91
        · have HV : Asd ((b.toNat : Int) - 65 + 97 = ((mapC 65 97 b).toNat : Int)) := Asd.mk (by
            unfold mapC
            rw [if_pos ⟨h1, by show b.toNat ≤ 65 + 25; omega⟩, UInt8.toNat_add]
            show _ = (((b.toNat + 32) % 256 : Nat) : Int)
            omega)
          go_upto_region 8 with fail
          rw [HV.out]
          generalize mapC 65 97 b = d at HN ⊢
          have HOA := Asd.mk (HO.out.alloc (.cells #[.int .u8 (d.toNat : Int)] 5))
          have HF := Asd.mk (Feeds.of_block (size := 1) (m := 1) (c := 1) (blk_new wr (.cells #[.int .u8 (d.toNat : Int)] 5)) rfl (by simp [Value.oneCell']))
          go_wp2_with (at_builtin; refine wpList_src rfl (.tmp 33) (.tmp 35) _ rfl rowB _ rfl HOA.out (some ⟨wr.heap.size, 0, none⟩) 1 1 rfl HF.out (by unfold maxLen; omega) (by omega) (by simp; omega) ?_)
          intro A9 c9 w9 ho9 hg9
          have HO9 : Asd (w9.ownsRow w.heap.size 5 1 (.slice A9 (k + 1) c9) (k + 1) (bcells (mapP 65 97 (s.data.toList.take (k + 1))))) := Asd.mk (by
            rw [HN.out]
            simpa [bcells, bcell] using ho9)
          have HB9 : Asd (Below w.heap.size w w9) := Asd.mk (below_own (below_alloc HBR.out _) HOA.out hg9 (Nat.le_refl _))
          clear ho9 hg9
          go_wp2
          go_roundw
          case rel => exact ⟨k + 1, _, _, by omega, by go_num, rfl, HO9, HB9⟩
          case measure => simp [intOf]; omega
        · have HV : Asd (mapC 65 97 b = b) := Asd.mk (by unfold mapC; exact if_neg fun h => h2 (by have : b.toNat ≤ 65 + 25 := h.2; omega))
          rw [HV.out] at HN
          have HOA := Asd.mk (HO.out.alloc (.cells #[.int .u8 (b.toNat : Int)] 5))
          have HF := Asd.mk (Feeds.of_block (size := 1) (m := 1) (c := 1) (blk_new wr (.cells #[.int .u8 (b.toNat : Int)] 5)) rfl (by simp [Value.oneCell']))
          go_wp2_with (at_builtin; refine wpList_src rfl (.tmp 33) (.tmp 35) _ rfl rowB _ rfl HOA.out (some ⟨wr.heap.size, 0, none⟩) 1 1 rfl HF.out (by unfold maxLen; omega) (by omega) (by simp; omega) ?_)
          intro A9 c9 w9 ho9 hg9
          have HO9 : Asd (w9.ownsRow w.heap.size 5 1 (.slice A9 (k + 1) c9) (k + 1) (bcells (mapP 65 97 (s.data.toList.take (k + 1))))) := Asd.mk (by
            rw [HN.out]
            simpa [bcells, bcell] using ho9)
          have HB9 : Asd (Below w.heap.size w w9) := Asd.mk (below_own (below_alloc HBR.out _) HOA.out hg9 (Nat.le_refl _))
          clear ho9 hg9
          go_wp2
          go_roundw
          case rel => exact ⟨k + 1, _, _, by omega, by go_num, rfl, HO9, HB9⟩
          case measure => simp [intOf]; omega
      · have HV : Asd (mapC 65 97 b = b) := Asd.mk (by unfold mapC; exact if_neg fun h => h1 h.1)
        rw [HV.out] at HN
        have HOA := Asd.mk (HO.out.alloc (.cells #[.int .u8 (b.toNat : Int)] 5))
        have HF := Asd.mk (Feeds.of_block (size := 1) (m := 1) (c := 1) (blk_new wr (.cells #[.int .u8 (b.toNat : Int)] 5)) rfl (by simp [Value.oneCell']))
        go_wp2_with (at_builtin; refine wpList_src rfl (.tmp 33) (.tmp 35) _ rfl rowB _ rfl HOA.out (some ⟨wr.heap.size, 0, none⟩) 1 1 rfl HF.out (by unfold maxLen; omega) (by omega) (by simp; omega) ?_)
        intro A9 c9 w9 ho9 hg9
        have HO9 : Asd (w9.ownsRow w.heap.size 5 1 (.slice A9 (k + 1) c9) (k + 1) (bcells (mapP 65 97 (s.data.toList.take (k + 1))))) := Asd.mk (by
          rw [HN.out]
          simpa [bcells, bcell] using ho9)
        have HB9 : Asd (Below w.heap.size w w9) := Asd.mk (below_own (below_alloc HBR.out _) HOA.out hg9 (Nat.le_refl _))
        clear ho9 hg9
        go_wp2
        go_roundw
        case rel => exact ⟨k + 1, _, _, by omega, by go_num, rfl, HO9, HB9⟩
        case measure => simp [intOf]; omega
    · obtain rfl : k = s.size := by omega
      have HTK := Asd.mk (List.take_of_length_le (Nat.le_of_eq (show s.data.toList.length = s.size from rfl)))
      clear hlt
      have HO9 := HO.out
      rw [HTK.out] at HO9
      obtain ⟨A8, c8, e8, hib, _⟩ := of_own HO9 (by omega)
      injection e8 with e1 e2 e3
      subst e1 e3
      have hcv := run_string 134 9 5 Try.underlying134 Try.underlying5 Try.underlying9 c hib
      clear HO9 hib
      generalize hrr : (⟨(mapP 65 97 s.data.toList).toArray⟩ : ByteArray) = rr at hcv
      have HRR := Asd.mk hrr
      clear hrr
      go_wp2
      go_ret
      exact ⟨ret_eq (by rw [HRR.out]; rfl), HBR.out⟩
end Go.Proofs.Ytinflndbfdbnhaa.Exp
