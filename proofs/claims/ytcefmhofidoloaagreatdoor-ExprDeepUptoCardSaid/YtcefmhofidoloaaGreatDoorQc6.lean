/- Texts put together: Rd16. -/
import Derived.Test.YtcefmhofidoloaaGreatDoorQc5
/- The reader of expressions: word. -/
set_option linter.unusedVariables false
set_option linter.unusedSimpArgs false
namespace Go.Proofs.YtcefmhofidoloaaGreatDoor.Exp
open Go.RowKit Go.Proofs.YtcefmhofidoloaaGreatDoor.Base Go.Proofs.YtcefmhofidoloaaGreatDoor.App Go.Proofs.YtcefmhofidoloaaGreatDoor.Byt Go.Proofs.YtcefmhofidoloaaGreatDoor.Lex

theorem funT_bound {s : List UInt8} {f : Int × Int × Nat} (h : funT s = some f) : 1 ≤ f.2.2 ∧ f.2.2 ≤ 3 := by
  unfold funT at h
  repeat' split at h
  all_goals first | (injection h with h; subst h; exact ⟨by decide, by decide⟩) | cases h
/-- Behind the words that are literals: a call, or a column. -/
def wordR (nm : List UInt8 → Bool) (l : Toks) (sub : Option PF) (s : List UInt8) (i : Nat) : Res Ex := match funT s with
  | some f => if isT l (i + 1) 5 [40] then callP l sub f (i + 1) else colP nm l i
  | none => colP nm l i
set_option maxRecDepth 100000 in
set_option maxHeartbeats 6400000 in
theorem word_null (R : Nat) (A : Option Addr) (m c : Nat) (l : Toks) (i d : Nat) (w : World) (hi : i < l.length) (h : RdW w R A m c l i d) :
    Calls Tryz.prog 241 #[.pointer (some ⟨R, 0, none⟩), .string ⟨#[110, 117, 108, 108]⟩] w (Got R A m c l d w (.ok (litE vNull, i + 1))) := by
  have HH := Asd.mk h
  have HRW : Asd (R < w.heap.size) := Asd.mk (blk_lt h.blk)
  have hib : i ≤ 16384 := by have h1 := h.tok.1; have h2 := h.tok.2.1; omega
  have HBA := Asd.mk (below_alloc (Below.refl _ w) (.cells #[.int .i64 0, .int .i64 0, .int .i64 0, .int .i64 0, .string ⟨#[]⟩, .string ⟨#[]⟩, .string ⟨#[]⟩, .int .i64 0, .int .i64 0, .slice none 0 0] 58 (0, 0)))
  have HZ0 := Asd.mk (blk_new w (.cells #[.int .i64 0, .int .i64 0, .int .i64 0, .int .i64 0, .string ⟨#[]⟩, .string ⟨#[]⟩, .string ⟨#[]⟩, .int .i64 0, .int .i64 0, .slice none 0 0] 58 (0, 0)))
  clear h
  have HRA := Asd.mk (HH.out.below HBA.out)
  have r1 := (blk_cell HRA.out.blk 1).trans rfl
  have z1 := blk_frozen HRA.out.blk 1
  have hs := HRA.out.set (j := i + 1) (by omega)
  have HRS := Asd.mk hs.2
  have HFS := Asd.mk (frR_below HBA.out hs.1)
  have HZS := Asd.mk (blk_fr HZ0.out hs.1 (by show ¬ w.heap.size = R; have := HRW.out; omega))
  clear hs
  go_enter Tryz.func241, Tryz.ntmps241
  go_wp2_with fail
  change Calls _ _ _ ((w.alloc (.cells #[.int .i64 0, .int .i64 0, .int .i64 0, .int .i64 0, .string ⟨#[]⟩, .string ⟨#[]⟩, .string ⟨#[]⟩, .int .i64 0, .int .i64 0, .slice none 0 0] 58 (0, 0))).setCell ⟨R, 1, none⟩ (.int .i64 ((i + 1 : Nat) : Int))) _
  generalize ((w.alloc (.cells #[.int .i64 0, .int .i64 0, .int .i64 0, .int .i64 0, .string ⟨#[]⟩, .string ⟨#[]⟩, .string ⟨#[]⟩, .int .i64 0, .int .i64 0, .slice none 0 0] 58 (0, 0))).setCell ⟨R, 1, none⟩ (.int .i64 ((i + 1 : Nat) : Int))) = w3 at HRS HFS HZS ⊢
  refine (literal_calls vNull w3).mono ?_
  rintro e w4 ⟨rfl, hb4⟩
  have HF4 := Asd.mk (below_frR HFS.out hb4)
  have HZ4 := Asd.mk (blk_below hb4 HZS.out)
  have HR4 := Asd.mk (HRS.out.below hb4)
  clear hb4 r1 z1
  unfold exV
  have y0 := (blk_cell HZ4.out 0).trans rfl
  have y1 := (blk_cell HZ4.out 1).trans rfl
  have y2 := (blk_cell HZ4.out 2).trans rfl
  have y3 := (blk_cell HZ4.out 3).trans rfl
  have y4 := (blk_cell HZ4.out 4).trans rfl
  have y5 := (blk_cell HZ4.out 5).trans rfl
  have y6 := (blk_cell HZ4.out 6).trans rfl
  have y7 := (blk_cell HZ4.out 7).trans rfl
  have y8 := (blk_cell HZ4.out 8).trans rfl
  have y9 := (blk_cell HZ4.out 9).trans rfl
  have z0 := blk_frozen HZ4.out 0
  have z1 := blk_frozen HZ4.out 1
  have z2 := blk_frozen HZ4.out 2
  have z3 := blk_frozen HZ4.out 3
  have z4 := blk_frozen HZ4.out 4
  have z5 := blk_frozen HZ4.out 5
  have z6 := blk_frozen HZ4.out 6
  have z7 := blk_frozen HZ4.out 7
  have z8 := blk_frozen HZ4.out 8
  have z9 := blk_frozen HZ4.out 9
  go_wp2
  refine bodyPost_ret (results_cell_row rfl _ _ w.heap.size 58 _ (0, 0) _ rfl (put10_blk HZ4.out _ _ _ _ _ _ _ _ _ _) Tryz.underlying58 rfl (by kernel_rfl)) rfl ?_
  exact fin_got (x := litE vNull) HH.out HF4.out (Nat.le_refl _) HR4.out (.nil _ _)
set_option maxRecDepth 100000 in
set_option maxHeartbeats 6400000 in
theorem word_true (R : Nat) (A : Option Addr) (m c : Nat) (l : Toks) (i d : Nat) (w : World) (hi : i < l.length) (h : RdW w R A m c l i d) :
    Calls Tryz.prog 241 #[.pointer (some ⟨R, 0, none⟩), .string ⟨#[116, 114, 117, 101]⟩] w (Got R A m c l d w (.ok (litE (⟨1, 1, []⟩ : Vl), i + 1))) := by
  have HH := Asd.mk h
  have HRW : Asd (R < w.heap.size) := Asd.mk (blk_lt h.blk)
  have hib : i ≤ 16384 := by have h1 := h.tok.1; have h2 := h.tok.2.1; omega
  have HBA := Asd.mk (below_alloc (Below.refl _ w) (.cells #[.int .i64 0, .int .i64 0, .int .i64 0, .int .i64 0, .string ⟨#[]⟩, .string ⟨#[]⟩, .string ⟨#[]⟩, .int .i64 0, .int .i64 0, .slice none 0 0] 58 (0, 0)))
  have HZ0 := Asd.mk (blk_new w (.cells #[.int .i64 0, .int .i64 0, .int .i64 0, .int .i64 0, .string ⟨#[]⟩, .string ⟨#[]⟩, .string ⟨#[]⟩, .int .i64 0, .int .i64 0, .slice none 0 0] 58 (0, 0)))
  clear h
  have HRA := Asd.mk (HH.out.below HBA.out)
  have r1 := (blk_cell HRA.out.blk 1).trans rfl
  have z1 := blk_frozen HRA.out.blk 1
  have hs := HRA.out.set (j := i + 1) (by omega)
  have HRS := Asd.mk hs.2
  have HFS := Asd.mk (frR_below HBA.out hs.1)
  have HZS := Asd.mk (blk_fr HZ0.out hs.1 (by show ¬ w.heap.size = R; have := HRW.out; omega))
  clear hs
  go_enter Tryz.func241, Tryz.ntmps241
  have HBV := Asd.mk fun (o : Obj) => below_alloc (Below.refl _ ((w.alloc (.cells #[.int .i64 0, .int .i64 0, .int .i64 0, .int .i64 0, .string ⟨#[]⟩, .string ⟨#[]⟩, .string ⟨#[]⟩, .int .i64 0, .int .i64 0, .slice none 0 0] 58 (0, 0))).setCell ⟨R, 1, none⟩ (.int .i64 ((i + 1 : Nat) : Int)))) o
  go_wp2_with fail
  change Calls _ _ _ (((w.alloc (.cells #[.int .i64 0, .int .i64 0, .int .i64 0, .int .i64 0, .string ⟨#[]⟩, .string ⟨#[]⟩, .string ⟨#[]⟩, .int .i64 0, .int .i64 0, .slice none 0 0] 58 (0, 0))).setCell ⟨R, 1, none⟩ (.int .i64 ((i + 1 : Nat) : Int))).alloc (.cells #[.int .i64 1, .int .i64 1, .string ⟨#[]⟩] 56 (0, 0))) _
  have HRS2 := Asd.mk (HRS.out.below (HBV.out (.cells #[.int .i64 1, .int .i64 1, .string ⟨#[]⟩] 56 (0, 0))))
  have HFS2 := Asd.mk (below_frR HFS.out (HBV.out (.cells #[.int .i64 1, .int .i64 1, .string ⟨#[]⟩] 56 (0, 0))))
  have HZS2 := Asd.mk (blk_below (HBV.out (.cells #[.int .i64 1, .int .i64 1, .string ⟨#[]⟩] 56 (0, 0))) HZS.out)
  clear HBV HRS HFS HZS
  generalize ((w.alloc (.cells #[.int .i64 0, .int .i64 0, .int .i64 0, .int .i64 0, .string ⟨#[]⟩, .string ⟨#[]⟩, .string ⟨#[]⟩, .int .i64 0, .int .i64 0, .slice none 0 0] 58 (0, 0))).setCell ⟨R, 1, none⟩ (.int .i64 ((i + 1 : Nat) : Int))).alloc (.cells #[.int .i64 1, .int .i64 1, .string ⟨#[]⟩] 56 (0, 0)) = w3 at HRS2 HFS2 HZS2 ⊢
  have HRS := HRS2
  have HFS := HFS2
  have HZS := HZS2
  refine (literal_calls (⟨1, 1, []⟩ : Vl) w3).mono ?_
  rintro e w4 ⟨rfl, hb4⟩
  have HF4 := Asd.mk (below_frR HFS.out hb4)
  have HZ4 := Asd.mk (blk_below hb4 HZS.out)
  have HR4 := Asd.mk (HRS.out.below hb4)
  clear hb4 r1 z1
  unfold exV
  have y0 := (blk_cell HZ4.out 0).trans rfl
  have y1 := (blk_cell HZ4.out 1).trans rfl
  have y2 := (blk_cell HZ4.out 2).trans rfl
  have y3 := (blk_cell HZ4.out 3).trans rfl
  have y4 := (blk_cell HZ4.out 4).trans rfl
  have y5 := (blk_cell HZ4.out 5).trans rfl
  have y6 := (blk_cell HZ4.out 6).trans rfl
  have y7 := (blk_cell HZ4.out 7).trans rfl
  have y8 := (blk_cell HZ4.out 8).trans rfl
  have y9 := (blk_cell HZ4.out 9).trans rfl
  have z0 := blk_frozen HZ4.out 0
  have z1 := blk_frozen HZ4.out 1
  have z2 := blk_frozen HZ4.out 2
  have z3 := blk_frozen HZ4.out 3
  have z4 := blk_frozen HZ4.out 4
  have z5 := blk_frozen HZ4.out 5
  have z6 := blk_frozen HZ4.out 6
  have z7 := blk_frozen HZ4.out 7
  have z8 := blk_frozen HZ4.out 8
  have z9 := blk_frozen HZ4.out 9
  go_wp2
  refine bodyPost_ret (results_cell_row rfl _ _ w.heap.size 58 _ (0, 0) _ rfl (put10_blk HZ4.out _ _ _ _ _ _ _ _ _ _) Tryz.underlying58 rfl (by kernel_rfl)) rfl ?_
  exact fin_got (x := litE (⟨1, 1, []⟩ : Vl)) HH.out HF4.out (Nat.le_refl _) HR4.out (.nil _ _)
set_option maxRecDepth 100000 in
set_option maxHeartbeats 6400000 in
theorem word_false (R : Nat) (A : Option Addr) (m c : Nat) (l : Toks) (i d : Nat) (w : World) (hi : i < l.length) (h : RdW w R A m c l i d) :
    Calls Tryz.prog 241 #[.pointer (some ⟨R, 0, none⟩), .string ⟨#[102, 97, 108, 115, 101]⟩] w (Got R A m c l d w (.ok (litE (⟨1, 0, []⟩ : Vl), i + 1))) := by
  have HH := Asd.mk h
  have HRW : Asd (R < w.heap.size) := Asd.mk (blk_lt h.blk)
  have hib : i ≤ 16384 := by have h1 := h.tok.1; have h2 := h.tok.2.1; omega
  have HBA := Asd.mk (below_alloc (Below.refl _ w) (.cells #[.int .i64 0, .int .i64 0, .int .i64 0, .int .i64 0, .string ⟨#[]⟩, .string ⟨#[]⟩, .string ⟨#[]⟩, .int .i64 0, .int .i64 0, .slice none 0 0] 58 (0, 0)))
  have HZ0 := Asd.mk (blk_new w (.cells #[.int .i64 0, .int .i64 0, .int .i64 0, .int .i64 0, .string ⟨#[]⟩, .string ⟨#[]⟩, .string ⟨#[]⟩, .int .i64 0, .int .i64 0, .slice none 0 0] 58 (0, 0)))
  clear h
  have HRA := Asd.mk (HH.out.below HBA.out)
  have r1 := (blk_cell HRA.out.blk 1).trans rfl
  have z1 := blk_frozen HRA.out.blk 1
  have hs := HRA.out.set (j := i + 1) (by omega)
  have HRS := Asd.mk hs.2
  have HFS := Asd.mk (frR_below HBA.out hs.1)
  have HZS := Asd.mk (blk_fr HZ0.out hs.1 (by show ¬ w.heap.size = R; have := HRW.out; omega))
  clear hs
  go_enter Tryz.func241, Tryz.ntmps241
  have HBV := Asd.mk fun (o : Obj) => below_alloc (Below.refl _ ((w.alloc (.cells #[.int .i64 0, .int .i64 0, .int .i64 0, .int .i64 0, .string ⟨#[]⟩, .string ⟨#[]⟩, .string ⟨#[]⟩, .int .i64 0, .int .i64 0, .slice none 0 0] 58 (0, 0))).setCell ⟨R, 1, none⟩ (.int .i64 ((i + 1 : Nat) : Int)))) o
  go_wp2_with fail
  change Calls _ _ _ (((w.alloc (.cells #[.int .i64 0, .int .i64 0, .int .i64 0, .int .i64 0, .string ⟨#[]⟩, .string ⟨#[]⟩, .string ⟨#[]⟩, .int .i64 0, .int .i64 0, .slice none 0 0] 58 (0, 0))).setCell ⟨R, 1, none⟩ (.int .i64 ((i + 1 : Nat) : Int))).alloc (.cells #[.int .i64 1, .int .i64 0, .string ⟨#[]⟩] 56 (0, 0))) _
  have HRS2 := Asd.mk (HRS.out.below (HBV.out (.cells #[.int .i64 1, .int .i64 0, .string ⟨#[]⟩] 56 (0, 0))))
  have HFS2 := Asd.mk (below_frR HFS.out (HBV.out (.cells #[.int .i64 1, .int .i64 0, .string ⟨#[]⟩] 56 (0, 0))))
  have HZS2 := Asd.mk (blk_below (HBV.out (.cells #[.int .i64 1, .int .i64 0, .string ⟨#[]⟩] 56 (0, 0))) HZS.out)
  clear HBV HRS HFS HZS
  generalize ((w.alloc (.cells #[.int .i64 0, .int .i64 0, .int .i64 0, .int .i64 0, .string ⟨#[]⟩, .string ⟨#[]⟩, .string ⟨#[]⟩, .int .i64 0, .int .i64 0, .slice none 0 0] 58 (0, 0))).setCell ⟨R, 1, none⟩ (.int .i64 ((i + 1 : Nat) : Int))).alloc (.cells #[.int .i64 1, .int .i64 0, .string ⟨#[]⟩] 56 (0, 0)) = w3 at HRS2 HFS2 HZS2 ⊢
  have HRS := HRS2
  have HFS := HFS2
  have HZS := HZS2
  refine (literal_calls (⟨1, 0, []⟩ : Vl) w3).mono ?_
  rintro e w4 ⟨rfl, hb4⟩
  have HF4 := Asd.mk (below_frR HFS.out hb4)
  have HZ4 := Asd.mk (blk_below hb4 HZS.out)
  have HR4 := Asd.mk (HRS.out.below hb4)
  clear hb4 r1 z1
  unfold exV
  have y0 := (blk_cell HZ4.out 0).trans rfl
  have y1 := (blk_cell HZ4.out 1).trans rfl
  have y2 := (blk_cell HZ4.out 2).trans rfl
  have y3 := (blk_cell HZ4.out 3).trans rfl
  have y4 := (blk_cell HZ4.out 4).trans rfl
  have y5 := (blk_cell HZ4.out 5).trans rfl
  have y6 := (blk_cell HZ4.out 6).trans rfl
  have y7 := (blk_cell HZ4.out 7).trans rfl
  have y8 := (blk_cell HZ4.out 8).trans rfl
  have y9 := (blk_cell HZ4.out 9).trans rfl
  have z0 := blk_frozen HZ4.out 0
  have z1 := blk_frozen HZ4.out 1
  have z2 := blk_frozen HZ4.out 2
  have z3 := blk_frozen HZ4.out 3
  have z4 := blk_frozen HZ4.out 4
  have z5 := blk_frozen HZ4.out 5
  have z6 := blk_frozen HZ4.out 6
  have z7 := blk_frozen HZ4.out 7
  have z8 := blk_frozen HZ4.out 8
  have z9 := blk_frozen HZ4.out 9
  go_wp2
  refine bodyPost_ret (results_cell_row rfl _ _ w.heap.size 58 _ (0, 0) _ rfl (put10_blk HZ4.out _ _ _ _ _ _ _ _ _ _) Tryz.underlying58 rfl (by kernel_rfl)) rfl ?_
  exact fin_got (x := litE (⟨1, 0, []⟩ : Vl)) HH.out HF4.out (Nat.le_refl _) HR4.out (.nil _ _)
set_option maxRecDepth 100000 in
set_option maxHeartbeats 12800000 in
theorem word_rest (R : Nat) (A : Option Addr) (m c : Nat) (l : Toks) (sub : Option PF) (i d : Nat) (s : List UInt8) (w : World) (hnear : Near l) (hi : i < l.length)
    (h1 : s ≠ [110, 117, 108, 108]) (h2 : s ≠ [116, 114, 117, 101]) (h3 : s ≠ [102, 97, 108, 115, 101])
    (hcall : ∀ (w : World) (j : Nat) (f : Int × Int × Nat), 1 ≤ f.2.2 ∧ f.2.2 ≤ 3 → isT l j 5 [40] = true → RdW w R A m c l j d → Calls Tryz.prog 267 #[.pointer (some ⟨R, 0, none⟩), .agg #[.int .i64 f.1, .int .i64 f.2.1, .int .i64 (f.2.2 : Nat)]] w (Got R A m c l d w (callP l sub f j))) (h : RdW w R A m c l i d) :
    Calls Tryz.prog 241 #[.pointer (some ⟨R, 0, none⟩), .string ⟨s.toArray⟩] w (Got R A m c l d w (wordR nmOk l sub s i)) := by
  have HH := Asd.mk h
  have HRW : Asd (R < w.heap.size) := Asd.mk (blk_lt h.blk)
  have HCA := Asd.mk hcall
  have HNE := Asd.mk hnear
  have HI := Asd.mk hi
  have hib : i ≤ 16384 := by have h1 := h.tok.1; have h2 := h.tok.2.1; omega
  have HBA := Asd.mk (below_alloc (Below.refl _ w) (.cells #[.int .i64 0, .int .i64 0, .int .i64 0, .int .i64 0, .string ⟨#[]⟩, .string ⟨#[]⟩, .string ⟨#[]⟩, .int .i64 0, .int .i64 0, .slice none 0 0] 58 (0, 0)))
  have HZ0 := Asd.mk (blk_new w (.cells #[.int .i64 0, .int .i64 0, .int .i64 0, .int .i64 0, .string ⟨#[]⟩, .string ⟨#[]⟩, .string ⟨#[]⟩, .int .i64 0, .int .i64 0, .slice none 0 0] 58 (0, 0)))
  have g1 : (s == [110, 117, 108, 108]) = false := by simp [h1]
  have g2 : (s == [116, 114, 117, 101]) = false := by simp [h2]
  have g3 : (s == [102, 97, 108, 115, 101]) = false := by simp [h3]
  clear h h1 h2 h3 hcall hnear hi
  go_enter Tryz.func241, Tryz.ntmps241
  go_wp2_with fail
  generalize w.alloc (.cells #[.int .i64 0, .int .i64 0, .int .i64 0, .int .i64 0, .string ⟨#[]⟩, .string ⟨#[]⟩, .string ⟨#[]⟩, .int .i64 0, .int .i64 0, .slice none 0 0] 58 (0, 0)) = w0 at HBA HZ0 ⊢
  refine (function_calls s w0).mono ?_
  rintro e w1 ⟨hfn, hb1⟩
  have HB1 : Asd (Below w.heap.size w w1) := Asd.mk (HBA.out.trans (hb1.mono HBA.out.size))
  have HZ1 := Asd.mk (blk_below hb1 HZ0.out)
  clear hb1 g1 g2 g3 HBA HZ0
  obtain ⟨k1, k2, k3, ok, rfl, hway⟩ : ∃ k1 k2 k3 ok, e = .returned (.tuple #[.agg #[.int .i64 k1, .int .i64 k2, .int .i64 k3], .bool ok]) ∧ ((ok = false ∧ wordR nmOk l sub s i = colP nmOk l i) ∨ (∃ f : Int × Int × Nat, (1 ≤ f.2.2 ∧ f.2.2 ≤ 3) ∧ ok = true ∧ k1 = f.1 ∧ k2 = f.2.1 ∧ k3 = (f.2.2 : Nat) ∧ wordR nmOk l sub s i = if isT l (i + 1) 5 [40] then callP l sub f (i + 1) else colP nmOk l i)) := by
    cases hx : funT s with
    | none => rw [hx] at hfn; obtain ⟨k, o, n, rfl⟩ := hfn; exact ⟨k, o, n, false, rfl, .inl ⟨rfl, by unfold wordR; rw [hx]⟩⟩
    | some f => rw [hx] at hfn; exact ⟨_, _, _, true, hfn, .inr ⟨f, funT_bound hx, rfl, rfl, rfl, rfl, by unfold wordR; rw [hx]⟩⟩
  have HWAY := Asd.mk hway
  clear hfn hway
  have HB2 : Asd (Below w.heap.size w (w1.alloc (.cells #[.int .i64 k1, .int .i64 k2, .int .i64 k3] 278 (0, 0)))) := Asd.mk (below_alloc HB1.out _)
  have HZ2 := Asd.mk (blk_alloc HZ1.out (.cells #[.int .i64 k1, .int .i64 k2, .int .i64 k3] 278 (0, 0)))
  have HC2 := Asd.mk (blk_new w1 (.cells #[.int .i64 k1, .int .i64 k2, .int .i64 k3] 278 (0, 0)))
  go_upto_region 13 with fail
  generalize w1.alloc (.cells #[.int .i64 k1, .int .i64 k2, .int .i64 k3] 278 (0, 0)) = w2 at HB2 HZ2 HC2 ⊢
  have HSW : Asd (w.heap.size < w1.heap.size) := Asd.mk (blk_lt HZ1.out)
  generalize w1.heap.size = b6 at HC2 HSW ⊢
  have HR2 := Asd.mk (HH.out.below HB2.out)
  go_cut [85] (fun s85 wx => s85 = .bool (ok && isT l (i + 1) 5 [40]) ∧ Asd (Below w2.heap.size w2 wx))
  case first =>
    have r0 := (blk_cell HR2.out.blk 0).trans rfl
    have r1 := (blk_cell HR2.out.blk 1).trans rfl
    cases ok with
    | false =>
      go_quiet (fail)
      have HQ := Asd.mk (below_drewN' w2 nq)
      go_wp2
      go_meet
      exact ⟨rfl, HQ⟩
    | true =>
      by_cases hlt : i + 1 < l.length
      · have hltm : i + 1 < m := by have := HR2.out.tok.1; omega
        have hlti : (i : Int) + 1 < (m : Int) := by omega
        obtain ⟨gt, rfl, hc⟩ := HR2.out.tok.2.2 (by omega)
        obtain ⟨t0, t1, t2, t3⟩ := hc (i + 1) hlt
        have HTT := Asd.mk (isT_some (k := 5) (s := [40]) hlt)
        generalize l[i + 1] = x at t0 t1 t2 t3 HTT
        clear hc
        by_cases hk : x.1.kind = 5
        · have hk' : ((x.1.kind : Nat) : Int) = 5 := by omega
          rw [hk'] at t0
          by_cases hs : x.1.text = [40]
          · rw [hs] at t1
            have HO : Asd (isT l (i + 1) 5 [40] = true) := Asd.mk (by rw [HTT.out]; simp [hk, hs])
            clear hk hk' hs
            go_quiet (fail)
            have HQ := Asd.mk (below_drewN' w2 nq)
            go_wp2
            go_meet
            exact ⟨by rw [HO.out]; rfl, HQ⟩
          · have hs' : ¬ (⟨x.1.text.toArray⟩ : ByteArray).toList = (⟨#[40]⟩ : ByteArray).toList := by rw [toList_mk, show (⟨#[40]⟩ : ByteArray).toList = [40] from toList_mk _]; exact hs
            have HO : Asd (isT l (i + 1) 5 [40] = false) := Asd.mk (by rw [HTT.out]; simp [hs])
            have HX2 : Asd ((x.1.text == [40]) = false) := Asd.mk (by simp [hs])
            clear hk hk' hs
            go_quiet (fail)
            have HQ := Asd.mk (below_drewN' w2 nq)
            go_wp2
            go_meet
            exact ⟨by rw [HO.out]; first | rfl | (show Value.bool (x.1.text == [40]) = Value.bool false; rw [HX2.out]), HQ⟩
        · have hk' : ¬ ((x.1.kind : Nat) : Int) = 5 := by omega
          have hkb : (((x.1.kind : Nat) : Int) == 5) = false := by simpa using hk'
          have HO : Asd (isT l (i + 1) 5 [40] = false) := Asd.mk (by rw [HTT.out]; simp [hk])
          clear hk
          go_quiet (fail)
          have HQ := Asd.mk (below_drewN' w2 nq)
          go_wp2
          go_meet
          exact ⟨by rw [HO.out]; rfl, HQ⟩
      · have hltm : ¬ i + 1 < m := by have := HR2.out.tok.1; omega
        have hlti : ¬ (i : Int) + 1 < (m : Int) := by omega
        have HO : Asd (isT l (i + 1) 5 [40] = false) := Asd.mk (isT_none (by omega))
        clear hlt
        go_quiet (fail)
        have HQ := Asd.mk (below_drewN' w2 nq)
        go_wp2
        go_meet
        exact ⟨by rw [HO.out]; rfl, HQ⟩
  case rest =>
    obtain ⟨rfl, HQ⟩ := hcut
    have HB3 : Asd (Below w.heap.size w wc) := Asd.mk (HB2.out.trans (HQ.out.mono HB2.out.size))
    have HZ3 := Asd.mk (blk_below HQ.out HZ2.out)
    have HC3 := Asd.mk (blk_below HQ.out HC2.out)
    have HR3 := Asd.mk (HR2.out.below HQ.out)
    clear HQ HB2 HZ2 HC2 HR2
    by_cases hb : (ok && isT l (i + 1) 5 [40]) = true
    · rw [hb]
      obtain ⟨f, hfb, rfl, rfl, rfl, rfl, hw⟩ : ∃ f : Int × Int × Nat, (1 ≤ f.2.2 ∧ f.2.2 ≤ 3) ∧ ok = true ∧ k1 = f.1 ∧ k2 = f.2.1 ∧ k3 = (f.2.2 : Nat) ∧ wordR nmOk l sub s i = callP l sub f (i + 1) := by
        rcases HWAY.out with ⟨h1, _⟩ | ⟨f, h0, h1, h2, h3, h4, h5⟩
        · rw [h1] at hb; cases hb
        · rw [h1] at hb; exact ⟨f, h0, h1, h2, h3, h4, by rw [h5, if_pos (by simpa using hb)]⟩
      have HW := Asd.mk hw
      have HFB := Asd.mk hfb
      have HIT : Asd (isT l (i + 1) 5 [40] = true) := Asd.mk (by simpa using hb)
      have HLT := Asd.mk (isT_lt HIT.out)
      clear hb hw hfb HWAY
      have r1 := (blk_cell HR3.out.blk 1).trans rfl
      have z1 := blk_frozen HR3.out.blk 1
      have hs := HR3.out.set (j := i + 1) (by have := HLT.out; omega)
      have HRS := Asd.mk hs.2
      have HFS := Asd.mk (frR_below HB3.out hs.1)
      have HZS := Asd.mk (blk_fr HZ3.out hs.1 (by show ¬ w.heap.size = R; have := HRW.out; omega))
      have HCS := blk_fr HC3.out hs.1 (by show ¬ b6 = R; have := HRW.out; have := HSW.out; omega)
      have q0 : (wc.setCell ⟨R, 1, none⟩ (.int .i64 ((i : Int) + 1))).cell? ⟨b6, 0, none⟩ = some (.int .i64 f.1) := (blk_cell HCS 0).trans rfl
      have q1 : (wc.setCell ⟨R, 1, none⟩ (.int .i64 ((i : Int) + 1))).cell? ⟨b6, 1, none⟩ = some (.int .i64 f.2.1) := (blk_cell HCS 1).trans rfl
      have q2 : (wc.setCell ⟨R, 1, none⟩ (.int .i64 ((i : Int) + 1))).cell? ⟨b6, 2, none⟩ = some (.int .i64 (f.2.2 : Nat)) := (blk_cell HCS 2).trans rfl
      clear hs HCS
      go_wp2_with fail
      change Calls _ _ _ (wc.setCell ⟨R, 1, none⟩ (.int .i64 ((i + 1 : Nat) : Int))) _
      clear q0 q1 q2 r1 z1
      generalize wc.setCell ⟨R, 1, none⟩ (.int .i64 ((i + 1 : Nat) : Int)) = w3 at HRS HFS HZS ⊢
      refine (HCA.out w3 (i + 1) f HFB.out HIT.out HRS.out).mono ?_
      rintro e w4 ⟨hf4, hm⟩
      have HF4 := Asd.mk (frR_trans HFS.out hf4)
      have HZ4 := Asd.mk (blk_fr HZS.out hf4 (by show ¬ w.heap.size = R; have := HRW.out; omega))
      have HS3 : Asd (w.heap.size < w3.heap.size) := Asd.mk (blk_lt HZS.out)
      clear hf4
      cases hfi : callP l sub f (i + 1) with
      | error er =>
        rw [hfi] at hm
        have HE : Asd (wordR nmOk l sub s i = .error er) := Asd.mk (by rw [HW.out, hfi])
        obtain ⟨N, rfl, hN⟩ := hm
        clear hfi
        go_wp2
        refine ⟨rfl, ?_⟩
        rw [HE.out]
        exact got_error HF4.out ⟨N, rfl, hN⟩
      | ok y =>
        obtain ⟨x, j⟩ := y
        rw [hfi] at hm
        have HE : Asd (wordR nmOk l sub s i = .ok (x, j)) := Asd.mk (by rw [HW.out, hfi])
        obtain ⟨sv, rfl, hh, hr⟩ := hm
        obtain ⟨As, ms, cs, rfl⟩ := held_slice hh
        have HHX := Asd.mk hh
        have HRX := Asd.mk hr
        clear hfi hh hr
        unfold exV
        have y0 := (blk_cell HZ4.out 0).trans rfl
        have y1 := (blk_cell HZ4.out 1).trans rfl
        have y2 := (blk_cell HZ4.out 2).trans rfl
        have y3 := (blk_cell HZ4.out 3).trans rfl
        have y4 := (blk_cell HZ4.out 4).trans rfl
        have y5 := (blk_cell HZ4.out 5).trans rfl
        have y6 := (blk_cell HZ4.out 6).trans rfl
        have y7 := (blk_cell HZ4.out 7).trans rfl
        have y8 := (blk_cell HZ4.out 8).trans rfl
        have y9 := (blk_cell HZ4.out 9).trans rfl
        have z0 := blk_frozen HZ4.out 0
        have z1 := blk_frozen HZ4.out 1
        have z2 := blk_frozen HZ4.out 2
        have z3 := blk_frozen HZ4.out 3
        have z4 := blk_frozen HZ4.out 4
        have z5 := blk_frozen HZ4.out 5
        have z6 := blk_frozen HZ4.out 6
        have z7 := blk_frozen HZ4.out 7
        have z8 := blk_frozen HZ4.out 8
        have z9 := blk_frozen HZ4.out 9
        go_wp2
        refine bodyPost_ret (results_cell_row rfl _ _ w.heap.size 58 _ (0, 0) _ rfl (put10_blk HZ4.out _ _ _ _ _ _ _ _ _ _) Tryz.underlying58 rfl (by kernel_rfl)) rfl ?_
        rw [HE.out]
        exact fin_got HH.out HF4.out (Nat.le_refl _) HRX.out (held_mono HHX.out fun g _ hg => by have h1 : w3.heap.size ≤ g := hg; have := HS3.out; exact ⟨by omega, by omega⟩)
    · have hbf : (ok && isT l (i + 1) 5 [40]) = false := by simpa using hb
      rw [hbf]
      have HW : Asd (wordR nmOk l sub s i = colP nmOk l i) := Asd.mk (by
        rcases HWAY.out with ⟨_, h⟩ | ⟨f, h0, h1, h2, h3, h4, h5⟩
        · exact h
        · rw [h1] at hbf; rw [h5, if_neg (by have : isT l (i + 1) 5 [40] = false := by simpa using hbf
                                             rw [this]; decide)])
      clear hb hbf HWAY
      go_wp2_with fail
      refine (name_calls R A m c l i d wc HNE.out HR3.out).mono ?_
      rintro e w3 ⟨hf3, hm⟩
      have HF3 := Asd.mk (frR_below HB3.out hf3)
      have HZ4 := Asd.mk (blk_fr HZ3.out hf3 (by show ¬ w.heap.size = R; have := HRW.out; omega))
      clear hf3
      cases hn : nameT nmOk l i with
      | error er =>
        rw [hn] at hm
        have HE : Asd (wordR nmOk l sub s i = .error er) := Asd.mk (by rw [HW.out]; unfold colP; rw [hn])
        obtain ⟨N, rfl, hN⟩ := hm
        clear hn
        go_wp2
        refine ⟨rfl, ?_⟩
        rw [HE.out]
        exact got_error HF3.out ⟨N, rfl, hN⟩
      | ok y =>
        obtain ⟨n1, j⟩ := y
        rw [hn] at hm
        have HN := Asd.mk hn
        obtain ⟨rfl, hr3⟩ := hm
        have HBB := Asd.mk (below_alloc (Below.refl _ w3) (.cells #[.int .i64 2, .int .i64 0, .int .i64 0, .int .i64 0, .string ⟨#[]⟩, .string ⟨#[]⟩, .string ⟨n1.toArray⟩, .int .i64 0, .int .i64 0, .slice none 0 0] 58 (0, 0)))
        have HE0 := Asd.mk (blk_new w3 (.cells #[.int .i64 2, .int .i64 0, .int .i64 0, .int .i64 0, .string ⟨#[]⟩, .string ⟨#[]⟩, .string ⟨n1.toArray⟩, .int .i64 0, .int .i64 0, .slice none 0 0] 58 (0, 0)))
        have HZ5 := Asd.mk (blk_alloc HZ4.out (.cells #[.int .i64 2, .int .i64 0, .int .i64 0, .int .i64 0, .string ⟨#[]⟩, .string ⟨#[]⟩, .string ⟨n1.toArray⟩, .int .i64 0, .int .i64 0, .slice none 0 0] 58 (0, 0)))
        have HR5 := Asd.mk (RdW.below hr3 HBB.out)
        have HF5 := Asd.mk (below_frR HF3.out HBB.out)
        have HSE : Asd (w.heap.size < w3.heap.size) := Asd.mk (blk_lt HZ4.out)
        clear hn hr3
        go_wp2_with fail
        generalize w3.alloc (.cells #[.int .i64 2, .int .i64 0, .int .i64 0, .int .i64 0, .string ⟨#[]⟩, .string ⟨#[]⟩, .string ⟨n1.toArray⟩, .int .i64 0, .int .i64 0, .slice none 0 0] 58 (0, 0)) = w5 at HBB HE0 HZ5 HR5 HF5 ⊢
        generalize w3.heap.size = b8 at HE0 HSE ⊢
        refine (take_calls R A m c l j d 5 [46] w5 (by omega) HR5.out).mono ?_
        rintro e w6 ⟨rfl, hf6, hr6⟩
        have HF6 := Asd.mk (frR_trans HF5.out hf6)
        have HZ6 := Asd.mk (blk_fr HZ5.out hf6 (by show ¬ w.heap.size = R; have := HRW.out; omega))
        have HE6 := Asd.mk (blk_fr HE0.out hf6 (by show ¬ b8 = R; have := HRW.out; have := HSE.out; omega))
        have HRT := Asd.mk hr6
        clear hf6 hr6
        cases hT : isT l j 5 [46] with
        | false =>
          have HR6 : Asd (RdW w6 R A m c l j d) := Asd.mk (by have := HRT.out; unfold tookT at this; rw [hT] at this; exact this)
          have HE : Asd (wordR nmOk l sub s i = .ok (colE [] n1, j)) := Asd.mk (by rw [HW.out]; unfold colP; rw [HN.out]; simp only; rw [if_neg (by rw [hT]; decide)])
          clear hT
          have x0 := (blk_cell HE6.out 0).trans rfl
          have x1 := (blk_cell HE6.out 1).trans rfl
          have x2 := (blk_cell HE6.out 2).trans rfl
          have x3 := (blk_cell HE6.out 3).trans rfl
          have x4 := (blk_cell HE6.out 4).trans rfl
          have x5 := (blk_cell HE6.out 5).trans rfl
          have x6 := (blk_cell HE6.out 6).trans rfl
          have x7 := (blk_cell HE6.out 7).trans rfl
          have x8 := (blk_cell HE6.out 8).trans rfl
          have x9 := (blk_cell HE6.out 9).trans rfl
          have y0 := (blk_cell HZ6.out 0).trans rfl
          have y1 := (blk_cell HZ6.out 1).trans rfl
          have y2 := (blk_cell HZ6.out 2).trans rfl
          have y3 := (blk_cell HZ6.out 3).trans rfl
          have y4 := (blk_cell HZ6.out 4).trans rfl
          have y5 := (blk_cell HZ6.out 5).trans rfl
          have y6 := (blk_cell HZ6.out 6).trans rfl
          have y7 := (blk_cell HZ6.out 7).trans rfl
          have y8 := (blk_cell HZ6.out 8).trans rfl
          have y9 := (blk_cell HZ6.out 9).trans rfl
          have z0 := blk_frozen HZ6.out 0
          have z1 := blk_frozen HZ6.out 1
          have z2 := blk_frozen HZ6.out 2
          have z3 := blk_frozen HZ6.out 3
          have z4 := blk_frozen HZ6.out 4
          have z5 := blk_frozen HZ6.out 5
          have z6 := blk_frozen HZ6.out 6
          have z7 := blk_frozen HZ6.out 7
          have z8 := blk_frozen HZ6.out 8
          have z9 := blk_frozen HZ6.out 9
          go_wp2
          refine bodyPost_ret (results_cell_row rfl _ _ w.heap.size 58 _ (0, 0) _ rfl (put10_blk HZ6.out _ _ _ _ _ _ _ _ _ _) Tryz.underlying58 rfl (by kernel_rfl)) rfl ?_
          rw [HE.out]
          exact fin_got (x := colE [] n1) HH.out HF6.out (Nat.le_refl _) HR6.out (.nil _ _)
        | true =>
          have HR6 : Asd (RdW w6 R A m c l (j + 1) d) := Asd.mk (by have := HRT.out; unfold tookT at this; rw [hT] at this; exact this)
          have HT := Asd.mk hT
          clear hT
          have HRD : Asd (RdW w6.drew R A m c l (j + 1) d) := Asd.mk (HR6.out.below (below_drewN' w6 1))
          have HFD : Asd (Fr (fun k => k = R) w w6.drew) := Asd.mk HF6.out.drew
          have HED : Asd (w6.drew.heap[b8]? = some (.cells #[.int .i64 2, .int .i64 0, .int .i64 0, .int .i64 0, .string ⟨#[]⟩, .string ⟨#[]⟩, .string ⟨n1.toArray⟩, .int .i64 0, .int .i64 0, .slice none 0 0] 58 (0, 0))) := Asd.mk HE6.out
          have HZD : Asd (w6.drew.heap[w.heap.size]? = some (.cells #[.int .i64 0, .int .i64 0, .int .i64 0, .int .i64 0, .string ⟨#[]⟩, .string ⟨#[]⟩, .string ⟨#[]⟩, .int .i64 0, .int .i64 0, .slice none 0 0] 58 (0, 0))) := Asd.mk HZ6.out
          go_upto_region 18 with fail
          refine wp_region_held_drew (S := fun _ => True) (by kernel_rfl) trivial (fun hHeld => ?_)
          have xn : w6.drew.cell? ⟨b8, 6, none⟩ = some (.string ⟨n1.toArray⟩) := (blk_cell HED.out 6).trans rfl
          generalize w6.drew = wd at HRD HFD HED HZD xn ⊢
          refine wpAnyH_take (i := 0) (oi := ({ dst := some 101, op := Op.fieldAddr 58 (Operand.tmp 8) 4, type := 0, pos := "expr.go:246", after := #[], guard := none } : Oper)) (v := ?vs0) rfl (by kernel_rfl) (by kernel_rfl) (by kernel_rfl) (fun _ _ _ h => h) (Or.inl ⟨by rfl, ?hs0⟩) (by assumption) ?rs0
          case hs0 => (intro w hSw; (try dsimp only at hSw); go_simp; try (with_reducible rfl))
          try simp only [Act.put, List.setIfInBounds_toArray, List.set_cons_zero, List.set_cons_succ]
          refine wpAnyH_take (i := 2) (oi := ({ dst := some 103, op := Op.move (Operand.tmp 0), type := 107, pos := "expr.go:246", after := #[], guard := none } : Oper)) (v := ?vs2) rfl (by kernel_rfl) (by kernel_rfl) (by kernel_rfl) (fun _ _ _ h => h) (Or.inl ⟨by rfl, ?hs2⟩) (by assumption) ?rs2
          case hs2 => (intro w hSw; (try dsimp only at hSw); go_simp; try (with_reducible rfl))
          try simp only [Act.put, List.setIfInBounds_toArray, List.set_cons_zero, List.set_cons_succ]
          refine wpAnyH_ready (rs := [1, 3]) (by kernel_rfl) (by simp) ?_
          refine AllReadyH.cons (o := ({ dst := some 102, op := Op.load 9 (Operand.tmp 101), type := 9, pos := "expr.go:246", after := #[{ on := 0, ground := Ground.data }], guard := none } : Oper)) rfl ?aq (AllReadyH.cons (o := ({ dst := some 104, op := Op.call { callee := Callee.value (Operand.func 268), args := #[Operand.tmp 103], argTypes := #[107] }, type := 9, pos := "expr.go:246", after := #[{ on := 2, ground := Ground.data }], guard := none } : Oper)) rfl ?bq AllReadyH.nil)
          case aq =>
            intro K hK
            go_simp
            go_wp2_with fail
            refine hK.out _ _ (trivial) (fun hHeld => ?_)
            clear hK K
            try simp only [Act.put, List.setIfInBounds_toArray, List.set_cons_zero, List.set_cons_succ]
            refine wpAnyH_take (i := 4) (oi := ({ dst := some 105, op := Op.fieldAddr 58 (Operand.tmp 8) 3, type := 0, pos := "expr.go:246", after := #[{ on := 0, ground := Ground.phase }, { on := 1, ground := Ground.phase }, { on := 2, ground := Ground.textOnly Departure.lateStores }, { on := 3, ground := Ground.textOnly Departure.lateStoresUnsure }], guard := none } : Oper)) (v := ?vta4) rfl (by kernel_rfl) (by kernel_rfl) (by kernel_rfl) (fun _ _ _ h => h) (Or.inl ⟨by rfl, ?hta4⟩) (by assumption) ?rta4
            case hta4 => (intro w hSw; (try dsimp only at hSw); go_simp; try (with_reducible rfl))
            try simp only [Act.put, List.setIfInBounds_toArray, List.set_cons_zero, List.set_cons_succ]
            refine wpAnyH_ready (rs := [3]) (by kernel_rfl) (by simp) ?_
            refine AllReadyH.cons (o := ({ dst := some 104, op := Op.call { callee := Callee.value (Operand.func 268), args := #[Operand.tmp 103], argTypes := #[107] }, type := 9, pos := "expr.go:246", after := #[{ on := 2, ground := Ground.data }], guard := none } : Oper)) rfl (fun K hK => ?_) AllReadyH.nil
            go_simp
            refine (name_calls R A m c l (j + 1) d wd HNE.out HRD.out).mono ?_
            rintro e w7 ⟨hf7, hm⟩
            have HF7 := Asd.mk (frR_trans HFD.out hf7)
            have HZ7 := Asd.mk (blk_fr HZD.out hf7 (by show ¬ w.heap.size = R; have := HRW.out; omega))
            have HE7 := Asd.mk (blk_fr HED.out hf7 (by show ¬ b8 = R; have := HRW.out; have := HSE.out; omega))
            clear hf7
            cases hn : nameT nmOk l (j + 1) with
            | error er =>
              rw [hn] at hm
              have HE : Asd (wordR nmOk l sub s i = .error er) := Asd.mk (by rw [HW.out]; unfold colP; rw [HN.out]; simp only; rw [if_pos HT.out, hn])
              obtain ⟨N, rfl, hN⟩ := hm
              refine ⟨rfl, ?_⟩
              rw [HE.out]
              exact got_error HF7.out ⟨N, rfl, hN⟩
            | ok y =>
            obtain ⟨n2, q⟩ := y
            rw [hn] at hm
            have HE : Asd (wordR nmOk l sub s i = .ok (colE n1 n2, q)) := Asd.mk (by rw [HW.out]; unfold colP; rw [HN.out]; simp only; rw [if_pos HT.out, hn])
            obtain ⟨rfl, hr7⟩ := hm
            have HR7 := Asd.mk hr7
            clear hn hr7
            have xn7 := (blk_cell HE7.out 6).trans rfl
            go_wp2_with fail
            refine hK.out _ _ (trivial) (fun hHeld => ?_)
            clear hK K
            try simp only [Act.put, List.setIfInBounds_toArray, List.set_cons_zero, List.set_cons_succ]
            have z5 := blk_frozen HE7.out 5
            have y5 := (blk_cell HE7.out 5).trans rfl
            refine wpAnyH_ready (rs := [5]) (by kernel_rfl) (by simp) ?_
            refine AllReadyH.cons (o := ({ dst := none, op := Op.store 9 (Operand.tmp 105) (Operand.tmp 102), type := 0, pos := "expr.go:246", after := #[{ on := 4, ground := Ground.data }, { on := 1, ground := Ground.data }, { on := 3, ground := Ground.chain }, { on := 0, ground := Ground.phase }, { on := 1, ground := Ground.phase }, { on := 2, ground := Ground.textOnly Departure.lateStores }, { on := 3, ground := Ground.textOnly Departure.lateStoresUnsure }], guard := none } : Oper)) rfl (fun K hK => ?_) AllReadyH.nil
            go_simp
            go_wp2_with fail
            refine hK.out _ _ (trivial) (fun hHeld => ?_)
            clear hK K
            try simp only [Act.put, List.setIfInBounds_toArray, List.set_cons_zero, List.set_cons_succ]
            refine wpAnyH_take (i := 6) (oi := ({ dst := some 106, op := Op.fieldAddr 58 (Operand.tmp 8) 4, type := 0, pos := "expr.go:246", after := #[{ on := 0, ground := Ground.phase }, { on := 1, ground := Ground.phase }, { on := 2, ground := Ground.phase }, { on := 3, ground := Ground.phase }, { on := 4, ground := Ground.phase }, { on := 5, ground := Ground.phase }], guard := none } : Oper)) (v := ?vta6) rfl (by kernel_rfl) (by kernel_rfl) (by kernel_rfl) (fun _ _ _ h => h) (Or.inl ⟨by rfl, ?hta6⟩) (by assumption) ?rta6
            case hta6 => (intro w hSw; (try dsimp only at hSw); go_simp; try (with_reducible rfl))
            try simp only [Act.put, List.setIfInBounds_toArray, List.set_cons_zero, List.set_cons_succ]
            have hst5 := Fr.setCell (S := fun k => k = b8) (Fr.refl _ w7) (p := ⟨b8, 5, none⟩) rfl (.string ⟨n1.toArray⟩)
            have HE8 : Asd ((w7.setCell ⟨b8, 5, none⟩ (.string ⟨n1.toArray⟩)).heap[b8]? = some (.cells #[.int .i64 2, .int .i64 0, .int .i64 0, .int .i64 0, .string ⟨#[]⟩, .string ⟨n1.toArray⟩, .string ⟨n1.toArray⟩, .int .i64 0, .int .i64 0, .slice none 0 0] 58 (0, 0))) := Asd.mk ((blk_set HE7.out 5 _).trans rfl)
            have z6 := blk_frozen HE8.out 6
            have y6 := (blk_cell HE8.out 6).trans rfl
            refine wpAnyH_ready (rs := [7]) (by kernel_rfl) (by simp) ?_
            refine AllReadyH.cons (o := ({ dst := none, op := Op.store 9 (Operand.tmp 106) (Operand.tmp 104), type := 0, pos := "expr.go:246", after := #[{ on := 6, ground := Ground.data }, { on := 3, ground := Ground.data }, { on := 5, ground := Ground.chain }, { on := 0, ground := Ground.phase }, { on := 1, ground := Ground.phase }, { on := 2, ground := Ground.phase }, { on := 3, ground := Ground.phase }, { on := 4, ground := Ground.phase }, { on := 5, ground := Ground.phase }], guard := none } : Oper)) rfl (fun K hK => ?_) AllReadyH.nil
            go_simp
            go_wp2_with fail
            refine hK.out _ _ (trivial) (fun hHeld => ?_)
            clear hK K
            try simp only [Act.put, List.setIfInBounds_toArray, List.set_cons_zero, List.set_cons_succ]
            have hst6 := Fr.setCell (S := fun k => k = b8) (Fr.refl _ (w7.setCell ⟨b8, 5, none⟩ (.string ⟨n1.toArray⟩))) (p := ⟨b8, 6, none⟩) rfl (.string ⟨n2.toArray⟩)
            have hst := hst5.trans hst6 (U := fun k => k = b8) (fun _ h _ => h) (fun _ h _ => h)
            have HE9 : Asd (((w7.setCell ⟨b8, 5, none⟩ (.string ⟨n1.toArray⟩)).setCell ⟨b8, 6, none⟩ (.string ⟨n2.toArray⟩)).heap[b8]? = some (.cells #[.int .i64 2, .int .i64 0, .int .i64 0, .int .i64 0, .string ⟨#[]⟩, .string ⟨n1.toArray⟩, .string ⟨n2.toArray⟩, .int .i64 0, .int .i64 0, .slice none 0 0] 58 (0, 0))) := Asd.mk ((blk_set HE8.out 6 _).trans rfl)
            have HF9 := Asd.mk (fr_new HF7.out hst (fun k hk => .inr (by have h1 : k = b8 := hk; have := HSE.out; omega)))
            have HZ9 := Asd.mk (blk_fr HZ7.out hst (by show ¬ w.heap.size = b8; have := HSE.out; omega))
            have HR9 := Asd.mk (HR7.out.var (x := colE [] n1) (y := colE n1 n2) hst (by have := HRW.out; have := HSE.out; omega) (by have := HRW.out; have := HSE.out; omega) HE7.out HE9.out)
            clear hst hst5 hst6
            refine wpAnyH_done (by kernel_rfl) ?_ _
            generalize (w7.setCell ⟨b8, 5, none⟩ (.string ⟨n1.toArray⟩)).setCell ⟨b8, 6, none⟩ (.string ⟨n2.toArray⟩) = w9 at HE9 HF9 HZ9 HR9 ⊢
            have x0 := (blk_cell HE9.out 0).trans rfl
            have x1 := (blk_cell HE9.out 1).trans rfl
            have x2 := (blk_cell HE9.out 2).trans rfl
            have x3 := (blk_cell HE9.out 3).trans rfl
            have x4 := (blk_cell HE9.out 4).trans rfl
            have x5 := (blk_cell HE9.out 5).trans rfl
            have x6 := (blk_cell HE9.out 6).trans rfl
            have x7 := (blk_cell HE9.out 7).trans rfl
            have x8 := (blk_cell HE9.out 8).trans rfl
            have x9 := (blk_cell HE9.out 9).trans rfl
            have y0 := (blk_cell HZ9.out 0).trans rfl
            have y1 := (blk_cell HZ9.out 1).trans rfl
            have y2 := (blk_cell HZ9.out 2).trans rfl
            have y3 := (blk_cell HZ9.out 3).trans rfl
            have y4 := (blk_cell HZ9.out 4).trans rfl
            have y5 := (blk_cell HZ9.out 5).trans rfl
            have y6 := (blk_cell HZ9.out 6).trans rfl
            have y7 := (blk_cell HZ9.out 7).trans rfl
            have y8 := (blk_cell HZ9.out 8).trans rfl
            have y9 := (blk_cell HZ9.out 9).trans rfl
            have z0 := blk_frozen HZ9.out 0
            have z1 := blk_frozen HZ9.out 1
            have z2 := blk_frozen HZ9.out 2
            have z3 := blk_frozen HZ9.out 3
            have z4 := blk_frozen HZ9.out 4
            have z5 := blk_frozen HZ9.out 5
            have z6 := blk_frozen HZ9.out 6
            have z7 := blk_frozen HZ9.out 7
            have z8 := blk_frozen HZ9.out 8
            have z9 := blk_frozen HZ9.out 9
            go_wp2
            refine bodyPost_ret (results_cell_row rfl _ _ w.heap.size 58 _ (0, 0) _ rfl (put10_blk HZ9.out _ _ _ _ _ _ _ _ _ _) Tryz.underlying58 rfl (by kernel_rfl)) rfl ?_
            rw [HE.out]
            exact fin_got (x := colE n1 n2) HH.out HF9.out (Nat.le_refl _) HR9.out (.nil _ _)
          case bq =>
            intro K hK
            go_simp
            refine (name_calls R A m c l (j + 1) d wd HNE.out HRD.out).mono ?_
            rintro e w7 ⟨hf7, hm⟩
            have HF7 := Asd.mk (frR_trans HFD.out hf7)
            have HZ7 := Asd.mk (blk_fr HZD.out hf7 (by show ¬ w.heap.size = R; have := HRW.out; omega))
            have HE7 := Asd.mk (blk_fr HED.out hf7 (by show ¬ b8 = R; have := HRW.out; have := HSE.out; omega))
            clear hf7
            cases hn : nameT nmOk l (j + 1) with
            | error er =>
              rw [hn] at hm
              have HE : Asd (wordR nmOk l sub s i = .error er) := Asd.mk (by rw [HW.out]; unfold colP; rw [HN.out]; simp only; rw [if_pos HT.out, hn])
              obtain ⟨N, rfl, hN⟩ := hm
              refine ⟨rfl, ?_⟩
              rw [HE.out]
              exact got_error HF7.out ⟨N, rfl, hN⟩
            | ok y =>
            obtain ⟨n2, q⟩ := y
            rw [hn] at hm
            have HE : Asd (wordR nmOk l sub s i = .ok (colE n1 n2, q)) := Asd.mk (by rw [HW.out]; unfold colP; rw [HN.out]; simp only; rw [if_pos HT.out, hn])
            obtain ⟨rfl, hr7⟩ := hm
            have HR7 := Asd.mk hr7
            clear hn hr7
            have xn7 := (blk_cell HE7.out 6).trans rfl
            go_wp2_with fail
            refine hK.out _ _ (trivial) (fun hHeld => ?_)
            clear hK K
            try simp only [Act.put, List.setIfInBounds_toArray, List.set_cons_zero, List.set_cons_succ]
            refine wpAnyH_ready (rs := [1]) (by kernel_rfl) (by simp) ?_
            refine AllReadyH.cons (o := ({ dst := some 102, op := Op.load 9 (Operand.tmp 101), type := 9, pos := "expr.go:246", after := #[{ on := 0, ground := Ground.data }], guard := none } : Oper)) rfl (fun K hK => ?_) AllReadyH.nil
            go_simp
            go_wp2_with fail
            refine hK.out _ _ (trivial) (fun hHeld => ?_)
            clear hK K
            try simp only [Act.put, List.setIfInBounds_toArray, List.set_cons_zero, List.set_cons_succ]
            refine wpAnyH_take (i := 4) (oi := ({ dst := some 105, op := Op.fieldAddr 58 (Operand.tmp 8) 3, type := 0, pos := "expr.go:246", after := #[{ on := 0, ground := Ground.phase }, { on := 1, ground := Ground.phase }, { on := 2, ground := Ground.textOnly Departure.lateStores }, { on := 3, ground := Ground.textOnly Departure.lateStoresUnsure }], guard := none } : Oper)) (v := ?vtb4) rfl (by kernel_rfl) (by kernel_rfl) (by kernel_rfl) (fun _ _ _ h => h) (Or.inl ⟨by rfl, ?htb4⟩) (by assumption) ?rtb4
            case htb4 => (intro w hSw; (try dsimp only at hSw); go_simp; try (with_reducible rfl))
            try simp only [Act.put, List.setIfInBounds_toArray, List.set_cons_zero, List.set_cons_succ]
            have z5 := blk_frozen HE7.out 5
            have y5 := (blk_cell HE7.out 5).trans rfl
            refine wpAnyH_ready (rs := [5]) (by kernel_rfl) (by simp) ?_
            refine AllReadyH.cons (o := ({ dst := none, op := Op.store 9 (Operand.tmp 105) (Operand.tmp 102), type := 0, pos := "expr.go:246", after := #[{ on := 4, ground := Ground.data }, { on := 1, ground := Ground.data }, { on := 3, ground := Ground.chain }, { on := 0, ground := Ground.phase }, { on := 1, ground := Ground.phase }, { on := 2, ground := Ground.textOnly Departure.lateStores }, { on := 3, ground := Ground.textOnly Departure.lateStoresUnsure }], guard := none } : Oper)) rfl (fun K hK => ?_) AllReadyH.nil
            go_simp
            go_wp2_with fail
            refine hK.out _ _ (trivial) (fun hHeld => ?_)
            clear hK K
            try simp only [Act.put, List.setIfInBounds_toArray, List.set_cons_zero, List.set_cons_succ]
            refine wpAnyH_take (i := 6) (oi := ({ dst := some 106, op := Op.fieldAddr 58 (Operand.tmp 8) 4, type := 0, pos := "expr.go:246", after := #[{ on := 0, ground := Ground.phase }, { on := 1, ground := Ground.phase }, { on := 2, ground := Ground.phase }, { on := 3, ground := Ground.phase }, { on := 4, ground := Ground.phase }, { on := 5, ground := Ground.phase }], guard := none } : Oper)) (v := ?vtb6) rfl (by kernel_rfl) (by kernel_rfl) (by kernel_rfl) (fun _ _ _ h => h) (Or.inl ⟨by rfl, ?htb6⟩) (by assumption) ?rtb6
            case htb6 => (intro w hSw; (try dsimp only at hSw); go_simp; try (with_reducible rfl))
            try simp only [Act.put, List.setIfInBounds_toArray, List.set_cons_zero, List.set_cons_succ]
            have hst5 := Fr.setCell (S := fun k => k = b8) (Fr.refl _ w7) (p := ⟨b8, 5, none⟩) rfl (.string ⟨n1.toArray⟩)
            have HE8 : Asd ((w7.setCell ⟨b8, 5, none⟩ (.string ⟨n1.toArray⟩)).heap[b8]? = some (.cells #[.int .i64 2, .int .i64 0, .int .i64 0, .int .i64 0, .string ⟨#[]⟩, .string ⟨n1.toArray⟩, .string ⟨n1.toArray⟩, .int .i64 0, .int .i64 0, .slice none 0 0] 58 (0, 0))) := Asd.mk ((blk_set HE7.out 5 _).trans rfl)
            have z6 := blk_frozen HE8.out 6
            have y6 := (blk_cell HE8.out 6).trans rfl
            refine wpAnyH_ready (rs := [7]) (by kernel_rfl) (by simp) ?_
            refine AllReadyH.cons (o := ({ dst := none, op := Op.store 9 (Operand.tmp 106) (Operand.tmp 104), type := 0, pos := "expr.go:246", after := #[{ on := 6, ground := Ground.data }, { on := 3, ground := Ground.data }, { on := 5, ground := Ground.chain }, { on := 0, ground := Ground.phase }, { on := 1, ground := Ground.phase }, { on := 2, ground := Ground.phase }, { on := 3, ground := Ground.phase }, { on := 4, ground := Ground.phase }, { on := 5, ground := Ground.phase }], guard := none } : Oper)) rfl (fun K hK => ?_) AllReadyH.nil
            go_simp
            go_wp2_with fail
            refine hK.out _ _ (trivial) (fun hHeld => ?_)
            clear hK K
            try simp only [Act.put, List.setIfInBounds_toArray, List.set_cons_zero, List.set_cons_succ]
            have hst6 := Fr.setCell (S := fun k => k = b8) (Fr.refl _ (w7.setCell ⟨b8, 5, none⟩ (.string ⟨n1.toArray⟩))) (p := ⟨b8, 6, none⟩) rfl (.string ⟨n2.toArray⟩)
            have hst := hst5.trans hst6 (U := fun k => k = b8) (fun _ h _ => h) (fun _ h _ => h)
            have HE9 : Asd (((w7.setCell ⟨b8, 5, none⟩ (.string ⟨n1.toArray⟩)).setCell ⟨b8, 6, none⟩ (.string ⟨n2.toArray⟩)).heap[b8]? = some (.cells #[.int .i64 2, .int .i64 0, .int .i64 0, .int .i64 0, .string ⟨#[]⟩, .string ⟨n1.toArray⟩, .string ⟨n2.toArray⟩, .int .i64 0, .int .i64 0, .slice none 0 0] 58 (0, 0))) := Asd.mk ((blk_set HE8.out 6 _).trans rfl)
            have HF9 := Asd.mk (fr_new HF7.out hst (fun k hk => .inr (by have h1 : k = b8 := hk; have := HSE.out; omega)))
            have HZ9 := Asd.mk (blk_fr HZ7.out hst (by show ¬ w.heap.size = b8; have := HSE.out; omega))
            have HR9 := Asd.mk (HR7.out.var (x := colE [] n1) (y := colE n1 n2) hst (by have := HRW.out; have := HSE.out; omega) (by have := HRW.out; have := HSE.out; omega) HE7.out HE9.out)
            clear hst hst5 hst6
            refine wpAnyH_done (by kernel_rfl) ?_ _
            generalize (w7.setCell ⟨b8, 5, none⟩ (.string ⟨n1.toArray⟩)).setCell ⟨b8, 6, none⟩ (.string ⟨n2.toArray⟩) = w9 at HE9 HF9 HZ9 HR9 ⊢
            have x0 := (blk_cell HE9.out 0).trans rfl
            have x1 := (blk_cell HE9.out 1).trans rfl
            have x2 := (blk_cell HE9.out 2).trans rfl
            have x3 := (blk_cell HE9.out 3).trans rfl
            have x4 := (blk_cell HE9.out 4).trans rfl
            have x5 := (blk_cell HE9.out 5).trans rfl
            have x6 := (blk_cell HE9.out 6).trans rfl
            have x7 := (blk_cell HE9.out 7).trans rfl
            have x8 := (blk_cell HE9.out 8).trans rfl
            have x9 := (blk_cell HE9.out 9).trans rfl
            have y0 := (blk_cell HZ9.out 0).trans rfl
            have y1 := (blk_cell HZ9.out 1).trans rfl
            have y2 := (blk_cell HZ9.out 2).trans rfl
            have y3 := (blk_cell HZ9.out 3).trans rfl
            have y4 := (blk_cell HZ9.out 4).trans rfl
            have y5 := (blk_cell HZ9.out 5).trans rfl
            have y6 := (blk_cell HZ9.out 6).trans rfl
            have y7 := (blk_cell HZ9.out 7).trans rfl
            have y8 := (blk_cell HZ9.out 8).trans rfl
            have y9 := (blk_cell HZ9.out 9).trans rfl
            have z0 := blk_frozen HZ9.out 0
            have z1 := blk_frozen HZ9.out 1
            have z2 := blk_frozen HZ9.out 2
            have z3 := blk_frozen HZ9.out 3
            have z4 := blk_frozen HZ9.out 4
            have z5 := blk_frozen HZ9.out 5
            have z6 := blk_frozen HZ9.out 6
            have z7 := blk_frozen HZ9.out 7
            have z8 := blk_frozen HZ9.out 8
            have z9 := blk_frozen HZ9.out 9
            go_wp2
            refine bodyPost_ret (results_cell_row rfl _ _ w.heap.size 58 _ (0, 0) _ rfl (put10_blk HZ9.out _ _ _ _ _ _ _ _ _ _) Tryz.underlying58 rfl (by kernel_rfl)) rfl ?_
            rw [HE.out]
            exact fin_got (x := colE n1 n2) HH.out HF9.out (Nat.le_refl _) HR9.out (.nil _ _)
/-- What a word reads. -/
theorem word_calls (R : Nat) (A : Option Addr) (m c : Nat) (l : Toks) (sub : Option PF) (i d : Nat) (s : List UInt8) (w : World) (hnear : Near l) (hi : i < l.length)
    (hcall : ∀ (w : World) (j : Nat) (f : Int × Int × Nat), 1 ≤ f.2.2 ∧ f.2.2 ≤ 3 → isT l j 5 [40] = true → RdW w R A m c l j d → Calls Tryz.prog 267 #[.pointer (some ⟨R, 0, none⟩), .agg #[.int .i64 f.1, .int .i64 f.2.1, .int .i64 (f.2.2 : Nat)]] w (Got R A m c l d w (callP l sub f j))) (h : RdW w R A m c l i d) :
    Calls Tryz.prog 241 #[.pointer (some ⟨R, 0, none⟩), .string ⟨s.toArray⟩] w (Got R A m c l d w (wordP nmOk l sub s i)) := by
  by_cases h1 : s = [110, 117, 108, 108]
  · subst h1; exact word_null R A m c l i d w hi h
  · by_cases h2 : s = [116, 114, 117, 101]
    · subst h2; exact word_true R A m c l i d w hi h
    · by_cases h3 : s = [102, 97, 108, 115, 101]
      · subst h3; exact word_false R A m c l i d w hi h
      · have e : wordP nmOk l sub s i = wordR nmOk l sub s i := by unfold wordP wordR; rw [if_neg h1, if_neg h2, if_neg h3]; rfl
        rw [e]
        exact word_rest R A m c l sub i d s w hnear hi h1 h2 h3 hcall h
end Go.Proofs.YtcefmhofidoloaaGreatDoor.Exp
