/- Texts put together: Rd14, Rd15, Rd9. -/
import Derived.Test.YtcefmhofidoloaaGreatDoorQc4
import Derived.Deep.DeepCutAuto
/- The reader of expressions: or. -/
set_option linter.unusedVariables false
set_option linter.unusedSimpArgs false
namespace Go.Proofs.YtcefmhofidoloaaGreatDoor.Exp
open Go.RowKit Go.Proofs.YtcefmhofidoloaaGreatDoor.Base Go.Proofs.YtcefmhofidoloaaGreatDoor.App Go.Proofs.YtcefmhofidoloaaGreatDoor.Byt Go.Proofs.YtcefmhofidoloaaGreatDoor.Lex

theorem isGo_sign : IsGo 133 := isGo_of Tryz.func133 (by kernel_rfl) rfl
theorem isGo_or1 : IsGo 134 := isGo_of Tryz.func134 (by kernel_rfl) rfl
/-- The closure for chains of '||'. -/
def CatK (R : Nat) (cap : Array Value) (w : World) : Prop := ∃ cap0 cap1, ChainAt R 133 #[.pointer (some ⟨R, 0, none⟩)] #[] sgProd cap0 w ∧ ChainAt R 187 #[] cap0 sgSum cap1 w ∧ ChainAt R 187 #[] cap1 sgCat cap w
theorem catK_stays (R : Nat) (cap : Array Value) : Stays R (CatK R cap) := fun w w' hf ⟨cap0, cap1, h0, h1, h2⟩ => ⟨cap0, cap1, h0.fr hf, h1.fr hf, h2.fr hf⟩
theorem opOK_part {F : FuncId} {R : Nat} {A : Option Addr} {m c : Nat} {l : Toks} {f : Nat → Res Ex} {d : Nat} (h : PartOK F R A m c l f d) (w : World) : OpOK F #[.pointer (some ⟨R, 0, none⟩)] R A m c l f d w := fun w' _ i hr => h w' i hr
theorem catK_op {nm : List UInt8 → Bool} {R : Nat} {A : Option Addr} {m c : Nat} {l : Toks} {sub : Option PF} {d : Nat} {cap : Array Value} {w : World} (h : CatK R cap w) (hnear : Near l) (hah : ∀ p, sub = some p → Ahds p) (hsign : PartOK 133 R A m c l (signP nm l sub) d) : OpOK 187 cap R A m c l (catP nm l sub) d w := by
  obtain ⟨cap0, cap1, h0, h1, h2⟩ := h
  have o0 : OpOK 187 cap0 R A m c l (prodP nm l sub) d w := h0.op sgProd_ok isGo_sign hnear (signP_ahd hah) (by rw [Array.append_empty]; exact opOK_part hsign w)
  have o1 : OpOK 187 cap1 R A m c l (sumP nm l sub) d w := h1.op sgSum_ok isGo_chain hnear (prodP_ahd hah) (by rw [Array.empty_append]; exact o0)
  exact h2.op sgCat_ok isGo_chain hnear (sumP_ahd hah) (by rw [Array.empty_append]; exact o1)
/-- What 'or' leans on behind its boxes. -/
structure OrW (b1 b2 g : Nat) (R : Nat) (v0 v1 v2 v3 v4 : Value) (w : World) : Prop where
  p1 : w.heap[b1]? = some (.cells #[.pointer (some ⟨R, 0, none⟩)] 107 (0, 0))
  z : w.heap[b2]? = some (.cells #[.int .i64 0, .int .i64 0, .int .i64 0, .int .i64 0, .string ⟨#[]⟩, .string ⟨#[]⟩, .string ⟨#[]⟩, .int .i64 0, .int .i64 0, .slice none 0 0] 58 (0, 0))
  p3 : w.heap[g]? = some (.cells #[v0, v1, v2, v3, v4] 186 (0, 0))
  s0 : SgA w sgOr v0
  s1 : SgA w sgAnd v1
  s2 : SgA w sgCat v2
  s3 : SgA w sgSum v3
  s4 : SgA w sgProd v4
theorem OrW.below {b1 b2 g R : Nat} {v0 v1 v2 v3 v4 : Value} {w w' : World} (h : OrW b1 b2 g R v0 v1 v2 v3 v4 w) (hb : Below w.heap.size w w') : OrW b1 b2 g R v0 v1 v2 v3 v4 w' :=
  ⟨blk_below hb h.p1, blk_below hb h.z, blk_below hb h.p3, h.s0.below hb, h.s1.below hb, h.s2.below hb, h.s3.below hb, h.s4.below hb⟩
theorem keep2 {b1 b2 g R : Nat} {v0 v1 v2 v3 v4 : Value} {w : World} (h : OrW b1 b2 g R v0 v1 v2 v3 v4 w) : w.cell? ⟨b1, 0, none⟩ = some (.pointer (some ⟨R, 0, none⟩)) ∧ w.cell? ⟨g, 2, none⟩ = some v2 ∧ w.cell? ⟨g, 3, none⟩ = some v3 ∧ w.cell? ⟨g, 4, none⟩ = some v4 :=
  ⟨(blk_cell h.p1 0).trans rfl, (blk_cell h.p3 2).trans rfl, (blk_cell h.p3 3).trans rfl, (blk_cell h.p3 4).trans rfl⟩
theorem keep4 {b1 b2 g R : Nat} {v0 v1 v2 v3 v4 : Value} {w : World} (h : OrW b1 b2 g R v0 v1 v2 v3 v4 w) : w.cell? ⟨b1, 0, none⟩ = some (.pointer (some ⟨R, 0, none⟩)) ∧ w.cell? ⟨g, 0, none⟩ = some v0 ∧ w.cell? ⟨g, 1, none⟩ = some v1 :=
  ⟨(blk_cell h.p1 0).trans rfl, (blk_cell h.p3 0).trans rfl, (blk_cell h.p3 1).trans rfl⟩
theorem keep4S {b1 g R : Nat} {v0 v1 : Value} {w w' : World} {S : Nat → Prop} (h : w.cell? ⟨b1, 0, none⟩ = some (.pointer (some ⟨R, 0, none⟩)) ∧ w.cell? ⟨g, 0, none⟩ = some v0 ∧ w.cell? ⟨g, 1, none⟩ = some v1) (hf : Fr S w w') (h1 : ¬ S b1) (h2 : ¬ S g) : w'.cell? ⟨b1, 0, none⟩ = some (.pointer (some ⟨R, 0, none⟩)) ∧ w'.cell? ⟨g, 0, none⟩ = some v0 ∧ w'.cell? ⟨g, 1, none⟩ = some v1 :=
  ⟨cell_frS hf h1 h.1, cell_frS hf h2 h.2.1, cell_frS hf h2 h.2.2⟩
theorem cellsT_ne {W : World} {a b : Nat} {c1 c2 : Array Value} {t1 t2 : TypeId} {f1 f2 : Nat × Nat} (h1 : W.heap[a]? = some (.cells c1 t1 f1)) (h2 : W.heap[b]? = some (.cells c2 t2 f2)) (h : c1.size ≠ c2.size) : a ≠ b := by
  rintro rfl
  rw [h1] at h2
  injection h2 with h2
  injection h2 with h2
  exact h (by rw [h2])
theorem OrW.store {b1 b2 g R : Nat} {v0 v1 v2 v3 v4 : Value} {w : World} (h : OrW b1 b2 g R v0 v1 v2 v3 v4 w) {b : Nat} {u v : Value} (hb : w.heap[b]? = some (.cells #[u] 110 (0, 0))) : OrW b1 b2 g R v0 v1 v2 v3 v4 (w.setCell ⟨b, 0, none⟩ v) := by
  have hf := Fr.setCell (S := fun k => k = b) (Fr.refl _ w) (p := ⟨b, 0, none⟩) rfl v
  have sg : ∀ {ops : List Sg} {x : Value}, SgA w ops x → SgA (w.setCell ⟨b, 0, none⟩ v) ops x := by
    intro ops x hx
    obtain ⟨g', c', rfl, hc⟩ := hx
    refine ⟨g', c', rfl, fun i hi => ?_⟩
    obtain ⟨p, q, r⟩ := hc i hi
    have hg : ¬ g' = b := by
      rintro rfl
      rw [blk_cell hb] at q
      simp at q
    exact ⟨cell_frS hf hg p, cell_frS hf hg q, cell_frS hf hg r⟩
  have n1 : ¬ b1 = b := by
    rintro rfl
    have := h.p1
    rw [hb] at this
    simp at this
  have n2 : ¬ b2 = b := cellsT_ne h.z hb (by simp)
  have n3 : ¬ g = b := cellsT_ne h.p3 hb (by simp)
  exact ⟨blk_fr h.p1 hf n1, blk_fr h.z hf n2, blk_fr h.p3 hf n3, sg h.s0, sg h.s1, sg h.s2, sg h.s3, sg h.s4⟩
theorem keep4F {b1 b2 g R : Nat} {v0 v1 v2 v3 v4 : Value} {w w' : World} (h : OrW b1 b2 g R v0 v1 v2 v3 v4 w) (hf : Fr (fun k => k = R) w w') (h1 : ¬ b1 = R) (h2 : ¬ g = R) : w'.cell? ⟨b1, 0, none⟩ = some (.pointer (some ⟨R, 0, none⟩)) ∧ w'.cell? ⟨g, 0, none⟩ = some v0 ∧ w'.cell? ⟨g, 1, none⟩ = some v1 :=
  keep4S (keep4 h) hf h1 h2
set_option maxRecDepth 100000 in
set_option maxHeartbeats 12800000 in
theorem or_calls (nm : List UInt8 → Bool) (sub : Option PF) (R : Nat) (A : Option Addr) (m c : Nat) (l : Toks) (i d : Nat) (w : World) (hnear : Near l)
    (hah : ∀ p, sub = some p → Ahds p) (hnot : ∀ cap, PartK 135 cap (CatK R cap) R A m c l (notP nm l sub) d) (h : RdW w R A m c l i d) :
    Calls Tryz.prog 59 #[.pointer (some ⟨R, 0, none⟩)] w (Got R A m c l d w (orP nm l sub i)) := by
  have HH := Asd.mk h
  have HNT := Asd.mk hnot
  have HNE := Asd.mk hnear
  have HAH := Asd.mk hah
  have hmf := mk_func
  have hst := st_func
  have HBA := Asd.mk (below_alloc (below_alloc (Below.refl _ w) (.cells #[.pointer (some ⟨R, 0, none⟩)] 107 (0, 0))) (.cells #[.int .i64 0, .int .i64 0, .int .i64 0, .int .i64 0, .string ⟨#[]⟩, .string ⟨#[]⟩, .string ⟨#[]⟩, .int .i64 0, .int .i64 0, .slice none 0 0] 58 (0, 0)))
  have HP1 := Asd.mk (blk_alloc (blk_new w (.cells #[.pointer (some ⟨R, 0, none⟩)] 107 (0, 0))) (.cells #[.int .i64 0, .int .i64 0, .int .i64 0, .int .i64 0, .string ⟨#[]⟩, .string ⟨#[]⟩, .string ⟨#[]⟩, .int .i64 0, .int .i64 0, .slice none 0 0] 58 (0, 0)))
  have HZ0 := Asd.mk (nb1 w (.cells #[.pointer (some ⟨R, 0, none⟩)] 107 (0, 0)) (.cells #[.int .i64 0, .int .i64 0, .int .i64 0, .int .i64 0, .string ⟨#[]⟩, .string ⟨#[]⟩, .string ⟨#[]⟩, .int .i64 0, .int .i64 0, .slice none 0 0] 58 (0, 0)))
  have HRW : Asd (R < w.heap.size) := Asd.mk (blk_lt h.blk)
  clear h hnot hnear hah
  go_enter Tryz.func59, Tryz.ntmps59
  go_wp2_with fail
  generalize (w.alloc (.cells #[.pointer (some ⟨R, 0, none⟩)] 107 (0, 0))).alloc (.cells #[.int .i64 0, .int .i64 0, .int .i64 0, .int .i64 0, .string ⟨#[]⟩, .string ⟨#[]⟩, .string ⟨#[]⟩, .int .i64 0, .int .i64 0, .slice none 0 0] 58 (0, 0)) = w0 at HBA HP1 HZ0 ⊢
  refine (lines_calls w0).mono ?_
  rintro e w1 ⟨⟨g, cg, rfl, hg, v0, v1, v2, v3, v4, hg5, hs0, hs1, hs2, hs3, hs4⟩, hb1⟩
  have HB1 : Asd (Below w.heap.size w w1) := Asd.mk (HBA.out.trans (hb1.mono HBA.out.size))
  have HW1 : Asd (OrW w.heap.size (w.heap.size + 1) g R v0 v1 v2 v3 v4 w1) := Asd.mk ⟨blk_below hb1 HP1.out, blk_below hb1 HZ0.out, hg5, hs0, hs1, hs2, hs3, hs4⟩
  clear hb1 hg hg5 hs0 hs1 hs2 hs3 hs4 HBA HP1 HZ0
  go_upto_region 2 with fail
  go_cut [4] (fun s4 wx => ∃ (b4 : Nat) (cap' : Array Value), s4 = .pointer (some ⟨b4, 0, none⟩) ∧ Asd (wx.heap[b4]? = some (.cells #[.func (.func 187) #[] cap'] 110 (0, 0))) ∧ Asd (Below w.heap.size w wx) ∧ Asd (OrW w.heap.size (w.heap.size + 1) g R v0 v1 v2 v3 v4 wx) ∧ Asd (CatK R cap' wx) ∧ Asd (w.heap.size ≤ b4))
  case first =>
    have HWD : Asd (OrW w.heap.size (w.heap.size + 1) g R v0 v1 v2 v3 v4 w1.drew) := Asd.mk (HW1.out.below (below_drewN' w1 1))
    have HBD : Asd (Below w.heap.size w w1.drew) := Asd.mk HB1.out.drew
    refine wp_region_held_drew (S := fun w' => w'.cell? ⟨w.heap.size, 0, none⟩ = some (.pointer (some ⟨R, 0, none⟩)) ∧ w'.cell? ⟨g, 2, none⟩ = some v2 ∧ w'.cell? ⟨g, 3, none⟩ = some v3 ∧ w'.cell? ⟨g, 4, none⟩ = some v4) (by kernel_rfl) (keep2 HWD.out) (fun hHeld => ?_)
    generalize w1.drew = wd at HWD HBD hHeld ⊢
    refine wpAnyH_take (i := 0) (oi := ({ dst := some 7, op := Op.load 107 (Operand.tmp 1), type := 107, pos := "expr.go:135", after := #[], guard := none } : Oper)) (v := ?va0) rfl (by kernel_rfl) (by kernel_rfl) (by kernel_rfl) (fun _ _ _ h => h) (Or.inl ⟨by rfl, ?ha0⟩) (by assumption) ?ra0
    case ha0 => (intro w hSw; (try dsimp only at hSw); obtain ⟨g0, g1, g2, g3⟩ := hSw; go_simp; try (with_reducible rfl))
    try simp only [Act.put, List.setIfInBounds_toArray, List.set_cons_zero, List.set_cons_succ]
    refine wpAnyH_take (i := 1) (oi := ({ dst := some 8, op := Op.move (Operand.tmp 3), type := 183, pos := "expr.go:135", after := #[], guard := none } : Oper)) (v := ?va1) rfl (by kernel_rfl) (by kernel_rfl) (by kernel_rfl) (fun _ _ _ h => h) (Or.inl ⟨by rfl, ?ha1⟩) (by assumption) ?ra1
    case ha1 => (intro w hSw; (try dsimp only at hSw); obtain ⟨g0, g1, g2, g3⟩ := hSw; go_simp; try (with_reducible rfl))
    try simp only [Act.put, List.setIfInBounds_toArray, List.set_cons_zero, List.set_cons_succ]
    refine wpAnyH_take (i := 2) (oi := ({ dst := some 9, op := Op.indexAddr 183 (Operand.tmp 8) (Operand.const (Value.int IntKind.i64 2)), type := 0, pos := "expr.go:135", after := #[{ on := 1, ground := Ground.data }], guard := none } : Oper)) (v := ?va2) rfl (by kernel_rfl) (by kernel_rfl) (by kernel_rfl) (fun _ _ _ h => h) (Or.inl ⟨by rfl, ?ha2⟩) (by assumption) ?ra2
    case ha2 => (intro w hSw; (try dsimp only at hSw); obtain ⟨g0, g1, g2, g3⟩ := hSw; go_simp; try (with_reducible rfl))
    try simp only [Act.put, List.setIfInBounds_toArray, List.set_cons_zero, List.set_cons_succ]
    refine wpAnyH_take (i := 3) (oi := ({ dst := some 10, op := Op.load 186 (Operand.tmp 9), type := 186, pos := "expr.go:135", after := #[{ on := 2, ground := Ground.data }], guard := none } : Oper)) (v := ?va3) rfl (by kernel_rfl) (by kernel_rfl) (by kernel_rfl) (fun _ _ _ h => h) (Or.inl ⟨by rfl, ?ha3⟩) (by assumption) ?ra3
    case ha3 => (intro w hSw; (try dsimp only at hSw); obtain ⟨g0, g1, g2, g3⟩ := hSw; go_simp; try (with_reducible rfl))
    try simp only [Act.put, List.setIfInBounds_toArray, List.set_cons_zero, List.set_cons_succ]
    refine wpAnyH_take (i := 4) (oi := ({ dst := some 11, op := Op.load 107 (Operand.tmp 1), type := 107, pos := "expr.go:135", after := #[], guard := none } : Oper)) (v := ?va4) rfl (by kernel_rfl) (by kernel_rfl) (by kernel_rfl) (fun _ _ _ h => h) (Or.inl ⟨by rfl, ?ha4⟩) (by assumption) ?ra4
    case ha4 => (intro w hSw; (try dsimp only at hSw); obtain ⟨g0, g1, g2, g3⟩ := hSw; go_simp; try (with_reducible rfl))
    try simp only [Act.put, List.setIfInBounds_toArray, List.set_cons_zero, List.set_cons_succ]
    refine wpAnyH_take (i := 5) (oi := ({ dst := some 12, op := Op.move (Operand.tmp 3), type := 183, pos := "expr.go:135", after := #[], guard := none } : Oper)) (v := ?va5) rfl (by kernel_rfl) (by kernel_rfl) (by kernel_rfl) (fun _ _ _ h => h) (Or.inl ⟨by rfl, ?ha5⟩) (by assumption) ?ra5
    case ha5 => (intro w hSw; (try dsimp only at hSw); obtain ⟨g0, g1, g2, g3⟩ := hSw; go_simp; try (with_reducible rfl))
    try simp only [Act.put, List.setIfInBounds_toArray, List.set_cons_zero, List.set_cons_succ]
    refine wpAnyH_take (i := 6) (oi := ({ dst := some 13, op := Op.indexAddr 183 (Operand.tmp 12) (Operand.const (Value.int IntKind.i64 3)), type := 0, pos := "expr.go:135", after := #[{ on := 5, ground := Ground.data }], guard := none } : Oper)) (v := ?va6) rfl (by kernel_rfl) (by kernel_rfl) (by kernel_rfl) (fun _ _ _ h => h) (Or.inl ⟨by rfl, ?ha6⟩) (by assumption) ?ra6
    case ha6 => (intro w hSw; (try dsimp only at hSw); obtain ⟨g0, g1, g2, g3⟩ := hSw; go_simp; try (with_reducible rfl))
    try simp only [Act.put, List.setIfInBounds_toArray, List.set_cons_zero, List.set_cons_succ]
    refine wpAnyH_take (i := 7) (oi := ({ dst := some 14, op := Op.load 186 (Operand.tmp 13), type := 186, pos := "expr.go:135", after := #[{ on := 6, ground := Ground.data }], guard := none } : Oper)) (v := ?va7) rfl (by kernel_rfl) (by kernel_rfl) (by kernel_rfl) (fun _ _ _ h => h) (Or.inl ⟨by rfl, ?ha7⟩) (by assumption) ?ra7
    case ha7 => (intro w hSw; (try dsimp only at hSw); obtain ⟨g0, g1, g2, g3⟩ := hSw; go_simp; try (with_reducible rfl))
    try simp only [Act.put, List.setIfInBounds_toArray, List.set_cons_zero, List.set_cons_succ]
    refine wpAnyH_take (i := 8) (oi := ({ dst := some 15, op := Op.load 107 (Operand.tmp 1), type := 107, pos := "expr.go:135", after := #[], guard := none } : Oper)) (v := ?va8) rfl (by kernel_rfl) (by kernel_rfl) (by kernel_rfl) (fun _ _ _ h => h) (Or.inl ⟨by rfl, ?ha8⟩) (by assumption) ?ra8
    case ha8 => (intro w hSw; (try dsimp only at hSw); obtain ⟨g0, g1, g2, g3⟩ := hSw; go_simp; try (with_reducible rfl))
    try simp only [Act.put, List.setIfInBounds_toArray, List.set_cons_zero, List.set_cons_succ]
    refine wpAnyH_take (i := 9) (oi := ({ dst := some 16, op := Op.move (Operand.tmp 3), type := 183, pos := "expr.go:135", after := #[], guard := none } : Oper)) (v := ?va9) rfl (by kernel_rfl) (by kernel_rfl) (by kernel_rfl) (fun _ _ _ h => h) (Or.inl ⟨by rfl, ?ha9⟩) (by assumption) ?ra9
    case ha9 => (intro w hSw; (try dsimp only at hSw); obtain ⟨g0, g1, g2, g3⟩ := hSw; go_simp; try (with_reducible rfl))
    try simp only [Act.put, List.setIfInBounds_toArray, List.set_cons_zero, List.set_cons_succ]
    refine wpAnyH_take (i := 10) (oi := ({ dst := some 17, op := Op.indexAddr 183 (Operand.tmp 16) (Operand.const (Value.int IntKind.i64 4)), type := 0, pos := "expr.go:135", after := #[{ on := 9, ground := Ground.data }], guard := none } : Oper)) (v := ?va10) rfl (by kernel_rfl) (by kernel_rfl) (by kernel_rfl) (fun _ _ _ h => h) (Or.inl ⟨by rfl, ?ha10⟩) (by assumption) ?ra10
    case ha10 => (intro w hSw; (try dsimp only at hSw); obtain ⟨g0, g1, g2, g3⟩ := hSw; go_simp; try (with_reducible rfl))
    try simp only [Act.put, List.setIfInBounds_toArray, List.set_cons_zero, List.set_cons_succ]
    refine wpAnyH_take (i := 11) (oi := ({ dst := some 18, op := Op.load 186 (Operand.tmp 17), type := 186, pos := "expr.go:135", after := #[{ on := 10, ground := Ground.data }], guard := none } : Oper)) (v := ?va11) rfl (by kernel_rfl) (by kernel_rfl) (by kernel_rfl) (fun _ _ _ h => h) (Or.inl ⟨by rfl, ?ha11⟩) (by assumption) ?ra11
    case ha11 => (intro w hSw; (try dsimp only at hSw); obtain ⟨g0, g1, g2, g3⟩ := hSw; go_simp; try (with_reducible rfl))
    try simp only [Act.put, List.setIfInBounds_toArray, List.set_cons_zero, List.set_cons_succ]
    refine wpAnyH_take (i := 12) (oi := ({ dst := some 19, op := Op.load 107 (Operand.tmp 1), type := 107, pos := "expr.go:135", after := #[], guard := none } : Oper)) (v := ?va12) rfl (by kernel_rfl) (by kernel_rfl) (by kernel_rfl) (fun _ _ _ h => h) (Or.inl ⟨by rfl, ?ha12⟩) (by assumption) ?ra12
    case ha12 => (intro w hSw; (try dsimp only at hSw); obtain ⟨g0, g1, g2, g3⟩ := hSw; go_simp; try (with_reducible rfl))
    try simp only [Act.put, List.setIfInBounds_toArray, List.set_cons_zero, List.set_cons_succ]
    refine wpAnyH_take (i := 13) (oi := ({ dst := some 20, op := Op.makeFunc (Fn.func 133) #[Operand.tmp 19] #[], type := 110, pos := "expr.go:135", after := #[{ on := 12, ground := Ground.data }], guard := none } : Oper)) (v := ?va13) rfl (by kernel_rfl) (by kernel_rfl) (by kernel_rfl) (fun _ _ _ h => h) (Or.inl ⟨by rfl, ?ha13⟩) (by assumption) ?ra13
    case ha13 => (intro w hSw; (try dsimp only at hSw); obtain ⟨g0, g1, g2, g3⟩ := hSw; go_simp; try (with_reducible rfl))
    try simp only [Act.put, List.setIfInBounds_toArray, List.set_cons_zero, List.set_cons_succ]
    refine wpAnyH_ready (rs := [14, 17]) (by kernel_rfl) (by simp) ?_
    refine AllReadyH.cons (o := ({ dst := some 21, op := Op.call { callee := Callee.value (Operand.func 132), args := #[Operand.tmp 15, Operand.tmp 18, Operand.tmp 20], argTypes := #[107, 186, 110] }, type := 110, pos := "expr.go:135", after := #[{ on := 8, ground := Ground.data }, { on := 11, ground := Ground.data }, { on := 13, ground := Ground.data }], guard := none } : Oper)) rfl ?aq1 (AllReadyH.cons (o := ({ dst := some 4, op := Op.alloc 110, type := 0, pos := "expr.go:135", after := #[], guard := none } : Oper)) rfl ?bq1 AllReadyH.nil)
    case aq1 =>
      intro K hK
      go_simp
      refine (chain_calls 133 #[.pointer (some ⟨R, 0, none⟩)] #[] R sgProd v4 wd (HH.out.below HBD.out).blk (by decide) HWD.out.s4).mono ?_
      rintro e u0x ⟨⟨cap0, rfl, hcl0⟩, hbel⟩
      have HBD0 : Asd (Below w.heap.size w u0x) := Asd.mk (HBD.out.trans (hbel.mono HBD.out.size))
      have HWD0 := Asd.mk (HWD.out.below hbel)
      have HCL0 := Asd.mk hcl0
      clear hcl0 hbel
      go_wp2_with fail
      refine hK.out _ _ (keep2 HWD0.out) (fun hHeld => ?_)
      clear hK K
      try simp only [Act.put, List.setIfInBounds_toArray, List.set_cons_zero, List.set_cons_succ]
      refine wpAnyH_ready (rs := [15, 17]) (by kernel_rfl) (by simp) ?_
      refine AllReadyH.cons (o := ({ dst := some 22, op := Op.call { callee := Callee.value (Operand.func 132), args := #[Operand.tmp 11, Operand.tmp 14, Operand.tmp 21], argTypes := #[107, 186, 110] }, type := 110, pos := "expr.go:135", after := #[{ on := 4, ground := Ground.data }, { on := 7, ground := Ground.data }, { on := 14, ground := Ground.data }, { on := 14, ground := Ground.chain }], guard := none } : Oper)) rfl ?aq2 (AllReadyH.cons (o := ({ dst := some 4, op := Op.alloc 110, type := 0, pos := "expr.go:135", after := #[], guard := none } : Oper)) rfl ?bq2 AllReadyH.nil)
      case aq2 =>
        intro K hK
        go_simp
        refine (chain_calls 187 #[] cap0 R sgSum v3 u0x (HH.out.below HBD0.out).blk (by decide) HWD0.out.s3).mono ?_
        rintro e u1xc ⟨⟨cap1, rfl, hcl1⟩, hbel⟩
        have HBD01 : Asd (Below w.heap.size w u1xc) := Asd.mk (HBD0.out.trans (hbel.mono HBD0.out.size))
        have HWD01 := Asd.mk (HWD0.out.below hbel)
        have HCL1 := Asd.mk hcl1
        have HCL0 := Asd.mk (HCL0.out.below hbel)
        clear hcl1 hbel
        go_wp2_with fail
        refine hK.out _ _ (keep2 HWD01.out) (fun hHeld => ?_)
        clear hK K
        try simp only [Act.put, List.setIfInBounds_toArray, List.set_cons_zero, List.set_cons_succ]
        refine wpAnyH_ready (rs := [16, 17]) (by kernel_rfl) (by simp) ?_
        refine AllReadyH.cons (o := ({ dst := some 23, op := Op.call { callee := Callee.value (Operand.func 132), args := #[Operand.tmp 7, Operand.tmp 10, Operand.tmp 22], argTypes := #[107, 186, 110] }, type := 110, pos := "expr.go:135", after := #[{ on := 0, ground := Ground.data }, { on := 3, ground := Ground.data }, { on := 15, ground := Ground.data }, { on := 15, ground := Ground.chain }], guard := none } : Oper)) rfl ?aq3 (AllReadyH.cons (o := ({ dst := some 4, op := Op.alloc 110, type := 0, pos := "expr.go:135", after := #[], guard := none } : Oper)) rfl ?bq3 AllReadyH.nil)
        case aq3 =>
          intro K hK
          go_simp
          refine (chain_calls 187 #[] cap1 R sgCat v2 u1xc (HH.out.below HBD01.out).blk (by decide) HWD01.out.s2).mono ?_
          rintro e u2xcc ⟨⟨cap2, rfl, hcl2⟩, hbel⟩
          have HBD012 : Asd (Below w.heap.size w u2xcc) := Asd.mk (HBD01.out.trans (hbel.mono HBD01.out.size))
          have HWD012 := Asd.mk (HWD01.out.below hbel)
          have HCL2 := Asd.mk hcl2
          have HCL0 := Asd.mk (HCL0.out.below hbel)
          have HCL1 := Asd.mk (HCL1.out.below hbel)
          clear hcl2 hbel
          go_wp2_with fail
          refine hK.out _ _ (keep2 HWD012.out) (fun hHeld => ?_)
          clear hK K
          try simp only [Act.put, List.setIfInBounds_toArray, List.set_cons_zero, List.set_cons_succ]
          refine wpAnyH_ready (rs := [17]) (by kernel_rfl) (by simp) ?_
          refine AllReadyH.cons (o := ({ dst := some 4, op := Op.alloc 110, type := 0, pos := "expr.go:135", after := #[], guard := none } : Oper)) rfl (fun K hK => ?_) AllReadyH.nil
          go_simp
          have HBD012a : Asd (Below w.heap.size w (u2xcc.alloc (.cells #[.nilFunc] 110 (0, 0)))) := Asd.mk (below_alloc HBD012.out _)
          have HWD012a := Asd.mk (HWD012.out.below (below_alloc (Below.refl _ u2xcc) (.cells #[.nilFunc] 110 (0, 0))))
          have HAL := Asd.mk (blk_new u2xcc (.cells #[.nilFunc] 110 (0, 0)))
          have HGE : Asd (w.heap.size ≤ u2xcc.heap.size) := Asd.mk HBD012.out.size
          have HCL0 := Asd.mk (HCL0.out.below (below_alloc (Below.refl _ u2xcc) (.cells #[.nilFunc] 110 (0, 0))))
          have HCL1 := Asd.mk (HCL1.out.below (below_alloc (Below.refl _ u2xcc) (.cells #[.nilFunc] 110 (0, 0))))
          have HCL2 := Asd.mk (HCL2.out.below (below_alloc (Below.refl _ u2xcc) (.cells #[.nilFunc] 110 (0, 0))))
          go_wp2_with fail
          refine hK.out _ _ (keep2 HWD012a.out) (fun hHeld => ?_)
          clear hK K
          try simp only [Act.put, List.setIfInBounds_toArray, List.set_cons_zero, List.set_cons_succ]
          generalize hgb : u2xcc.heap.size = b4 at HAL HGE ⊢
          generalize u2xcc.alloc (.cells #[.nilFunc] 110 (0, 0)) = uaxccc at HBD012a HWD012a HAL HCL0 HCL1 HCL2 ⊢
          clear hgb
          have y0 := (blk_cell HAL.out 0).trans rfl
          have z0 := blk_frozen HAL.out 0
          have hstf := Fr.setCell (S := fun k => k = b4) (Fr.refl _ uaxccc) (p := ⟨b4, 0, none⟩) rfl (.func (.func 187) #[] cap2)
          have HWS := Asd.mk (HWD012a.out.store HAL.out (v := .func (.func 187) #[] cap2))
          have HBS : Asd (Below w.heap.size w (uaxccc.setCell ⟨b4, 0, none⟩ (.func (.func 187) #[] cap2))) := Asd.mk (HBD012a.out.setCell HGE.out _)
          have HAS : Asd ((uaxccc.setCell ⟨b4, 0, none⟩ (.func (.func 187) #[] cap2)).heap[b4]? = some (.cells #[.func (.func 187) #[] cap2] 110 (0, 0))) := Asd.mk ((blk_set HAL.out 0 _).trans rfl)
          have HKS : Asd (CatK R cap2 (uaxccc.setCell ⟨b4, 0, none⟩ (.func (.func 187) #[] cap2))) := Asd.mk ⟨cap0, cap1, HCL0.out.store (by decide) HAL.out _, HCL1.out.store (by decide) HAL.out _, HCL2.out.store (by decide) HAL.out _⟩
          refine wpAnyH_ready (rs := [18]) (by kernel_rfl) (by simp) ?_
          refine AllReadyH.cons (o := ({ dst := none, op := Op.store 110 (Operand.tmp 4) (Operand.tmp 23), type := 0, pos := "expr.go:135", after := #[{ on := 17, ground := Ground.data }, { on := 16, ground := Ground.data }, { on := 16, ground := Ground.chain }, { on := 0, ground := Ground.phase }, { on := 1, ground := Ground.phase }, { on := 2, ground := Ground.phase }, { on := 3, ground := Ground.phase }, { on := 4, ground := Ground.phase }, { on := 5, ground := Ground.phase }, { on := 6, ground := Ground.phase }, { on := 7, ground := Ground.phase }, { on := 8, ground := Ground.phase }, { on := 9, ground := Ground.phase }, { on := 10, ground := Ground.phase }, { on := 11, ground := Ground.phase }, { on := 12, ground := Ground.phase }, { on := 13, ground := Ground.phase }, { on := 14, ground := Ground.phase }, { on := 15, ground := Ground.phase }, { on := 16, ground := Ground.phase }, { on := 17, ground := Ground.phase }], guard := none } : Oper)) rfl (fun K hK => ?_) AllReadyH.nil
          go_simp
          go_wp2_with fail
          refine hK.out _ _ (keep2 HWS.out) (fun hHeld => ?_)
          clear hK K
          try simp only [Act.put, List.setIfInBounds_toArray, List.set_cons_zero, List.set_cons_succ]
          refine wpAnyH_done (by kernel_rfl) ?_ _
          go_wp2
          go_meet
          exact ⟨b4, cap2, rfl, HAS, HBS, HWS, HKS, HGE⟩
        case bq3 =>
          intro K hK
          go_simp
          have HBD01a : Asd (Below w.heap.size w (u1xc.alloc (.cells #[.nilFunc] 110 (0, 0)))) := Asd.mk (below_alloc HBD01.out _)
          have HWD01a := Asd.mk (HWD01.out.below (below_alloc (Below.refl _ u1xc) (.cells #[.nilFunc] 110 (0, 0))))
          have HAL := Asd.mk (blk_new u1xc (.cells #[.nilFunc] 110 (0, 0)))
          have HGE : Asd (w.heap.size ≤ u1xc.heap.size) := Asd.mk HBD01.out.size
          have HCL0 := Asd.mk (HCL0.out.below (below_alloc (Below.refl _ u1xc) (.cells #[.nilFunc] 110 (0, 0))))
          have HCL1 := Asd.mk (HCL1.out.below (below_alloc (Below.refl _ u1xc) (.cells #[.nilFunc] 110 (0, 0))))
          go_wp2_with fail
          refine hK.out _ _ (keep2 HWD01a.out) (fun hHeld => ?_)
          clear hK K
          try simp only [Act.put, List.setIfInBounds_toArray, List.set_cons_zero, List.set_cons_succ]
          generalize hgb : u1xc.heap.size = b4 at HAL HGE ⊢
          generalize u1xc.alloc (.cells #[.nilFunc] 110 (0, 0)) = uaxcc at HBD01a HWD01a HAL HCL0 HCL1 ⊢
          clear hgb
          refine wpAnyH_ready (rs := [16]) (by kernel_rfl) (by simp) ?_
          refine AllReadyH.cons (o := ({ dst := some 23, op := Op.call { callee := Callee.value (Operand.func 132), args := #[Operand.tmp 7, Operand.tmp 10, Operand.tmp 22], argTypes := #[107, 186, 110] }, type := 110, pos := "expr.go:135", after := #[{ on := 0, ground := Ground.data }, { on := 3, ground := Ground.data }, { on := 15, ground := Ground.data }, { on := 15, ground := Ground.chain }], guard := none } : Oper)) rfl (fun K hK => ?_) AllReadyH.nil
          go_simp
          refine (chain_calls 187 #[] cap1 R sgCat v2 uaxcc (HH.out.below HBD01a.out).blk (by decide) HWD01a.out.s2).mono ?_
          rintro e u2xcca ⟨⟨cap2, rfl, hcl2⟩, hbel⟩
          have HBD01a2 : Asd (Below w.heap.size w u2xcca) := Asd.mk (HBD01a.out.trans (hbel.mono HBD01a.out.size))
          have HWD01a2 := Asd.mk (HWD01a.out.below hbel)
          have HCL2 := Asd.mk hcl2
          have HCL0 := Asd.mk (HCL0.out.below hbel)
          have HCL1 := Asd.mk (HCL1.out.below hbel)
          have HAL := Asd.mk (blk_below hbel HAL.out)
          clear hcl2 hbel
          go_wp2_with fail
          refine hK.out _ _ (keep2 HWD01a2.out) (fun hHeld => ?_)
          clear hK K
          try simp only [Act.put, List.setIfInBounds_toArray, List.set_cons_zero, List.set_cons_succ]
          have y0 := (blk_cell HAL.out 0).trans rfl
          have z0 := blk_frozen HAL.out 0
          have hstf := Fr.setCell (S := fun k => k = b4) (Fr.refl _ u2xcca) (p := ⟨b4, 0, none⟩) rfl (.func (.func 187) #[] cap2)
          have HWS := Asd.mk (HWD01a2.out.store HAL.out (v := .func (.func 187) #[] cap2))
          have HBS : Asd (Below w.heap.size w (u2xcca.setCell ⟨b4, 0, none⟩ (.func (.func 187) #[] cap2))) := Asd.mk (HBD01a2.out.setCell HGE.out _)
          have HAS : Asd ((u2xcca.setCell ⟨b4, 0, none⟩ (.func (.func 187) #[] cap2)).heap[b4]? = some (.cells #[.func (.func 187) #[] cap2] 110 (0, 0))) := Asd.mk ((blk_set HAL.out 0 _).trans rfl)
          have HKS : Asd (CatK R cap2 (u2xcca.setCell ⟨b4, 0, none⟩ (.func (.func 187) #[] cap2))) := Asd.mk ⟨cap0, cap1, HCL0.out.store (by decide) HAL.out _, HCL1.out.store (by decide) HAL.out _, HCL2.out.store (by decide) HAL.out _⟩
          refine wpAnyH_ready (rs := [18]) (by kernel_rfl) (by simp) ?_
          refine AllReadyH.cons (o := ({ dst := none, op := Op.store 110 (Operand.tmp 4) (Operand.tmp 23), type := 0, pos := "expr.go:135", after := #[{ on := 17, ground := Ground.data }, { on := 16, ground := Ground.data }, { on := 16, ground := Ground.chain }, { on := 0, ground := Ground.phase }, { on := 1, ground := Ground.phase }, { on := 2, ground := Ground.phase }, { on := 3, ground := Ground.phase }, { on := 4, ground := Ground.phase }, { on := 5, ground := Ground.phase }, { on := 6, ground := Ground.phase }, { on := 7, ground := Ground.phase }, { on := 8, ground := Ground.phase }, { on := 9, ground := Ground.phase }, { on := 10, ground := Ground.phase }, { on := 11, ground := Ground.phase }, { on := 12, ground := Ground.phase }, { on := 13, ground := Ground.phase }, { on := 14, ground := Ground.phase }, { on := 15, ground := Ground.phase }, { on := 16, ground := Ground.phase }, { on := 17, ground := Ground.phase }], guard := none } : Oper)) rfl (fun K hK => ?_) AllReadyH.nil
          go_simp
          go_wp2_with fail
          refine hK.out _ _ (keep2 HWS.out) (fun hHeld => ?_)
          clear hK K
          try simp only [Act.put, List.setIfInBounds_toArray, List.set_cons_zero, List.set_cons_succ]
          refine wpAnyH_done (by kernel_rfl) ?_ _
          go_wp2
          go_meet
          exact ⟨b4, cap2, rfl, HAS, HBS, HWS, HKS, HGE⟩
      case bq2 =>
        intro K hK
        go_simp
        have HBD0a : Asd (Below w.heap.size w (u0x.alloc (.cells #[.nilFunc] 110 (0, 0)))) := Asd.mk (below_alloc HBD0.out _)
        have HWD0a := Asd.mk (HWD0.out.below (below_alloc (Below.refl _ u0x) (.cells #[.nilFunc] 110 (0, 0))))
        have HAL := Asd.mk (blk_new u0x (.cells #[.nilFunc] 110 (0, 0)))
        have HGE : Asd (w.heap.size ≤ u0x.heap.size) := Asd.mk HBD0.out.size
        have HCL0 := Asd.mk (HCL0.out.below (below_alloc (Below.refl _ u0x) (.cells #[.nilFunc] 110 (0, 0))))
        go_wp2_with fail
        refine hK.out _ _ (keep2 HWD0a.out) (fun hHeld => ?_)
        clear hK K
        try simp only [Act.put, List.setIfInBounds_toArray, List.set_cons_zero, List.set_cons_succ]
        generalize hgb : u0x.heap.size = b4 at HAL HGE ⊢
        generalize u0x.alloc (.cells #[.nilFunc] 110 (0, 0)) = uaxc at HBD0a HWD0a HAL HCL0 ⊢
        clear hgb
        refine wpAnyH_ready (rs := [15]) (by kernel_rfl) (by simp) ?_
        refine AllReadyH.cons (o := ({ dst := some 22, op := Op.call { callee := Callee.value (Operand.func 132), args := #[Operand.tmp 11, Operand.tmp 14, Operand.tmp 21], argTypes := #[107, 186, 110] }, type := 110, pos := "expr.go:135", after := #[{ on := 4, ground := Ground.data }, { on := 7, ground := Ground.data }, { on := 14, ground := Ground.data }, { on := 14, ground := Ground.chain }], guard := none } : Oper)) rfl (fun K hK => ?_) AllReadyH.nil
        go_simp
        refine (chain_calls 187 #[] cap0 R sgSum v3 uaxc (HH.out.below HBD0a.out).blk (by decide) HWD0a.out.s3).mono ?_
        rintro e u1xca ⟨⟨cap1, rfl, hcl1⟩, hbel⟩
        have HBD0a1 : Asd (Below w.heap.size w u1xca) := Asd.mk (HBD0a.out.trans (hbel.mono HBD0a.out.size))
        have HWD0a1 := Asd.mk (HWD0a.out.below hbel)
        have HCL1 := Asd.mk hcl1
        have HCL0 := Asd.mk (HCL0.out.below hbel)
        have HAL := Asd.mk (blk_below hbel HAL.out)
        clear hcl1 hbel
        go_wp2_with fail
        refine hK.out _ _ (keep2 HWD0a1.out) (fun hHeld => ?_)
        clear hK K
        try simp only [Act.put, List.setIfInBounds_toArray, List.set_cons_zero, List.set_cons_succ]
        refine wpAnyH_ready (rs := [16]) (by kernel_rfl) (by simp) ?_
        refine AllReadyH.cons (o := ({ dst := some 23, op := Op.call { callee := Callee.value (Operand.func 132), args := #[Operand.tmp 7, Operand.tmp 10, Operand.tmp 22], argTypes := #[107, 186, 110] }, type := 110, pos := "expr.go:135", after := #[{ on := 0, ground := Ground.data }, { on := 3, ground := Ground.data }, { on := 15, ground := Ground.data }, { on := 15, ground := Ground.chain }], guard := none } : Oper)) rfl (fun K hK => ?_) AllReadyH.nil
        go_simp
        refine (chain_calls 187 #[] cap1 R sgCat v2 u1xca (HH.out.below HBD0a1.out).blk (by decide) HWD0a1.out.s2).mono ?_
        rintro e u2xcac ⟨⟨cap2, rfl, hcl2⟩, hbel⟩
        have HBD0a12 : Asd (Below w.heap.size w u2xcac) := Asd.mk (HBD0a1.out.trans (hbel.mono HBD0a1.out.size))
        have HWD0a12 := Asd.mk (HWD0a1.out.below hbel)
        have HCL2 := Asd.mk hcl2
        have HCL0 := Asd.mk (HCL0.out.below hbel)
        have HCL1 := Asd.mk (HCL1.out.below hbel)
        have HAL := Asd.mk (blk_below hbel HAL.out)
        clear hcl2 hbel
        go_wp2_with fail
        refine hK.out _ _ (keep2 HWD0a12.out) (fun hHeld => ?_)
        clear hK K
        try simp only [Act.put, List.setIfInBounds_toArray, List.set_cons_zero, List.set_cons_succ]
        have y0 := (blk_cell HAL.out 0).trans rfl
        have z0 := blk_frozen HAL.out 0
        have hstf := Fr.setCell (S := fun k => k = b4) (Fr.refl _ u2xcac) (p := ⟨b4, 0, none⟩) rfl (.func (.func 187) #[] cap2)
        have HWS := Asd.mk (HWD0a12.out.store HAL.out (v := .func (.func 187) #[] cap2))
        have HBS : Asd (Below w.heap.size w (u2xcac.setCell ⟨b4, 0, none⟩ (.func (.func 187) #[] cap2))) := Asd.mk (HBD0a12.out.setCell HGE.out _)
        have HAS : Asd ((u2xcac.setCell ⟨b4, 0, none⟩ (.func (.func 187) #[] cap2)).heap[b4]? = some (.cells #[.func (.func 187) #[] cap2] 110 (0, 0))) := Asd.mk ((blk_set HAL.out 0 _).trans rfl)
        have HKS : Asd (CatK R cap2 (u2xcac.setCell ⟨b4, 0, none⟩ (.func (.func 187) #[] cap2))) := Asd.mk ⟨cap0, cap1, HCL0.out.store (by decide) HAL.out _, HCL1.out.store (by decide) HAL.out _, HCL2.out.store (by decide) HAL.out _⟩
        refine wpAnyH_ready (rs := [18]) (by kernel_rfl) (by simp) ?_
        refine AllReadyH.cons (o := ({ dst := none, op := Op.store 110 (Operand.tmp 4) (Operand.tmp 23), type := 0, pos := "expr.go:135", after := #[{ on := 17, ground := Ground.data }, { on := 16, ground := Ground.data }, { on := 16, ground := Ground.chain }, { on := 0, ground := Ground.phase }, { on := 1, ground := Ground.phase }, { on := 2, ground := Ground.phase }, { on := 3, ground := Ground.phase }, { on := 4, ground := Ground.phase }, { on := 5, ground := Ground.phase }, { on := 6, ground := Ground.phase }, { on := 7, ground := Ground.phase }, { on := 8, ground := Ground.phase }, { on := 9, ground := Ground.phase }, { on := 10, ground := Ground.phase }, { on := 11, ground := Ground.phase }, { on := 12, ground := Ground.phase }, { on := 13, ground := Ground.phase }, { on := 14, ground := Ground.phase }, { on := 15, ground := Ground.phase }, { on := 16, ground := Ground.phase }, { on := 17, ground := Ground.phase }], guard := none } : Oper)) rfl (fun K hK => ?_) AllReadyH.nil
        go_simp
        go_wp2_with fail
        refine hK.out _ _ (keep2 HWS.out) (fun hHeld => ?_)
        clear hK K
        try simp only [Act.put, List.setIfInBounds_toArray, List.set_cons_zero, List.set_cons_succ]
        refine wpAnyH_done (by kernel_rfl) ?_ _
        go_wp2
        go_meet
        exact ⟨b4, cap2, rfl, HAS, HBS, HWS, HKS, HGE⟩
    case bq1 =>
      intro K hK
      go_simp
      have HBDa : Asd (Below w.heap.size w (wd.alloc (.cells #[.nilFunc] 110 (0, 0)))) := Asd.mk (below_alloc HBD.out _)
      have HWDa := Asd.mk (HWD.out.below (below_alloc (Below.refl _ wd) (.cells #[.nilFunc] 110 (0, 0))))
      have HAL := Asd.mk (blk_new wd (.cells #[.nilFunc] 110 (0, 0)))
      have HGE : Asd (w.heap.size ≤ wd.heap.size) := Asd.mk HBD.out.size
      go_wp2_with fail
      refine hK.out _ _ (keep2 HWDa.out) (fun hHeld => ?_)
      clear hK K
      try simp only [Act.put, List.setIfInBounds_toArray, List.set_cons_zero, List.set_cons_succ]
      generalize hgb : wd.heap.size = b4 at HAL HGE ⊢
      generalize wd.alloc (.cells #[.nilFunc] 110 (0, 0)) = uax at HBDa HWDa HAL ⊢
      clear hgb
      refine wpAnyH_ready (rs := [14]) (by kernel_rfl) (by simp) ?_
      refine AllReadyH.cons (o := ({ dst := some 21, op := Op.call { callee := Callee.value (Operand.func 132), args := #[Operand.tmp 15, Operand.tmp 18, Operand.tmp 20], argTypes := #[107, 186, 110] }, type := 110, pos := "expr.go:135", after := #[{ on := 8, ground := Ground.data }, { on := 11, ground := Ground.data }, { on := 13, ground := Ground.data }], guard := none } : Oper)) rfl (fun K hK => ?_) AllReadyH.nil
      go_simp
      refine (chain_calls 133 #[.pointer (some ⟨R, 0, none⟩)] #[] R sgProd v4 uax (HH.out.below HBDa.out).blk (by decide) HWDa.out.s4).mono ?_
      rintro e u0xa ⟨⟨cap0, rfl, hcl0⟩, hbel⟩
      have HBDa0 : Asd (Below w.heap.size w u0xa) := Asd.mk (HBDa.out.trans (hbel.mono HBDa.out.size))
      have HWDa0 := Asd.mk (HWDa.out.below hbel)
      have HCL0 := Asd.mk hcl0
      have HAL := Asd.mk (blk_below hbel HAL.out)
      clear hcl0 hbel
      go_wp2_with fail
      refine hK.out _ _ (keep2 HWDa0.out) (fun hHeld => ?_)
      clear hK K
      try simp only [Act.put, List.setIfInBounds_toArray, List.set_cons_zero, List.set_cons_succ]
      refine wpAnyH_ready (rs := [15]) (by kernel_rfl) (by simp) ?_
      refine AllReadyH.cons (o := ({ dst := some 22, op := Op.call { callee := Callee.value (Operand.func 132), args := #[Operand.tmp 11, Operand.tmp 14, Operand.tmp 21], argTypes := #[107, 186, 110] }, type := 110, pos := "expr.go:135", after := #[{ on := 4, ground := Ground.data }, { on := 7, ground := Ground.data }, { on := 14, ground := Ground.data }, { on := 14, ground := Ground.chain }], guard := none } : Oper)) rfl (fun K hK => ?_) AllReadyH.nil
      go_simp
      refine (chain_calls 187 #[] cap0 R sgSum v3 u0xa (HH.out.below HBDa0.out).blk (by decide) HWDa0.out.s3).mono ?_
      rintro e u1xac ⟨⟨cap1, rfl, hcl1⟩, hbel⟩
      have HBDa01 : Asd (Below w.heap.size w u1xac) := Asd.mk (HBDa0.out.trans (hbel.mono HBDa0.out.size))
      have HWDa01 := Asd.mk (HWDa0.out.below hbel)
      have HCL1 := Asd.mk hcl1
      have HCL0 := Asd.mk (HCL0.out.below hbel)
      have HAL := Asd.mk (blk_below hbel HAL.out)
      clear hcl1 hbel
      go_wp2_with fail
      refine hK.out _ _ (keep2 HWDa01.out) (fun hHeld => ?_)
      clear hK K
      try simp only [Act.put, List.setIfInBounds_toArray, List.set_cons_zero, List.set_cons_succ]
      refine wpAnyH_ready (rs := [16]) (by kernel_rfl) (by simp) ?_
      refine AllReadyH.cons (o := ({ dst := some 23, op := Op.call { callee := Callee.value (Operand.func 132), args := #[Operand.tmp 7, Operand.tmp 10, Operand.tmp 22], argTypes := #[107, 186, 110] }, type := 110, pos := "expr.go:135", after := #[{ on := 0, ground := Ground.data }, { on := 3, ground := Ground.data }, { on := 15, ground := Ground.data }, { on := 15, ground := Ground.chain }], guard := none } : Oper)) rfl (fun K hK => ?_) AllReadyH.nil
      go_simp
      refine (chain_calls 187 #[] cap1 R sgCat v2 u1xac (HH.out.below HBDa01.out).blk (by decide) HWDa01.out.s2).mono ?_
      rintro e u2xacc ⟨⟨cap2, rfl, hcl2⟩, hbel⟩
      have HBDa012 : Asd (Below w.heap.size w u2xacc) := Asd.mk (HBDa01.out.trans (hbel.mono HBDa01.out.size))
      have HWDa012 := Asd.mk (HWDa01.out.below hbel)
      have HCL2 := Asd.mk hcl2
      have HCL0 := Asd.mk (HCL0.out.below hbel)
      have HCL1 := Asd.mk (HCL1.out.below hbel)
      have HAL := Asd.mk (blk_below hbel HAL.out)
      clear hcl2 hbel
      go_wp2_with fail
      refine hK.out _ _ (keep2 HWDa012.out) (fun hHeld => ?_)
      clear hK K
      try simp only [Act.put, List.setIfInBounds_toArray, List.set_cons_zero, List.set_cons_succ]
      have y0 := (blk_cell HAL.out 0).trans rfl
      have z0 := blk_frozen HAL.out 0
      have hstf := Fr.setCell (S := fun k => k = b4) (Fr.refl _ u2xacc) (p := ⟨b4, 0, none⟩) rfl (.func (.func 187) #[] cap2)
      have HWS := Asd.mk (HWDa012.out.store HAL.out (v := .func (.func 187) #[] cap2))
      have HBS : Asd (Below w.heap.size w (u2xacc.setCell ⟨b4, 0, none⟩ (.func (.func 187) #[] cap2))) := Asd.mk (HBDa012.out.setCell HGE.out _)
      have HAS : Asd ((u2xacc.setCell ⟨b4, 0, none⟩ (.func (.func 187) #[] cap2)).heap[b4]? = some (.cells #[.func (.func 187) #[] cap2] 110 (0, 0))) := Asd.mk ((blk_set HAL.out 0 _).trans rfl)
      have HKS : Asd (CatK R cap2 (u2xacc.setCell ⟨b4, 0, none⟩ (.func (.func 187) #[] cap2))) := Asd.mk ⟨cap0, cap1, HCL0.out.store (by decide) HAL.out _, HCL1.out.store (by decide) HAL.out _, HCL2.out.store (by decide) HAL.out _⟩
      refine wpAnyH_ready (rs := [18]) (by kernel_rfl) (by simp) ?_
      refine AllReadyH.cons (o := ({ dst := none, op := Op.store 110 (Operand.tmp 4) (Operand.tmp 23), type := 0, pos := "expr.go:135", after := #[{ on := 17, ground := Ground.data }, { on := 16, ground := Ground.data }, { on := 16, ground := Ground.chain }, { on := 0, ground := Ground.phase }, { on := 1, ground := Ground.phase }, { on := 2, ground := Ground.phase }, { on := 3, ground := Ground.phase }, { on := 4, ground := Ground.phase }, { on := 5, ground := Ground.phase }, { on := 6, ground := Ground.phase }, { on := 7, ground := Ground.phase }, { on := 8, ground := Ground.phase }, { on := 9, ground := Ground.phase }, { on := 10, ground := Ground.phase }, { on := 11, ground := Ground.phase }, { on := 12, ground := Ground.phase }, { on := 13, ground := Ground.phase }, { on := 14, ground := Ground.phase }, { on := 15, ground := Ground.phase }, { on := 16, ground := Ground.phase }, { on := 17, ground := Ground.phase }], guard := none } : Oper)) rfl (fun K hK => ?_) AllReadyH.nil
      go_simp
      go_wp2_with fail
      refine hK.out _ _ (keep2 HWS.out) (fun hHeld => ?_)
      clear hK K
      try simp only [Act.put, List.setIfInBounds_toArray, List.set_cons_zero, List.set_cons_succ]
      refine wpAnyH_done (by kernel_rfl) ?_ _
      go_wp2
      go_meet
      exact ⟨b4, cap2, rfl, HAS, HBS, HWS, HKS, HGE⟩
  case rest =>
    obtain ⟨b4, cap', rfl, HA4, HBX, HWX, HKX, HGE⟩ := hcut
    go_upto_region 4 with fail
    have HWD : Asd (OrW w.heap.size (w.heap.size + 1) g R v0 v1 v2 v3 v4 wc.drew) := Asd.mk (HWX.out.below (below_drewN' wc 1))
    have HBD : Asd (Below w.heap.size w wc.drew) := Asd.mk HBX.out.drew
    have HAD : Asd (wc.drew.heap[b4]? = some (.cells #[.func (.func 187) #[] cap'] 110 (0, 0))) := Asd.mk HA4.out
    have HKD : Asd (CatK R cap' wc.drew) := Asd.mk (catK_stays _ _ _ _ (Fr.of_below (below_drewN' wc 1)) HKX.out)
    have hcf : ∀ (args : Array Value) (w : World), (callFunc 187 args).run Tryz.prog w = .ok (.enter 187 args) w := isGo_chain
    refine wp_region_held_drew (S := fun w' => w'.cell? ⟨w.heap.size, 0, none⟩ = some (.pointer (some ⟨R, 0, none⟩)) ∧ w'.cell? ⟨g, 0, none⟩ = some v0 ∧ w'.cell? ⟨g, 1, none⟩ = some v1) (by kernel_rfl) (keep4 HWD.out) (fun hHeld => ?_)
    refine wpAnyH_take (i := 0) (oi := ({ dst := some 25, op := Op.load 107 (Operand.tmp 1), type := 107, pos := "expr.go:137", after := #[], guard := none } : Oper)) (v := ?vb0) rfl (by kernel_rfl) (by kernel_rfl) (by kernel_rfl) (fun _ _ _ h => h) (Or.inl ⟨by rfl, ?hb0⟩) (by assumption) ?rb0
    case hb0 => (intro w hSw; (try dsimp only at hSw); obtain ⟨g0, g1, g2⟩ := hSw; go_simp; try (with_reducible rfl))
    try simp only [Act.put, List.setIfInBounds_toArray, List.set_cons_zero, List.set_cons_succ]
    refine wpAnyH_take (i := 1) (oi := ({ dst := some 26, op := Op.move (Operand.tmp 3), type := 183, pos := "expr.go:137", after := #[], guard := none } : Oper)) (v := ?vb1) rfl (by kernel_rfl) (by kernel_rfl) (by kernel_rfl) (fun _ _ _ h => h) (Or.inl ⟨by rfl, ?hb1⟩) (by assumption) ?rb1
    case hb1 => (intro w hSw; (try dsimp only at hSw); obtain ⟨g0, g1, g2⟩ := hSw; go_simp; try (with_reducible rfl))
    try simp only [Act.put, List.setIfInBounds_toArray, List.set_cons_zero, List.set_cons_succ]
    refine wpAnyH_take (i := 2) (oi := ({ dst := some 27, op := Op.indexAddr 183 (Operand.tmp 26) (Operand.const (Value.int IntKind.i64 0)), type := 0, pos := "expr.go:137", after := #[{ on := 1, ground := Ground.data }], guard := none } : Oper)) (v := ?vb2) rfl (by kernel_rfl) (by kernel_rfl) (by kernel_rfl) (fun _ _ _ h => h) (Or.inl ⟨by rfl, ?hb2⟩) (by assumption) ?rb2
    case hb2 => (intro w hSw; (try dsimp only at hSw); obtain ⟨g0, g1, g2⟩ := hSw; go_simp; try (with_reducible rfl))
    try simp only [Act.put, List.setIfInBounds_toArray, List.set_cons_zero, List.set_cons_succ]
    refine wpAnyH_take (i := 3) (oi := ({ dst := some 28, op := Op.load 186 (Operand.tmp 27), type := 186, pos := "expr.go:137", after := #[{ on := 2, ground := Ground.data }], guard := none } : Oper)) (v := ?vb3) rfl (by kernel_rfl) (by kernel_rfl) (by kernel_rfl) (fun _ _ _ h => h) (Or.inl ⟨by rfl, ?hb3⟩) (by assumption) ?rb3
    case hb3 => (intro w hSw; (try dsimp only at hSw); obtain ⟨g0, g1, g2⟩ := hSw; go_simp; try (with_reducible rfl))
    try simp only [Act.put, List.setIfInBounds_toArray, List.set_cons_zero, List.set_cons_succ]
    refine wpAnyH_take (i := 4) (oi := ({ dst := some 29, op := Op.load 107 (Operand.tmp 1), type := 107, pos := "expr.go:137", after := #[], guard := none } : Oper)) (v := ?vb4) rfl (by kernel_rfl) (by kernel_rfl) (by kernel_rfl) (fun _ _ _ h => h) (Or.inl ⟨by rfl, ?hb4⟩) (by assumption) ?rb4
    case hb4 => (intro w hSw; (try dsimp only at hSw); obtain ⟨g0, g1, g2⟩ := hSw; go_simp; try (with_reducible rfl))
    try simp only [Act.put, List.setIfInBounds_toArray, List.set_cons_zero, List.set_cons_succ]
    refine wpAnyH_take (i := 5) (oi := ({ dst := some 30, op := Op.move (Operand.tmp 3), type := 183, pos := "expr.go:137", after := #[], guard := none } : Oper)) (v := ?vb5) rfl (by kernel_rfl) (by kernel_rfl) (by kernel_rfl) (fun _ _ _ h => h) (Or.inl ⟨by rfl, ?hb5⟩) (by assumption) ?rb5
    case hb5 => (intro w hSw; (try dsimp only at hSw); obtain ⟨g0, g1, g2⟩ := hSw; go_simp; try (with_reducible rfl))
    try simp only [Act.put, List.setIfInBounds_toArray, List.set_cons_zero, List.set_cons_succ]
    refine wpAnyH_take (i := 6) (oi := ({ dst := some 31, op := Op.indexAddr 183 (Operand.tmp 30) (Operand.const (Value.int IntKind.i64 1)), type := 0, pos := "expr.go:137", after := #[{ on := 5, ground := Ground.data }], guard := none } : Oper)) (v := ?vb6) rfl (by kernel_rfl) (by kernel_rfl) (by kernel_rfl) (fun _ _ _ h => h) (Or.inl ⟨by rfl, ?hb6⟩) (by assumption) ?rb6
    case hb6 => (intro w hSw; (try dsimp only at hSw); obtain ⟨g0, g1, g2⟩ := hSw; go_simp; try (with_reducible rfl))
    try simp only [Act.put, List.setIfInBounds_toArray, List.set_cons_zero, List.set_cons_succ]
    refine wpAnyH_take (i := 7) (oi := ({ dst := some 32, op := Op.load 186 (Operand.tmp 31), type := 186, pos := "expr.go:137", after := #[{ on := 6, ground := Ground.data }], guard := none } : Oper)) (v := ?vb7) rfl (by kernel_rfl) (by kernel_rfl) (by kernel_rfl) (fun _ _ _ h => h) (Or.inl ⟨by rfl, ?hb7⟩) (by assumption) ?rb7
    case hb7 => (intro w hSw; (try dsimp only at hSw); obtain ⟨g0, g1, g2⟩ := hSw; go_simp; try (with_reducible rfl))
    try simp only [Act.put, List.setIfInBounds_toArray, List.set_cons_zero, List.set_cons_succ]
    refine wpAnyH_take (i := 8) (oi := ({ dst := some 33, op := Op.move (Operand.tmp 5), type := 110, pos := "expr.go:137", after := #[], guard := none } : Oper)) (v := ?vb8) rfl (by kernel_rfl) (by kernel_rfl) (by kernel_rfl) (fun _ _ _ h => h) (Or.inl ⟨by rfl, ?hb8⟩) (by assumption) ?rb8
    case hb8 => (intro w hSw; (try dsimp only at hSw); obtain ⟨g0, g1, g2⟩ := hSw; go_simp; try (with_reducible rfl))
    try simp only [Act.put, List.setIfInBounds_toArray, List.set_cons_zero, List.set_cons_succ]
    refine wpAnyH_ready (rs := [9]) (by kernel_rfl) (by simp) ?_
    refine AllReadyH.cons (o := ({ dst := some 34, op := Op.call { callee := Callee.value (Operand.func 132), args := #[Operand.tmp 29, Operand.tmp 32, Operand.tmp 33], argTypes := #[107, 186, 110] }, type := 110, pos := "expr.go:137", after := #[{ on := 4, ground := Ground.data }, { on := 7, ground := Ground.data }, { on := 8, ground := Ground.data }], guard := none } : Oper)) rfl (fun K hK => ?_) AllReadyH.nil
    go_simp
    refine (chain_calls 134 #[] #[.pointer (some ⟨w.heap.size, 0, none⟩), .pointer (some ⟨b4, 0, none⟩)] R sgAnd v1 wc.drew (HH.out.below HBD.out).blk (by decide) HWD.out.s1).mono ?_
    rintro e u1 ⟨⟨cap1, rfl, hcl1⟩, hbel⟩
    have HKD1 := Asd.mk (catK_stays _ _ _ _ (Fr.of_below hbel) HKD.out)
    have HAD1 := Asd.mk (blk_below hbel HAD.out)
    have HW2 := Asd.mk (HWD.out.below hbel)
    have HCL1 : Asd (OpOK 187 cap1 R A m c l (andP nm l sub) d u1) := Asd.mk (hcl1.op sgAnd_ok isGo_or1 HNE.out (notP_ahd HAH.out) (fun w' hf i' hr => by
      have := or1_calls cap' (CatK R cap') w.heap.size b4 R A m c l (notP nm l sub) i' d w' (catK_stays _ _ _ _ hf HKD1.out) (catK_stays _ _) (blk_fr HW2.out.p1 hf (by show ¬ w.heap.size = R; have := HRW.out; omega)) (blk_fr HAD1.out hf (by show ¬ b4 = R; have := HRW.out; have := HGE.out; omega)) (HNT.out cap') hr
      rw [Array.empty_append]; exact this))
    have HB1 : Asd (Below w.heap.size w u1) := Asd.mk (HBD.out.trans (hbel.mono HBD.out.size))
    clear hcl1 hbel
    go_wp2_with fail
    refine hK.out _ _ (keep4 HW2.out) (fun hHeld => ?_)
    clear hK K
    try simp only [Act.put, List.setIfInBounds_toArray, List.set_cons_zero, List.set_cons_succ]
    refine wpAnyH_ready (rs := [10]) (by kernel_rfl) (by simp) ?_
    refine AllReadyH.cons (o := ({ dst := some 35, op := Op.call { callee := Callee.value (Operand.func 132), args := #[Operand.tmp 25, Operand.tmp 28, Operand.tmp 34], argTypes := #[107, 186, 110] }, type := 110, pos := "expr.go:137", after := #[{ on := 0, ground := Ground.data }, { on := 3, ground := Ground.data }, { on := 9, ground := Ground.data }, { on := 9, ground := Ground.chain }], guard := none } : Oper)) rfl (fun K hK => ?_) AllReadyH.nil
    go_simp
    refine (chain_calls 187 #[] cap1 R sgOr v0 u1 (HH.out.below HB1.out).blk (by decide) HW2.out.s0).mono ?_
    rintro e u2 ⟨⟨cap2, rfl, hcl2⟩, hbel⟩
    have HCL2 : Asd (OpOK 187 cap2 R A m c l (orP nm l sub) d u2) := Asd.mk (hcl2.op sgOr_ok isGo_chain HNE.out (andP_ahd HAH.out) (by rw [Array.empty_append]; exact HCL1.out.fr (Fr.of_below hbel)))
    have HB2 : Asd (Below w.heap.size w u2) := Asd.mk (HB1.out.trans (hbel.mono HB1.out.size))
    have HW3 := Asd.mk (HW2.out.below hbel)
    clear hcl2 hbel
    go_wp2_with fail
    refine hK.out _ _ (keep4 HW3.out) (fun hHeld => ?_)
    clear hK K
    try simp only [Act.put, List.setIfInBounds_toArray, List.set_cons_zero, List.set_cons_succ]
    refine wpAnyH_ready (rs := [11]) (by kernel_rfl) (by simp) ?_
    refine AllReadyH.cons (o := ({ dst := some 36, op := Op.call { callee := Callee.value (Operand.tmp 35), args := #[], argTypes := #[] }, type := 58, pos := "expr.go:137", after := #[{ on := 10, ground := Ground.data }, { on := 10, ground := Ground.chain }], guard := none } : Oper)) rfl (fun K hK => ?_) AllReadyH.nil
    go_simp
    refine (HCL2.out u2 (Fr.refl _ _) i (HH.out.below HB2.out)).mono ?_
    rintro e u3 ⟨hf3, hm⟩
    have HF3 := Asd.mk (frR_below HB2.out hf3)
    have HZ3 := Asd.mk (blk_fr HW3.out.z hf3 (by show ¬ w.heap.size + 1 = R; have := HRW.out; omega))
    have hkeep := keep4F HW3.out hf3 (by have := HRW.out; omega) (cellsT_ne HW3.out.p3 (HH.out.below HB2.out).blk (by simp))
    have HSZ : Asd (w.heap.size + 1 < u2.heap.size) := Asd.mk (blk_lt HW3.out.z)
    clear hf3
    cases hfi : orP nm l sub i with
    | error er =>
      rw [hfi] at hm
      obtain ⟨N, rfl, hN⟩ := hm
      have HE := Asd.mk hfi
      clear hfi
      refine ⟨rfl, ?_⟩
      exact got_error HF3.out ⟨N, rfl, hN⟩
    | ok y =>
      obtain ⟨x, j⟩ := y
      rw [hfi] at hm
      have HE := Asd.mk hfi
      obtain ⟨s, rfl, hh, hr⟩ := hm
      obtain ⟨As, ms, cs, rfl⟩ := held_slice hh
      have HHX := Asd.mk hh
      have HRX := Asd.mk hr
      clear hfi hh hr
      unfold exV
      go_wp2_with fail
      refine hK.out _ _ hkeep (fun hHeld => ?_)
      clear hK K
      try simp only [Act.put, List.setIfInBounds_toArray, List.set_cons_zero, List.set_cons_succ]
      have y0 := (blk_cell HZ3.out 0).trans rfl
      have y1 := (blk_cell HZ3.out 1).trans rfl
      have y2 := (blk_cell HZ3.out 2).trans rfl
      have y3 := (blk_cell HZ3.out 3).trans rfl
      have y4 := (blk_cell HZ3.out 4).trans rfl
      have y5 := (blk_cell HZ3.out 5).trans rfl
      have y6 := (blk_cell HZ3.out 6).trans rfl
      have y7 := (blk_cell HZ3.out 7).trans rfl
      have y8 := (blk_cell HZ3.out 8).trans rfl
      have y9 := (blk_cell HZ3.out 9).trans rfl
      have z0 := blk_frozen HZ3.out 0
      have z1 := blk_frozen HZ3.out 1
      have z2 := blk_frozen HZ3.out 2
      have z3 := blk_frozen HZ3.out 3
      have z4 := blk_frozen HZ3.out 4
      have z5 := blk_frozen HZ3.out 5
      have z6 := blk_frozen HZ3.out 6
      have z7 := blk_frozen HZ3.out 7
      have z8 := blk_frozen HZ3.out 8
      have z9 := blk_frozen HZ3.out 9
      have hk5 := keep4S hkeep (put10_fr (W := u3) (b := w.heap.size + 1) (S := fun k => k = w.heap.size + 1) rfl (.int .i64 x.kind) (.int .i64 x.op) (.int .i64 x.v.kind) (.int .i64 x.v.int) (.string ⟨x.v.text.toArray⟩) (.string ⟨x.table.toArray⟩) (.string ⟨x.name.toArray⟩) (.int .i64 x.col) (.int .i64 x.ty) (.slice As ms cs)) (by omega) (cellsT_ne HW3.out.p3 HW3.out.z (by simp))
      refine wpAnyH_ready (rs := [12]) (by kernel_rfl) (by simp) ?_
      refine AllReadyH.cons (o := ({ dst := none, op := Op.store 58 (Operand.tmp 2) (Operand.tmp 36), type := 0, pos := "expr.go:137", after := #[{ on := 11, ground := Ground.data }, { on := 11, ground := Ground.chain }, { on := 0, ground := Ground.phase }, { on := 1, ground := Ground.phase }, { on := 2, ground := Ground.phase }, { on := 3, ground := Ground.phase }, { on := 4, ground := Ground.phase }, { on := 5, ground := Ground.phase }, { on := 6, ground := Ground.phase }, { on := 7, ground := Ground.phase }, { on := 8, ground := Ground.phase }, { on := 9, ground := Ground.phase }, { on := 10, ground := Ground.phase }, { on := 11, ground := Ground.phase }], guard := none } : Oper)) rfl (fun K hK => ?_) AllReadyH.nil
      go_simp
      go_wp2_with fail
      refine hK.out _ _ hk5 (fun hHeld => ?_)
      clear hK K
      try simp only [Act.put, List.setIfInBounds_toArray, List.set_cons_zero, List.set_cons_succ]
      refine wpAnyH_done (by kernel_rfl) ?_ _
      go_wp2
      refine bodyPost_ret (results_cell_row rfl _ _ (w.heap.size + 1) 58 _ (0, 0) _ rfl (put10_blk HZ3.out _ _ _ _ _ _ _ _ _ _) Tryz.underlying58 rfl (by kernel_rfl)) rfl ?_
      rw [HE.out]
      exact fin_got HH.out HF3.out (by omega) HRX.out (held_mono HHX.out fun g' _ hg => by have h1 : u2.heap.size ≤ g' := hg; have := HSZ.out; exact ⟨by omega, by omega⟩)
end Go.Proofs.YtcefmhofidoloaaGreatDoor.Exp

/- The reader of expressions: item. -/
set_option linter.unusedVariables false
set_option linter.unusedSimpArgs false
namespace Go.Proofs.YtcefmhofidoloaaGreatDoor.Exp
open Go.RowKit Go.Proofs.YtcefmhofidoloaaGreatDoor.Base Go.Proofs.YtcefmhofidoloaaGreatDoor.App Go.Proofs.YtcefmhofidoloaaGreatDoor.Byt Go.Proofs.YtcefmhofidoloaaGreatDoor.Lex

/-- The variable at b holds an expression. -/
def ExAt (b base : Nat) (x : Ex) (W : World) : Prop := ∃ A n c, W.heap[b]? = some (.cells (exC x (.slice A n c)).toArray 58 (0, 0)) ∧ Held (fun g => base ≤ g ∧ g ≠ b) W x.args (.slice A n c)
theorem ExAt.set {b base : Nat} {x : Ex} {W : World} (h : ExAt b base x W) {R : Nat} (hb : b ≠ R) (hR : R < base) (j : Nat) (v : Value) : ExAt b base x (W.setCell ⟨R, j, none⟩ v) := by
  obtain ⟨A, n, c, h1, h2⟩ := h
  exact ⟨A, n, c, blk_far h1 hb _, held_frS h2 (Fr.setCell (S := fun k => k = R) (Fr.refl _ W) (p := ⟨R, j, none⟩) rfl v) (fun g hg h => by have h1 := hg.1; have h2 : g = R := h; omega)⟩
theorem ExAt.mono {b base base' : Nat} {x : Ex} {W : World} (h : ExAt b base x W) (hb : base' ≤ base) : ExAt b base' x W := by
  obtain ⟨A, n, c, h1, h2⟩ := h
  exact ⟨A, n, c, h1, held_mono h2 (fun g _ hg => ⟨by have := hg.1; omega, hg.2⟩)⟩
/-- What stands in brackets, with the bracket behind. -/
def inB (l : Toks) (r : Res Ex) : Except (Nat × Int) Nat := match r with
  | .ok x => mustT l x.2 5 [41]
  | .error x => .error x
def exOf (r : Res Ex) : Ex := match r with
  | .ok x => x.1
  | .error _ => litE vNull
set_option maxRecDepth 100000 in
set_option maxHeartbeats 6400000 in
theorem item1_calls (b1 b R : Nat) (A : Option Addr) (m c : Nat) (l : Toks) (f : Nat → Res Ex) (i d : Nat) (w : World) (hnear : Near l)
    (p1 : w.heap[b1]? = some (.cells #[.pointer (some ⟨R, 0, none⟩)] 107 (0, 0))) (pb : w.heap[b]? = some (.cells #[.int .i64 0, .int .i64 0, .int .i64 0, .int .i64 0, .string ⟨#[]⟩, .string ⟨#[]⟩, .string ⟨#[]⟩, .int .i64 0, .int .i64 0, .slice none 0 0] 58 (0, 0))) (n1 : b1 ≠ R) (hrb : R < b) (n1b : b1 ≠ b)
    (hf : PartOK 59 R A m c l f d) (h : RdW w R A m c l i d) :
    Calls Tryz.prog 243 #[.pointer (some ⟨b1, 0, none⟩), .pointer (some ⟨b, 0, none⟩)] w fun e w' => Fr (fun k => k = R ∨ k = b) w w' ∧ Ins R A m c l d (inB l (f i)) (ExAt b w.heap.size (exOf (f i))) e w' := by
  have HH := Asd.mk h
  have HF := Asd.mk hf
  have HNE := Asd.mk hnear
  have HRB := Asd.mk hrb
  have HLB : Asd (b < w.heap.size) := Asd.mk (blk_lt pb)
  have HP1 := Asd.mk p1
  have HPB := Asd.mk pb
  have HN1 := Asd.mk n1
  have HN1B := Asd.mk n1b
  have c1 := (blk_cell p1 0).trans rfl
  clear h hf hnear hrb p1 pb n1 n1b
  go_enter Tryz.func243, Tryz.ntmps243
  go_wp2_with fail
  refine (HF.out w i HH.out).mono ?_
  rintro e w1 ⟨hf1, hm⟩
  have HF1 := Asd.mk hf1
  have HP2 := Asd.mk (blk_fr HP1.out hf1 HN1.out)
  have HB2 := Asd.mk (blk_fr HPB.out hf1 (by show ¬ b = R; have := HRB.out; omega))
  clear hf1
  cases hfi : f i with
  | error er =>
    rw [hfi] at hm
    obtain ⟨N, rfl, hN⟩ := hm
    have HE := Asd.mk hfi
    clear hfi
    go_wp2
    refine ⟨rfl, HF1.out.mono (fun k h _ => .inl h), ?_⟩
    try rw [HE.out]
    exact ⟨N, rfl, hN⟩
  | ok y =>
    obtain ⟨x, j⟩ := y
    rw [hfi] at hm
    have HE := Asd.mk hfi
    obtain ⟨s, rfl, hh, hr⟩ := hm
    obtain ⟨As, ms, cs, rfl⟩ := held_slice hh
    have HHX := Asd.mk hh
    have HRX := Asd.mk hr
    clear hfi hh hr
    unfold exV
    have y0 := (blk_cell HB2.out 0).trans rfl
    have y1 := (blk_cell HB2.out 1).trans rfl
    have y2 := (blk_cell HB2.out 2).trans rfl
    have y3 := (blk_cell HB2.out 3).trans rfl
    have y4 := (blk_cell HB2.out 4).trans rfl
    have y5 := (blk_cell HB2.out 5).trans rfl
    have y6 := (blk_cell HB2.out 6).trans rfl
    have y7 := (blk_cell HB2.out 7).trans rfl
    have y8 := (blk_cell HB2.out 8).trans rfl
    have y9 := (blk_cell HB2.out 9).trans rfl
    have z0 := blk_frozen HB2.out 0
    have z1 := blk_frozen HB2.out 1
    have z2 := blk_frozen HB2.out 2
    have z3 := blk_frozen HB2.out 3
    have z4 := blk_frozen HB2.out 4
    have z5 := blk_frozen HB2.out 5
    have z6 := blk_frozen HB2.out 6
    have z7 := blk_frozen HB2.out 7
    have z8 := blk_frozen HB2.out 8
    have z9 := blk_frozen HB2.out 9
    have hst := put10_fr (W := w1) (b := b) (S := fun k => k = b) rfl (.int .i64 x.kind) (.int .i64 x.op) (.int .i64 x.v.kind) (.int .i64 x.v.int) (.string ⟨x.v.text.toArray⟩) (.string ⟨x.table.toArray⟩) (.string ⟨x.name.toArray⟩) (.int .i64 x.col) (.int .i64 x.ty) (.slice As ms cs)
    have HB3 : Asd (((((((((((w1.setCell ⟨b, 0, none⟩ (.int .i64 x.kind)).setCell ⟨b, 1, none⟩ (.int .i64 x.op)).setCell ⟨b, 2, none⟩ (.int .i64 x.v.kind)).setCell ⟨b, 3, none⟩ (.int .i64 x.v.int)).setCell ⟨b, 4, none⟩ (.string ⟨x.v.text.toArray⟩)).setCell ⟨b, 5, none⟩ (.string ⟨x.table.toArray⟩)).setCell ⟨b, 6, none⟩ (.string ⟨x.name.toArray⟩)).setCell ⟨b, 7, none⟩ (.int .i64 x.col)).setCell ⟨b, 8, none⟩ (.int .i64 x.ty)).setCell ⟨b, 9, none⟩ (.slice As ms cs)).heap[b]? = some (.cells (exC x (.slice As ms cs)).toArray 58 (0, 0))) := Asd.mk (put10_blk HB2.out _ _ _ _ _ _ _ _ _ _)
    have HF3 : Asd (Fr (fun k => k = R ∨ k = b) w ((((((((((w1.setCell ⟨b, 0, none⟩ (.int .i64 x.kind)).setCell ⟨b, 1, none⟩ (.int .i64 x.op)).setCell ⟨b, 2, none⟩ (.int .i64 x.v.kind)).setCell ⟨b, 3, none⟩ (.int .i64 x.v.int)).setCell ⟨b, 4, none⟩ (.string ⟨x.v.text.toArray⟩)).setCell ⟨b, 5, none⟩ (.string ⟨x.table.toArray⟩)).setCell ⟨b, 6, none⟩ (.string ⟨x.name.toArray⟩)).setCell ⟨b, 7, none⟩ (.int .i64 x.col)).setCell ⟨b, 8, none⟩ (.int .i64 x.ty)).setCell ⟨b, 9, none⟩ (.slice As ms cs))) := Asd.mk (HF1.out.trans hst (fun k h _ => .inl h) (fun k h _ => .inr h))
    have HR3 : Asd (RdW ((((((((((w1.setCell ⟨b, 0, none⟩ (.int .i64 x.kind)).setCell ⟨b, 1, none⟩ (.int .i64 x.op)).setCell ⟨b, 2, none⟩ (.int .i64 x.v.kind)).setCell ⟨b, 3, none⟩ (.int .i64 x.v.int)).setCell ⟨b, 4, none⟩ (.string ⟨x.v.text.toArray⟩)).setCell ⟨b, 5, none⟩ (.string ⟨x.table.toArray⟩)).setCell ⟨b, 6, none⟩ (.string ⟨x.name.toArray⟩)).setCell ⟨b, 7, none⟩ (.int .i64 x.col)).setCell ⟨b, 8, none⟩ (.int .i64 x.ty)).setCell ⟨b, 9, none⟩ (.slice As ms cs)) R A m c l j d) := Asd.mk (HRX.out.var (x := .mk 0 0 vNull [] [] 0 0 []) (y := x) hst (by have := HRB.out; omega) HRB.out HB2.out HB3.out)
    have HP3 := Asd.mk (blk_fr HP2.out hst HN1B.out)
    have HH3 := Asd.mk (held_frS (held_mono HHX.out (fun g _ hg => (⟨hg, by have h1 : w.heap.size ≤ g := hg; have := HLB.out; omega⟩ : w.heap.size ≤ g ∧ g ≠ b))) hst (fun g hg h => hg.2 h))
    clear hst
    have c2 := (blk_cell HP3.out 0).trans rfl
    go_wp2_with fail
    generalize ((((((((((w1.setCell ⟨b, 0, none⟩ (.int .i64 x.kind)).setCell ⟨b, 1, none⟩ (.int .i64 x.op)).setCell ⟨b, 2, none⟩ (.int .i64 x.v.kind)).setCell ⟨b, 3, none⟩ (.int .i64 x.v.int)).setCell ⟨b, 4, none⟩ (.string ⟨x.v.text.toArray⟩)).setCell ⟨b, 5, none⟩ (.string ⟨x.table.toArray⟩)).setCell ⟨b, 6, none⟩ (.string ⟨x.name.toArray⟩)).setCell ⟨b, 7, none⟩ (.int .i64 x.col)).setCell ⟨b, 8, none⟩ (.int .i64 x.ty)).setCell ⟨b, 9, none⟩ (.slice As ms cs)) = w3 at HB3 HF3 HR3 HP3 HH3 ⊢
    refine (must_calls R A m c l j d 5 [41] w3 HNE.out (by omega) HR3.out).mono ?_
    rintro e w4 ⟨hf4, hm⟩
    have HF4 : Asd (Fr (fun k => k = R ∨ k = b) w w4) := Asd.mk (HF3.out.trans hf4 (fun k h _ => h) (fun k h _ => .inl h))
    have HB4 := Asd.mk (blk_fr HB3.out hf4 (by show ¬ b = R; have := HRB.out; omega))
    have HH4 := Asd.mk (held_frS HH3.out hf4 (fun g hg h => by have h1 := hg.1; have h2 : g = R := h; have := blk_lt HH.out.blk; omega))
    clear hf4
    cases hM : mustT l j 5 [41] with
    | error er =>
      rw [hM] at hm
      obtain ⟨N, rfl, hN⟩ := hm
      have HM := Asd.mk hM
      clear hM
      go_wp2
      refine ⟨rfl, HF4.out, ?_⟩
      rw [HE.out]
      show Ins _ _ _ _ _ _ (mustT l j 5 [41]) _ _ _
      rw [HM.out]
      exact ⟨N, rfl, hN⟩
    | ok q =>
      rw [hM] at hm
      obtain ⟨rfl, hr4⟩ := hm
      have HR4 := Asd.mk hr4
      have HM := Asd.mk hM
      clear hM hr4
      go_wp2
      refine bodyPost_end (results_none rfl _ _ _) rfl ?_
      refine ⟨HF4.out, ?_⟩
      rw [HE.out]
      show Ins _ _ _ _ _ _ (mustT l j 5 [41]) _ _ _
      rw [HM.out]
      exact ⟨rfl, HR4.out, As, ms, cs, HB4.out, HH4.out⟩
set_option maxRecDepth 100000 in
set_option maxHeartbeats 12800000 in
theorem item_calls (nm : List UInt8 → Bool) (R : Nat) (A : Option Addr) (m c : Nat) (l : Toks) (sub : Option PF) (i d : Nat) (w : World) (hnear : Near l) (hd : d ≤ 32)
    (hword : ∀ (w : World) (i : Nat) (s : List UInt8), i < l.length → RdW w R A m c l i d → Calls Tryz.prog 241 #[.pointer (some ⟨R, 0, none⟩), .string ⟨s.toArray⟩] w (Got R A m c l d w (wordP nm l sub s i)))
    (hsome : ∀ p, sub = some p → d < 32 ∧ PartOK 59 R A m c l p.or (d + 1)) (hnone : sub = none → ¬ d < 32) (h : RdW w R A m c l i d) :
    Calls Tryz.prog 191 #[.pointer (some ⟨R, 0, none⟩)] w (Got R A m c l d w (itemP nm l sub i)) := by
  have HH := Asd.mk h
  have HWO := Asd.mk hword
  have HSO := Asd.mk hsome
  have HNO := Asd.mk hnone
  have HNE := Asd.mk hnear
  have HD := Asd.mk hd
  have hmf := mk_func
  have HBA := Asd.mk (below_alloc (below_alloc (Below.refl _ w) (.cells #[.pointer (some ⟨R, 0, none⟩)] 107 (0, 0))) (.cells #[.int .i64 0, .int .i64 0, .int .i64 0, .int .i64 0, .string ⟨#[]⟩, .string ⟨#[]⟩, .string ⟨#[]⟩, .int .i64 0, .int .i64 0, .slice none 0 0] 58 (0, 0)))
  have HP1 := Asd.mk (blk_alloc (blk_new w (.cells #[.pointer (some ⟨R, 0, none⟩)] 107 (0, 0))) (.cells #[.int .i64 0, .int .i64 0, .int .i64 0, .int .i64 0, .string ⟨#[]⟩, .string ⟨#[]⟩, .string ⟨#[]⟩, .int .i64 0, .int .i64 0, .slice none 0 0] 58 (0, 0)))
  have HZ0 := Asd.mk (nb1 w (.cells #[.pointer (some ⟨R, 0, none⟩)] 107 (0, 0)) (.cells #[.int .i64 0, .int .i64 0, .int .i64 0, .int .i64 0, .string ⟨#[]⟩, .string ⟨#[]⟩, .string ⟨#[]⟩, .int .i64 0, .int .i64 0, .slice none 0 0] 58 (0, 0)))
  have HRW : Asd (R < w.heap.size) := Asd.mk (blk_lt h.blk)
  have hib : i ≤ 16384 := by have h1 := h.tok.1; have h2 := h.tok.2.1; have h3 := h.le; omega
  clear h hword hsome hnone hnear hd
  go_enter Tryz.func191, Tryz.ntmps191
  go_wp2_with fail
  generalize (w.alloc (.cells #[.pointer (some ⟨R, 0, none⟩)] 107 (0, 0))).alloc (.cells #[.int .i64 0, .int .i64 0, .int .i64 0, .int .i64 0, .string ⟨#[]⟩, .string ⟨#[]⟩, .string ⟨#[]⟩, .int .i64 0, .int .i64 0, .slice none 0 0] 58 (0, 0)) = w0 at HBA HP1 HZ0 ⊢
  refine (token_calls R A m c l i d w0 (HH.out.below HBA.out)).mono ?_
  rintro e w1 ⟨rfl, hb1⟩
  have HB1 : Asd (Below w.heap.size w w1) := Asd.mk (HBA.out.trans (hb1.mono HBA.out.size))
  have HP2 := Asd.mk (blk_below hb1 HP1.out)
  have HZ1 := Asd.mk (blk_below hb1 HZ0.out)
  have HSZ : Asd (w.heap.size + 1 < w1.heap.size) := Asd.mk (blk_lt HZ1.out)
  clear hb1 HBA HP1 HZ0
  by_cases hlt : i < l.length
  · rw [tkV_some hlt]
    have HL := Asd.mk (List.getElem?_eq_getElem hlt)
    generalize l[i] = x at HL ⊢
    obtain ⟨⟨kd, tx, nu⟩, pl⟩ := x
    simp only
    by_cases h2 : kd = 2
    · subst h2
      have HI : Asd (itemP nm l sub i = .ok (litE ⟨2, nu, []⟩, i + 1)) := Asd.mk (by unfold itemP; rw [HL.out]; simp)
      have HB2 : Asd (Below w.heap.size w (w1.alloc (.cells #[.int .i64 2, .string ⟨tx.toArray⟩, .int .i64 ((pl : Nat) : Int), .int .i64 nu] 52 (0, 0)))) := Asd.mk (below_alloc HB1.out _)
      have HT2 := Asd.mk (blk_new w1 (.cells #[.int .i64 2, .string ⟨tx.toArray⟩, .int .i64 ((pl : Nat) : Int), .int .i64 nu] 52 (0, 0)))
      have HZ2 := Asd.mk (blk_alloc HZ1.out (.cells #[.int .i64 2, .string ⟨tx.toArray⟩, .int .i64 ((pl : Nat) : Int), .int .i64 nu] 52 (0, 0)))
      have HP3 := Asd.mk (blk_alloc HP2.out (.cells #[.int .i64 2, .string ⟨tx.toArray⟩, .int .i64 ((pl : Nat) : Int), .int .i64 nu] 52 (0, 0)))
      have HR2 := Asd.mk (HH.out.below HB2.out)
      have c1 := (blk_cell HP3.out 0).trans rfl
      have r1 := (blk_cell HR2.out.blk 1).trans rfl
      have z1 := blk_frozen HR2.out.blk 1
      have hs := HR2.out.set (j := i + 1) (by omega)
      have HRS := Asd.mk hs.2
      have HFS := Asd.mk (frR_below HB2.out hs.1)
      have HZS := Asd.mk (blk_fr HZ2.out hs.1 (by show ¬ w.heap.size + 1 = R; have := HRW.out; omega))
      have t2 : ((w1.alloc (.cells #[.int .i64 2, .string ⟨tx.toArray⟩, .int .i64 ((pl : Nat) : Int), .int .i64 nu] 52 (0, 0))).setCell ⟨R, 1, none⟩ (.int .i64 ((i : Int) + 1))).cell? ⟨w1.heap.size, 3, none⟩ = some (.int .i64 nu) := cell_frS hs.1 (by show ¬ w1.heap.size = R; have := HRW.out; have := HSZ.out; omega) ((blk_cell HT2.out 3).trans rfl)
      clear hs
      go_wp2_with fail
      change Calls _ _ _ ((w1.alloc (.cells #[.int .i64 2, .string ⟨tx.toArray⟩, .int .i64 ((pl : Nat) : Int), .int .i64 nu] 52 (0, 0))).setCell ⟨R, 1, none⟩ (.int .i64 ((i + 1 : Nat) : Int))) _
      generalize ((w1.alloc (.cells #[.int .i64 2, .string ⟨tx.toArray⟩, .int .i64 ((pl : Nat) : Int), .int .i64 nu] 52 (0, 0))).setCell ⟨R, 1, none⟩ (.int .i64 ((i + 1 : Nat) : Int))) = w3 at HRS HFS HZS ⊢
      refine (literal_calls ⟨2, nu, []⟩ w3).mono ?_
      rintro e w4 ⟨rfl, hb4⟩
      have HF4 := Asd.mk (below_frR HFS.out hb4)
      have HZ4 := Asd.mk (blk_below hb4 HZS.out)
      have HR4 := Asd.mk (HRS.out.below hb4)
      clear hb4 t2 c1 r1 z1
      unfold exV
      have y0 := (blk_cell HZ4.out 0).trans rfl
      have y1 := (blk_cell HZ4.out 1).trans rfl
      have y2 := (blk_cell HZ4.out 2).trans rfl
      have y3 := (blk_cell HZ4.out 3).trans rfl
      have y4 := (blk_cell HZ4.out 4).trans rfl
      have y5 := (blk_cell HZ4.out 5).trans rfl
      have y6 := (blk_cell HZ4.out 6).trans rfl
      have y7 := (blk_cell HZ4.out 7).trans rfl
      have y8 := (blk_cell HZ4.out 8).trans rfl
      have y9 := (blk_cell HZ4.out 9).trans rfl
      have z0 := blk_frozen HZ4.out 0
      have z1 := blk_frozen HZ4.out 1
      have z2 := blk_frozen HZ4.out 2
      have z3 := blk_frozen HZ4.out 3
      have z4 := blk_frozen HZ4.out 4
      have z5 := blk_frozen HZ4.out 5
      have z6 := blk_frozen HZ4.out 6
      have z7 := blk_frozen HZ4.out 7
      have z8 := blk_frozen HZ4.out 8
      have z9 := blk_frozen HZ4.out 9
      go_wp2
      refine bodyPost_ret (results_cell_row rfl _ _ (w.heap.size + 1) 58 _ (0, 0) _ rfl (put10_blk HZ4.out _ _ _ _ _ _ _ _ _ _) Tryz.underlying58 rfl (by kernel_rfl)) rfl ?_
      rw [HI.out]
      exact fin_got (x := litE ⟨2, nu, []⟩) HH.out HF4.out (by omega) HR4.out (.nil _ _)
    by_cases h3 : kd = 3
    · subst h3
      have HI : Asd (itemP nm l sub i = .ok (litE ⟨3, 0, tx⟩, i + 1)) := Asd.mk (by unfold itemP; rw [HL.out]; simp)
      have HB2 : Asd (Below w.heap.size w (w1.alloc (.cells #[.int .i64 3, .string ⟨tx.toArray⟩, .int .i64 ((pl : Nat) : Int), .int .i64 nu] 52 (0, 0)))) := Asd.mk (below_alloc HB1.out _)
      have HT2 := Asd.mk (blk_new w1 (.cells #[.int .i64 3, .string ⟨tx.toArray⟩, .int .i64 ((pl : Nat) : Int), .int .i64 nu] 52 (0, 0)))
      have HZ2 := Asd.mk (blk_alloc HZ1.out (.cells #[.int .i64 3, .string ⟨tx.toArray⟩, .int .i64 ((pl : Nat) : Int), .int .i64 nu] 52 (0, 0)))
      have HP3 := Asd.mk (blk_alloc HP2.out (.cells #[.int .i64 3, .string ⟨tx.toArray⟩, .int .i64 ((pl : Nat) : Int), .int .i64 nu] 52 (0, 0)))
      have HR2 := Asd.mk (HH.out.below HB2.out)
      have c1 := (blk_cell HP3.out 0).trans rfl
      have r1 := (blk_cell HR2.out.blk 1).trans rfl
      have z1 := blk_frozen HR2.out.blk 1
      have hs := HR2.out.set (j := i + 1) (by omega)
      have HRS := Asd.mk hs.2
      have HFS := Asd.mk (frR_below HB2.out hs.1)
      have HZS := Asd.mk (blk_fr HZ2.out hs.1 (by show ¬ w.heap.size + 1 = R; have := HRW.out; omega))
      have t2 : ((w1.alloc (.cells #[.int .i64 3, .string ⟨tx.toArray⟩, .int .i64 ((pl : Nat) : Int), .int .i64 nu] 52 (0, 0))).setCell ⟨R, 1, none⟩ (.int .i64 ((i : Int) + 1))).cell? ⟨w1.heap.size, 1, none⟩ = some (.string ⟨tx.toArray⟩) := cell_frS hs.1 (by show ¬ w1.heap.size = R; have := HRW.out; have := HSZ.out; omega) ((blk_cell HT2.out 1).trans rfl)
      clear hs
      go_wp2_with fail
      change Calls _ _ _ ((w1.alloc (.cells #[.int .i64 3, .string ⟨tx.toArray⟩, .int .i64 ((pl : Nat) : Int), .int .i64 nu] 52 (0, 0))).setCell ⟨R, 1, none⟩ (.int .i64 ((i + 1 : Nat) : Int))) _
      generalize ((w1.alloc (.cells #[.int .i64 3, .string ⟨tx.toArray⟩, .int .i64 ((pl : Nat) : Int), .int .i64 nu] 52 (0, 0))).setCell ⟨R, 1, none⟩ (.int .i64 ((i + 1 : Nat) : Int))) = w3 at HRS HFS HZS ⊢
      refine (literal_calls ⟨3, 0, tx⟩ w3).mono ?_
      rintro e w4 ⟨rfl, hb4⟩
      have HF4 := Asd.mk (below_frR HFS.out hb4)
      have HZ4 := Asd.mk (blk_below hb4 HZS.out)
      have HR4 := Asd.mk (HRS.out.below hb4)
      clear hb4 t2 c1 r1 z1
      unfold exV
      have y0 := (blk_cell HZ4.out 0).trans rfl
      have y1 := (blk_cell HZ4.out 1).trans rfl
      have y2 := (blk_cell HZ4.out 2).trans rfl
      have y3 := (blk_cell HZ4.out 3).trans rfl
      have y4 := (blk_cell HZ4.out 4).trans rfl
      have y5 := (blk_cell HZ4.out 5).trans rfl
      have y6 := (blk_cell HZ4.out 6).trans rfl
      have y7 := (blk_cell HZ4.out 7).trans rfl
      have y8 := (blk_cell HZ4.out 8).trans rfl
      have y9 := (blk_cell HZ4.out 9).trans rfl
      have z0 := blk_frozen HZ4.out 0
      have z1 := blk_frozen HZ4.out 1
      have z2 := blk_frozen HZ4.out 2
      have z3 := blk_frozen HZ4.out 3
      have z4 := blk_frozen HZ4.out 4
      have z5 := blk_frozen HZ4.out 5
      have z6 := blk_frozen HZ4.out 6
      have z7 := blk_frozen HZ4.out 7
      have z8 := blk_frozen HZ4.out 8
      have z9 := blk_frozen HZ4.out 9
      go_wp2
      refine bodyPost_ret (results_cell_row rfl _ _ (w.heap.size + 1) 58 _ (0, 0) _ rfl (put10_blk HZ4.out _ _ _ _ _ _ _ _ _ _) Tryz.underlying58 rfl (by kernel_rfl)) rfl ?_
      rw [HI.out]
      exact fin_got (x := litE ⟨3, 0, tx⟩) HH.out HF4.out (by omega) HR4.out (.nil _ _)
    by_cases h4 : kd = 4
    · subst h4
      have HI : Asd (itemP nm l sub i = .ok (litE ⟨4, 0, tx⟩, i + 1)) := Asd.mk (by unfold itemP; rw [HL.out]; simp)
      have HB2 : Asd (Below w.heap.size w (w1.alloc (.cells #[.int .i64 4, .string ⟨tx.toArray⟩, .int .i64 ((pl : Nat) : Int), .int .i64 nu] 52 (0, 0)))) := Asd.mk (below_alloc HB1.out _)
      have HT2 := Asd.mk (blk_new w1 (.cells #[.int .i64 4, .string ⟨tx.toArray⟩, .int .i64 ((pl : Nat) : Int), .int .i64 nu] 52 (0, 0)))
      have HZ2 := Asd.mk (blk_alloc HZ1.out (.cells #[.int .i64 4, .string ⟨tx.toArray⟩, .int .i64 ((pl : Nat) : Int), .int .i64 nu] 52 (0, 0)))
      have HP3 := Asd.mk (blk_alloc HP2.out (.cells #[.int .i64 4, .string ⟨tx.toArray⟩, .int .i64 ((pl : Nat) : Int), .int .i64 nu] 52 (0, 0)))
      have HR2 := Asd.mk (HH.out.below HB2.out)
      have c1 := (blk_cell HP3.out 0).trans rfl
      have r1 := (blk_cell HR2.out.blk 1).trans rfl
      have z1 := blk_frozen HR2.out.blk 1
      have hs := HR2.out.set (j := i + 1) (by omega)
      have HRS := Asd.mk hs.2
      have HFS := Asd.mk (frR_below HB2.out hs.1)
      have HZS := Asd.mk (blk_fr HZ2.out hs.1 (by show ¬ w.heap.size + 1 = R; have := HRW.out; omega))
      have t2 : ((w1.alloc (.cells #[.int .i64 4, .string ⟨tx.toArray⟩, .int .i64 ((pl : Nat) : Int), .int .i64 nu] 52 (0, 0))).setCell ⟨R, 1, none⟩ (.int .i64 ((i : Int) + 1))).cell? ⟨w1.heap.size, 1, none⟩ = some (.string ⟨tx.toArray⟩) := cell_frS hs.1 (by show ¬ w1.heap.size = R; have := HRW.out; have := HSZ.out; omega) ((blk_cell HT2.out 1).trans rfl)
      clear hs
      go_wp2_with fail
      change Calls _ _ _ ((w1.alloc (.cells #[.int .i64 4, .string ⟨tx.toArray⟩, .int .i64 ((pl : Nat) : Int), .int .i64 nu] 52 (0, 0))).setCell ⟨R, 1, none⟩ (.int .i64 ((i + 1 : Nat) : Int))) _
      generalize ((w1.alloc (.cells #[.int .i64 4, .string ⟨tx.toArray⟩, .int .i64 ((pl : Nat) : Int), .int .i64 nu] 52 (0, 0))).setCell ⟨R, 1, none⟩ (.int .i64 ((i + 1 : Nat) : Int))) = w3 at HRS HFS HZS ⊢
      refine (literal_calls ⟨4, 0, tx⟩ w3).mono ?_
      rintro e w4 ⟨rfl, hb4⟩
      have HF4 := Asd.mk (below_frR HFS.out hb4)
      have HZ4 := Asd.mk (blk_below hb4 HZS.out)
      have HR4 := Asd.mk (HRS.out.below hb4)
      clear hb4 t2 c1 r1 z1
      unfold exV
      have y0 := (blk_cell HZ4.out 0).trans rfl
      have y1 := (blk_cell HZ4.out 1).trans rfl
      have y2 := (blk_cell HZ4.out 2).trans rfl
      have y3 := (blk_cell HZ4.out 3).trans rfl
      have y4 := (blk_cell HZ4.out 4).trans rfl
      have y5 := (blk_cell HZ4.out 5).trans rfl
      have y6 := (blk_cell HZ4.out 6).trans rfl
      have y7 := (blk_cell HZ4.out 7).trans rfl
      have y8 := (blk_cell HZ4.out 8).trans rfl
      have y9 := (blk_cell HZ4.out 9).trans rfl
      have z0 := blk_frozen HZ4.out 0
      have z1 := blk_frozen HZ4.out 1
      have z2 := blk_frozen HZ4.out 2
      have z3 := blk_frozen HZ4.out 3
      have z4 := blk_frozen HZ4.out 4
      have z5 := blk_frozen HZ4.out 5
      have z6 := blk_frozen HZ4.out 6
      have z7 := blk_frozen HZ4.out 7
      have z8 := blk_frozen HZ4.out 8
      have z9 := blk_frozen HZ4.out 9
      go_wp2
      refine bodyPost_ret (results_cell_row rfl _ _ (w.heap.size + 1) 58 _ (0, 0) _ rfl (put10_blk HZ4.out _ _ _ _ _ _ _ _ _ _) Tryz.underlying58 rfl (by kernel_rfl)) rfl ?_
      rw [HI.out]
      exact fin_got (x := litE ⟨4, 0, tx⟩) HH.out HF4.out (by omega) HR4.out (.nil _ _)
    by_cases h1 : kd = 1
    · subst h1
      have HI : Asd (itemP nm l sub i = wordP nm l sub tx i) := Asd.mk (by unfold itemP; rw [HL.out]; simp)
      have HB2 : Asd (Below w.heap.size w (w1.alloc (.cells #[.int .i64 1, .string ⟨tx.toArray⟩, .int .i64 ((pl : Nat) : Int), .int .i64 nu] 52 (0, 0)))) := Asd.mk (below_alloc HB1.out _)
      have HZ2 := Asd.mk (blk_alloc HZ1.out (.cells #[.int .i64 1, .string ⟨tx.toArray⟩, .int .i64 ((pl : Nat) : Int), .int .i64 nu] 52 (0, 0)))
      have HP3 := Asd.mk (blk_alloc HP2.out (.cells #[.int .i64 1, .string ⟨tx.toArray⟩, .int .i64 ((pl : Nat) : Int), .int .i64 nu] 52 (0, 0)))
      have c1 := (blk_cell HP3.out 0).trans rfl
      clear h2 h3 h4
      have HLT := Asd.mk hlt
      go_wp2_with fail
      generalize w1.alloc (.cells #[.int .i64 1, .string ⟨tx.toArray⟩, .int .i64 ((pl : Nat) : Int), .int .i64 nu] 52 (0, 0)) = w2 at HB2 HZ2 HP3 ⊢
      refine (HWO.out w2 i tx HLT.out (HH.out.below HB2.out)).mono ?_
      rintro e w3 ⟨hf3, hm⟩
      have HF3 := Asd.mk (frR_below HB2.out hf3)
      have HZ3 := Asd.mk (blk_fr HZ2.out hf3 (by show ¬ w.heap.size + 1 = R; have := HRW.out; omega))
      have HSZ2 : Asd (w.heap.size + 1 < w2.heap.size) := Asd.mk (blk_lt HZ2.out)
      clear hf3
      cases hfi : wordP nm l sub tx i with
      | error er =>
        rw [hfi] at hm
        have HE : Asd (itemP nm l sub i = .error er) := Asd.mk (by rw [HI.out, hfi])
        obtain ⟨N, rfl, hN⟩ := hm
        clear hfi
        go_wp2
        refine ⟨rfl, ?_⟩
        rw [HE.out]
        exact got_error HF3.out ⟨N, rfl, hN⟩
      | ok y =>
        obtain ⟨x, j⟩ := y
        rw [hfi] at hm
        have HE : Asd (itemP nm l sub i = .ok (x, j)) := Asd.mk (by rw [HI.out, hfi])
        obtain ⟨s, rfl, hh, hr⟩ := hm
        obtain ⟨As, ms, cs, rfl⟩ := held_slice hh
        have HHX := Asd.mk hh
        have HRX := Asd.mk hr
        clear hfi hh hr
        unfold exV
        have y0 := (blk_cell HZ3.out 0).trans rfl
        have y1 := (blk_cell HZ3.out 1).trans rfl
        have y2 := (blk_cell HZ3.out 2).trans rfl
        have y3 := (blk_cell HZ3.out 3).trans rfl
        have y4 := (blk_cell HZ3.out 4).trans rfl
        have y5 := (blk_cell HZ3.out 5).trans rfl
        have y6 := (blk_cell HZ3.out 6).trans rfl
        have y7 := (blk_cell HZ3.out 7).trans rfl
        have y8 := (blk_cell HZ3.out 8).trans rfl
        have y9 := (blk_cell HZ3.out 9).trans rfl
        have z0 := blk_frozen HZ3.out 0
        have z1 := blk_frozen HZ3.out 1
        have z2 := blk_frozen HZ3.out 2
        have z3 := blk_frozen HZ3.out 3
        have z4 := blk_frozen HZ3.out 4
        have z5 := blk_frozen HZ3.out 5
        have z6 := blk_frozen HZ3.out 6
        have z7 := blk_frozen HZ3.out 7
        have z8 := blk_frozen HZ3.out 8
        have z9 := blk_frozen HZ3.out 9
        go_wp2
        refine bodyPost_ret (results_cell_row rfl _ _ (w.heap.size + 1) 58 _ (0, 0) _ rfl (put10_blk HZ3.out _ _ _ _ _ _ _ _ _ _) Tryz.underlying58 rfl (by kernel_rfl)) rfl ?_
        rw [HE.out]
        exact fin_got HH.out HF3.out (by omega) HRX.out (held_mono HHX.out fun g _ hg => by have h1 : w2.heap.size ≤ g := hg; have := HSZ2.out; exact ⟨by omega, by omega⟩)
    have g2 : ¬ ((kd : Nat) : Int) = 2 := by omega
    have g3 : ¬ ((kd : Nat) : Int) = 3 := by omega
    have g4 : ¬ ((kd : Nat) : Int) = 4 := by omega
    have g1 : ¬ ((kd : Nat) : Int) = 1 := by omega
    have HI : Asd (itemP nm l sub i = if isT l i 5 [40] then brackP l sub i else .error (stopAt l i, 20)) := Asd.mk (by unfold itemP; rw [HL.out]; simp only [if_neg h1, if_neg h2, if_neg h3, if_neg h4])
    clear h1 h2 h3 h4
    have HB2 : Asd (Below w.heap.size w (w1.alloc (.cells #[.int .i64 ((kd : Nat) : Int), .string ⟨tx.toArray⟩, .int .i64 ((pl : Nat) : Int), .int .i64 nu] 52 (0, 0)))) := Asd.mk (below_alloc HB1.out _)
    have HZ2 := Asd.mk (blk_alloc HZ1.out (.cells #[.int .i64 ((kd : Nat) : Int), .string ⟨tx.toArray⟩, .int .i64 ((pl : Nat) : Int), .int .i64 nu] 52 (0, 0)))
    have HP3 := Asd.mk (blk_alloc HP2.out (.cells #[.int .i64 ((kd : Nat) : Int), .string ⟨tx.toArray⟩, .int .i64 ((pl : Nat) : Int), .int .i64 nu] 52 (0, 0)))
    have c1 := (blk_cell HP3.out 0).trans rfl
    go_wp2_with fail
    generalize w1.alloc (.cells #[.int .i64 ((kd : Nat) : Int), .string ⟨tx.toArray⟩, .int .i64 ((pl : Nat) : Int), .int .i64 nu] 52 (0, 0)) = w2 at HB2 HZ2 HP3 ⊢
    refine (is_calls R A m c l i d 5 [40] w2 (by omega) (HH.out.below HB2.out)).mono ?_
    rintro e w3 ⟨rfl, hb3⟩
    have HB3 : Asd (Below w.heap.size w w3) := Asd.mk (HB2.out.trans (hb3.mono HB2.out.size))
    have HZ3 := Asd.mk (blk_below hb3 HZ2.out)
    have HP4 := Asd.mk (blk_below hb3 HP3.out)
    have c3 := (blk_cell HP4.out 0).trans rfl
    clear hb3 c1
    cases hT : isT l i 5 [40] with
    | false =>
      have HE : Asd (itemP nm l sub i = .error (stopAt l i, 20)) := Asd.mk (by rw [HI.out, hT]; rfl)
      clear hT
      go_wp2_with fail
      refine (stop_calls R A m c l i d 20 w3 HNE.out (HH.out.below HB3.out)).mono ?_
      rintro e w4 ⟨hb4, N, rfl, hN⟩
      refine ⟨rfl, ?_⟩
      rw [HE.out]
      exact got_error (Fr.of_below (HB3.out.trans (hb4.mono HB3.out.size))) ⟨N, rfl, hN⟩
    | true =>
      have HIB : Asd (itemP nm l sub i = brackP l sub i) := Asd.mk (by rw [HI.out, hT]; rfl)
      have HLT := Asd.mk (isT_lt hT)
      clear hT
      have HBB := Asd.mk (below_alloc HB3.out (.cells #[.int .i64 0, .int .i64 0, .int .i64 0, .int .i64 0, .string ⟨#[]⟩, .string ⟨#[]⟩, .string ⟨#[]⟩, .int .i64 0, .int .i64 0, .slice none 0 0] 58 (0, 0)))
      have HU0 := Asd.mk (blk_new w3 (.cells #[.int .i64 0, .int .i64 0, .int .i64 0, .int .i64 0, .string ⟨#[]⟩, .string ⟨#[]⟩, .string ⟨#[]⟩, .int .i64 0, .int .i64 0, .slice none 0 0] 58 (0, 0)))
      have HP5 := Asd.mk (blk_alloc HP4.out (.cells #[.int .i64 0, .int .i64 0, .int .i64 0, .int .i64 0, .string ⟨#[]⟩, .string ⟨#[]⟩, .string ⟨#[]⟩, .int .i64 0, .int .i64 0, .slice none 0 0] 58 (0, 0)))
      have HZ5 := Asd.mk (blk_alloc HZ3.out (.cells #[.int .i64 0, .int .i64 0, .int .i64 0, .int .i64 0, .string ⟨#[]⟩, .string ⟨#[]⟩, .string ⟨#[]⟩, .int .i64 0, .int .i64 0, .slice none 0 0] 58 (0, 0)))
      have HSW : Asd (w.heap.size + 1 < w3.heap.size) := Asd.mk (blk_lt HZ3.out)
      have c5 := (blk_cell HP5.out 0).trans rfl
      go_wp2_with fail
      generalize w3.alloc (.cells #[.int .i64 0, .int .i64 0, .int .i64 0, .int .i64 0, .string ⟨#[]⟩, .string ⟨#[]⟩, .string ⟨#[]⟩, .int .i64 0, .int .i64 0, .slice none 0 0] 58 (0, 0)) = w4 at HBB HU0 HP5 HZ5 ⊢
      have HRD := Asd.mk (HH.out.below HBB.out)
      have HB4 : Asd (w3.heap.size < w4.heap.size) := Asd.mk (blk_lt HU0.out)
      generalize w3.heap.size = b3 at HU0 HSW HB4 ⊢
      cases hs : sub with
      | none =>
        have HE : Asd (itemP nm l sub i = .error (stopAt l i, 21)) := Asd.mk (by rw [HIB.out, hs]; rfl)
        have hnd := HNO.out hs
        refine (within_calls 243 #[.pointer (some ⟨w.heap.size, 0, none⟩), .pointer (some ⟨b3, 0, none⟩)] (fun k => k = R) R A m c l i d (.error (stopAt l i, 21)) (fun _ => True) w4 HNE.out rfl (isGo_of Tryz.func243 (by kernel_rfl) rfl) HLT.out HD.out (fun _ _ _ => trivial) HRD.out (fun h => absurd h hnd)).mono ?_
        rintro e w5 ⟨hf5, hm⟩
        rw [if_neg hnd] at hm
        obtain ⟨N, rfl, hN⟩ := hm
        refine ⟨rfl, ?_⟩
        first | rw [← hs, HE.out] | rw [HE.out]
        exact got_error (frR_below HBB.out hf5) ⟨N, rfl, hN⟩
      | some p =>
        obtain ⟨hd32, hpart⟩ := HSO.out p hs
        have HPA := Asd.mk hpart
        have HS := Asd.mk hs
        have HE : Asd (itemP nm l sub i = match p.or (i + 1) with | .error x => .error x | .ok (e, j) => match mustT l j 5 [41] with | .error x => .error x | .ok k => .ok (e, k)) := Asd.mk (by rw [HIB.out, hs]; rfl)
        refine (within_calls 243 #[.pointer (some ⟨w.heap.size, 0, none⟩), .pointer (some ⟨b3, 0, none⟩)] (fun k => k = R ∨ k = b3) R A m c l i d (inB l (p.or (i + 1))) (ExAt b3 w4.heap.size (exOf (p.or (i + 1)))) w4 HNE.out (.inl rfl) (isGo_of Tryz.func243 (by kernel_rfl) rfl) HLT.out HD.out (fun W v hq => hq.set (by have := HSW.out; have := HRW.out; omega) (by have := HB4.out; have := HSW.out; have := HRW.out; omega) 2 v) HRD.out (fun _ w' hf' hr' => ?_)).mono ?_
        · refine (item1_calls w.heap.size b3 R A m c l p.or (i + 1) (d + 1) w' HNE.out (blk_fr HP5.out hf' (by show ¬ w.heap.size = R; have := HRW.out; omega)) (blk_fr HU0.out hf' (by show ¬ b3 = R; have := HSW.out; have := HRW.out; omega)) (by have := HRW.out; omega) (by have := HSW.out; have := HRW.out; omega) (by have := HSW.out; omega) HPA.out hr').mono ?_
          rintro e w'' ⟨h1, h2⟩
          exact ⟨h1, ins_mono h2 fun W hq => hq.mono hf'.size⟩
        · rintro e w5 ⟨hf5, hm⟩
          rw [if_pos hd32] at hm
          have HF5 : Asd (Fr (fun k => k = R) w w5) := Asd.mk (fr_new (Fr.of_below HBB.out) hf5 (fun k hk => by rcases hk with h | h; exact .inl h; exact .inr (by have := HSW.out; omega)))
          have HZ6 := Asd.mk (blk_fr HZ5.out hf5 (by show ¬ (w.heap.size + 1 = R ∨ w.heap.size + 1 = b3); have := HSW.out; have := HRW.out; omega))
          clear hf5
          cases hfi : p.or (i + 1) with
          | error er =>
            rw [hfi] at hm
            obtain ⟨N, rfl, hN⟩ := hm
            have HE2 : Asd (itemP nm l sub i = .error er) := Asd.mk (by rw [HE.out, hfi])
            clear hfi
            go_wp2
            refine ⟨rfl, ?_⟩
            first | rw [HE2.out] | rw [← HS.out, HE2.out]
            exact got_error HF5.out ⟨N, rfl, hN⟩
          | ok y =>
            obtain ⟨x, j⟩ := y
            rw [hfi] at hm
            change Ins _ _ _ _ _ _ (mustT l j 5 [41]) _ _ _ at hm
            cases hM : mustT l j 5 [41] with
            | error er =>
              rw [hM] at hm
              obtain ⟨N, rfl, hN⟩ := hm
              have HE2 : Asd (itemP nm l sub i = .error er) := Asd.mk (by rw [HE.out, hfi]; simp only; rw [hM])
              clear hfi hM
              go_wp2
              refine ⟨rfl, ?_⟩
              first | rw [HE2.out] | rw [← HS.out, HE2.out]
              exact got_error HF5.out ⟨N, rfl, hN⟩
            | ok q =>
              rw [hM] at hm
              obtain ⟨rfl, hr5, A5, n5, c5', hb5, hh5⟩ := hm
              have HE2 : Asd (itemP nm l sub i = .ok (x, q)) := Asd.mk (by rw [HE.out, hfi]; simp only; rw [hM])
              change w5.heap[b3]? = some (Obj.cells (exC x (.slice A5 n5 c5')).toArray 58 (0, 0)) at hb5
              change Held _ _ x.args _ at hh5
              have HR5 := Asd.mk hr5
              have HH5 := Asd.mk hh5
              obtain ⟨e0, e1, e2, e3, e4, e5, e6, e7, e8, e9⟩ := ex_cells hb5
              clear hfi hM hr5 hh5 hb5
              have y0 := (blk_cell HZ6.out 0).trans rfl
              have y1 := (blk_cell HZ6.out 1).trans rfl
              have y2 := (blk_cell HZ6.out 2).trans rfl
              have y3 := (blk_cell HZ6.out 3).trans rfl
              have y4 := (blk_cell HZ6.out 4).trans rfl
              have y5 := (blk_cell HZ6.out 5).trans rfl
              have y6 := (blk_cell HZ6.out 6).trans rfl
              have y7 := (blk_cell HZ6.out 7).trans rfl
              have y8 := (blk_cell HZ6.out 8).trans rfl
              have y9 := (blk_cell HZ6.out 9).trans rfl
              have z0 := blk_frozen HZ6.out 0
              have z1 := blk_frozen HZ6.out 1
              have z2 := blk_frozen HZ6.out 2
              have z3 := blk_frozen HZ6.out 3
              have z4 := blk_frozen HZ6.out 4
              have z5 := blk_frozen HZ6.out 5
              have z6 := blk_frozen HZ6.out 6
              have z7 := blk_frozen HZ6.out 7
              have z8 := blk_frozen HZ6.out 8
              have z9 := blk_frozen HZ6.out 9
              go_wp2
              refine bodyPost_ret (results_cell_row rfl _ _ (w.heap.size + 1) 58 _ (0, 0) _ rfl (put10_blk HZ6.out _ _ _ _ _ _ _ _ _ _) Tryz.underlying58 rfl (by kernel_rfl)) rfl ?_
              first | rw [HE2.out] | rw [← HS.out, HE2.out]
              exact fin_got HH.out HF5.out (by omega) HR5.out (held_mono HH5.out fun g _ hg => by have h1 := hg.1; have := HB4.out; have := HSW.out; exact ⟨by omega, by omega⟩)
  · rw [tkV_none (by omega)]
    have HE : Asd (itemP nm l sub i = .error (stopAt l i, 20)) := Asd.mk (by unfold itemP; rw [List.getElem?_eq_none (by omega)])
    have HT := Asd.mk (isT_none (l := l) (i := i) (k := 5) (s := [40]) (by omega))
    have HB2 : Asd (Below w.heap.size w (w1.alloc (.cells #[.int .i64 0, .string ⟨#[]⟩, .int .i64 0, .int .i64 0] 52 (0, 0)))) := Asd.mk (below_alloc HB1.out _)
    have HP3 := Asd.mk (blk_alloc HP2.out (.cells #[.int .i64 0, .string ⟨#[]⟩, .int .i64 0, .int .i64 0] 52 (0, 0)))
    have c1 := (blk_cell HP3.out 0).trans rfl
    go_wp2_with fail
    generalize w1.alloc (.cells #[.int .i64 0, .string ⟨#[]⟩, .int .i64 0, .int .i64 0] 52 (0, 0)) = w2 at HB2 HP3 ⊢
    refine (is_calls R A m c l i d 5 [40] w2 (by omega) (HH.out.below HB2.out)).mono ?_
    rintro e w3 ⟨rfl, hb3⟩
    have HB3 : Asd (Below w.heap.size w w3) := Asd.mk (HB2.out.trans (hb3.mono HB2.out.size))
    have HP4 := Asd.mk (blk_below hb3 HP3.out)
    have c3 := (blk_cell HP4.out 0).trans rfl
    clear hb3 c1
    rw [HT.out]
    go_wp2_with fail
    refine (stop_calls R A m c l i d 20 w3 HNE.out (HH.out.below HB3.out)).mono ?_
    rintro e w4 ⟨hb4, N, rfl, hN⟩
    refine ⟨rfl, ?_⟩
    rw [HE.out]
    exact got_error (Fr.of_below (HB3.out.trans (hb4.mono HB3.out.size))) ⟨N, rfl, hN⟩
end Go.Proofs.YtcefmhofidoloaaGreatDoor.Exp

/- The reader of expressions: what a word calls. -/
set_option linter.unusedVariables false
set_option linter.unusedSimpArgs false
namespace Go.Proofs.YtcefmhofidoloaaGreatDoor.Exp
open Go.RowKit Go.Proofs.YtcefmhofidoloaaGreatDoor.Base Go.Proofs.YtcefmhofidoloaaGreatDoor.App Go.Proofs.YtcefmhofidoloaaGreatDoor.Byt Go.Proofs.YtcefmhofidoloaaGreatDoor.Lex

def fn1 : List ByteArray := [⟨#[]⟩, ⟨#[108, 101, 110, 103, 116, 104]⟩, ⟨#[97, 98, 115]⟩, ⟨#[117, 112, 112, 101, 114]⟩, ⟨#[108, 111, 119, 101, 114]⟩, ⟨#[115, 117, 98, 115, 116, 114]⟩, ⟨#[99, 111, 97, 108, 101, 115, 99, 101]⟩]
def fn2 : List ByteArray := [⟨#[]⟩, ⟨#[99, 111, 117, 110, 116]⟩, ⟨#[115, 117, 109]⟩, ⟨#[109, 105, 110]⟩, ⟨#[109, 97, 120]⟩]
def opn (k : Nat) : Nat := if k = 5 then 3 else if k = 6 then 2 else 1
theorem ba_ne {a b : List UInt8} (h : a ≠ b) : (⟨a.toArray⟩ : ByteArray) ≠ ⟨b.toArray⟩ := by
  intro e
  injection e with e
  exact h (by simpa using congrArg Array.toList e)
theorem idx_le (zs : List ByteArray) (n : Nat) (x : ByteArray) (hn : 0 < n) (hz : n ≤ zs.length) (h : ∀ j, 1 ≤ j → j < n → zs.getD j ByteArray.empty ≠ x) : Lib.idxOfS (zs.take n) x ≤ 0 := by
  by_cases h0 : zs.getD 0 ByteArray.empty = x
  · rw [Lib.idxOfS_hit zs n 0 x hn hz h0 (fun j hj => absurd hj (by omega))]; simp
  · rw [Lib.idxOfS_miss zs n x (fun j hj => by
      rcases Nat.eq_zero_or_pos j with rfl | h1
      · exact h0
      · exact h j h1 hj)]
    decide
/-- The ways of a word. -/
theorem fn_ways (s : List UInt8) : (∃ k : Nat, 1 ≤ k ∧ k ≤ 6 ∧ Lib.idxOfS (fn1.take 7) ⟨s.toArray⟩ = (k : Int) ∧ funT s = some (5, (k : Int), opn k)) ∨
    (Lib.idxOfS (fn1.take 7) ⟨s.toArray⟩ ≤ 0 ∧ ∃ j : Nat, 1 ≤ j ∧ j ≤ 4 ∧ Lib.idxOfS (fn2.take 5) ⟨s.toArray⟩ = (j : Int) ∧ funT s = some (6, (j : Int), 1)) ∨
    (Lib.idxOfS (fn1.take 7) ⟨s.toArray⟩ ≤ 0 ∧ Lib.idxOfS (fn2.take 5) ⟨s.toArray⟩ ≤ 0 ∧ funT s = none) := by
  by_cases a1 : s = [108, 101, 110, 103, 116, 104]
  · subst a1
    exact .inl ⟨1, by omega, by omega, by kernel_rfl, by decide⟩
  by_cases a2 : s = [97, 98, 115]
  · subst a2
    exact .inl ⟨2, by omega, by omega, by kernel_rfl, by decide⟩
  by_cases a3 : s = [117, 112, 112, 101, 114]
  · subst a3
    exact .inl ⟨3, by omega, by omega, by kernel_rfl, by decide⟩
  by_cases a4 : s = [108, 111, 119, 101, 114]
  · subst a4
    exact .inl ⟨4, by omega, by omega, by kernel_rfl, by decide⟩
  by_cases a5 : s = [115, 117, 98, 115, 116, 114]
  · subst a5
    exact .inl ⟨5, by omega, by omega, by kernel_rfl, by decide⟩
  by_cases a6 : s = [99, 111, 97, 108, 101, 115, 99, 101]
  · subst a6
    exact .inl ⟨6, by omega, by omega, by kernel_rfl, by decide⟩
  have h1 : Lib.idxOfS (fn1.take 7) ⟨s.toArray⟩ ≤ 0 := idx_le fn1 7 _ (by decide) (by decide) (fun j hj hj7 => by
    obtain rfl | rfl | rfl | rfl | rfl | rfl : j = 1 ∨ j = 2 ∨ j = 3 ∨ j = 4 ∨ j = 5 ∨ j = 6 := by omega
    · exact ba_ne (a := [108, 101, 110, 103, 116, 104]) (fun e => a1 e.symm)
    · exact ba_ne (a := [97, 98, 115]) (fun e => a2 e.symm)
    · exact ba_ne (a := [117, 112, 112, 101, 114]) (fun e => a3 e.symm)
    · exact ba_ne (a := [108, 111, 119, 101, 114]) (fun e => a4 e.symm)
    · exact ba_ne (a := [115, 117, 98, 115, 116, 114]) (fun e => a5 e.symm)
    · exact ba_ne (a := [99, 111, 97, 108, 101, 115, 99, 101]) (fun e => a6 e.symm))
  by_cases b1 : s = [99, 111, 117, 110, 116]
  · subst b1
    exact .inr (.inl ⟨h1, 1, by omega, by omega, by kernel_rfl, by decide⟩)
  by_cases b2 : s = [115, 117, 109]
  · subst b2
    exact .inr (.inl ⟨h1, 2, by omega, by omega, by kernel_rfl, by decide⟩)
  by_cases b3 : s = [109, 105, 110]
  · subst b3
    exact .inr (.inl ⟨h1, 3, by omega, by omega, by kernel_rfl, by decide⟩)
  by_cases b4 : s = [109, 97, 120]
  · subst b4
    exact .inr (.inl ⟨h1, 4, by omega, by omega, by kernel_rfl, by decide⟩)
  have h2 : Lib.idxOfS (fn2.take 5) ⟨s.toArray⟩ ≤ 0 := idx_le fn2 5 _ (by decide) (by decide) (fun j hj hj7 => by
    obtain rfl | rfl | rfl | rfl : j = 1 ∨ j = 2 ∨ j = 3 ∨ j = 4 := by omega
    · exact ba_ne (a := [99, 111, 117, 110, 116]) (fun e => b1 e.symm)
    · exact ba_ne (a := [115, 117, 109]) (fun e => b2 e.symm)
    · exact ba_ne (a := [109, 105, 110]) (fun e => b3 e.symm)
    · exact ba_ne (a := [109, 97, 120]) (fun e => b4 e.symm))
  refine .inr (.inr ⟨h1, h2, ?_⟩)
  unfold funT
  rw [if_neg a1, if_neg a2, if_neg a3, if_neg a4, if_neg a5, if_neg a6, if_neg b1, if_neg b2, if_neg b3, if_neg b4]

set_option maxRecDepth 100000 in
set_option maxHeartbeats 1600000 in
theorem operands_calls (k : Nat) (w : World) : Calls Tryz.prog 136 #[.int .i64 (k : Nat)] w fun e w' => e = .returned (.int .i64 ((opn k : Nat) : Int)) ∧ w' = w := by
  by_cases h5 : k = 5
  · subst h5
    go_enter Tryz.func136, Tryz.ntmps136
    go_wp2
    go_ret
    exact ⟨rfl, rfl⟩
  · by_cases h6 : k = 6
    · subst h6
      clear h5
      go_enter Tryz.func136, Tryz.ntmps136
      go_wp2
      go_ret
      exact ⟨rfl, rfl⟩
    · have h5' : ¬ (k : Int) = 5 := by omega
      have h6' : ¬ (k : Int) = 6 := by omega
      have HO : Asd (opn k = 1) := Asd.mk (by unfold opn; rw [if_neg h5, if_neg h6])
      clear h5 h6
      go_enter Tryz.func136, Tryz.ntmps136
      go_wp2
      go_ret
      exact ⟨ret_eq (by rw [HO.out]; rfl), rfl⟩
theorem load_called {w : World} {g : Nat} {cs : Array Value} (hg : w.heap[g]? = some (.cells cs 278 (0, 0))) (h3 : cs.size = 3) : (loadVar 278 ⟨g, 0, none⟩).run Tryz.prog w = .ok (.agg cs) w :=
  run_loadVar_row w g 278 278 cs (0, 0) _ hg Tryz.underlying278 rfl (by rw [h3]; kernel_rfl)
theorem results_called {fn : Func} {p u : Tmp} (h : fn.results = #[.cell p 278, .tmp u]) (tmps : Array Value) (w : World) (g : Nat) (cs : Array Value)
    (hp : tmps.getD p undef = .pointer (some ⟨g, 0, none⟩)) (hg : w.heap[g]? = some (.cells cs 278 (0, 0))) (h3 : cs.size = 3) :
    (results fn tmps).run Tryz.prog w = .ok (.tuple #[.agg cs, tmps.getD u undef]) w := by
  rw [results_cell_tmp h, hp]
  simp [asAddr, load_called hg h3, Result.andThen]
/-- How 'function' ends. -/
def FnEnd (r : Option (Int × Int × Nat)) (e : Ending) : Prop := match r with
  | some f => e = .returned (.tuple #[.agg #[.int .i64 f.1, .int .i64 f.2.1, .int .i64 (f.2.2 : Nat)], .bool true])
  | none => ∃ k o n, e = .returned (.tuple #[.agg #[.int .i64 k, .int .i64 o, .int .i64 n], .bool false])

theorem hit_cells {W : World} {g : Nat} {T : TypeId} (zs : List ByteArray) (h : W.heap[g]? = some (.cells (zs.map Value.string).toArray T (0, 0))) : ∀ j, j < zs.length → W.cell? ⟨g, 0 + j, none⟩ = some (.string (zs.getD j ByteArray.empty)) := by
  intro j hj
  rw [blk_cell h, Nat.zero_add, List.getElem?_toArray, List.getElem?_map, List.getElem?_eq_getElem hj, List.getD_eq_getElem?_getD, List.getElem?_eq_getElem hj]
  rfl
set_option maxRecDepth 100000 in
set_option maxHeartbeats 6400000 in
theorem function_calls (s : List UInt8) (w : World) : Calls Tryz.prog 266 #[.string ⟨s.toArray⟩] w fun e w' => FnEnd (funT s) e ∧ Below w.heap.size w w' := by
  have HB1 := Asd.mk (below_alloc (below_alloc (Below.refl _ w) (.cells #[.int .i64 0, .int .i64 0, .int .i64 0] 278 (0, 0))) (.cells (fn1.map Value.string).toArray 9 (0, 0)))
  have HC0 := Asd.mk (blk_alloc (blk_new w (.cells #[.int .i64 0, .int .i64 0, .int .i64 0] 278 (0, 0))) (.cells (fn1.map Value.string).toArray 9 (0, 0)))
  have HC1 := Asd.mk (nb1 w (.cells #[.int .i64 0, .int .i64 0, .int .i64 0] 278 (0, 0)) (.cells (fn1.map Value.string).toArray 9 (0, 0)))
  have HWY := Asd.mk (fn_ways s)
  go_enter Tryz.func266, Tryz.ntmps266
  go_wp2_with fail
  change Calls _ _ _ ((w.alloc (.cells #[.int .i64 0, .int .i64 0, .int .i64 0] 278 (0, 0))).alloc (.cells (fn1.map Value.string).toArray 9 (0, 0))) _
  generalize (w.alloc (.cells #[.int .i64 0, .int .i64 0, .int .i64 0] 278 (0, 0))).alloc (.cells (fn1.map Value.string).toArray 9 (0, 0)) = w1 at HB1 HC0 HC1 ⊢
  refine (Tryz.slices_Index_string (w.heap.size + 1) 0 7 7 fn1 ⟨s.toArray⟩ w1 (by decide) (by decide) (hit_cells fn1 HC1.out)).mono ?_
  rintro e wq ⟨rfl, hq⟩
  obtain rfl : w1 = wq := hq.symm
  have HTAIL : Asd (∀ o, Below w.heap.size w (w1.alloc o) ∧ (w1.alloc o).heap[w.heap.size]? = some (.cells #[.int .i64 0, .int .i64 0, .int .i64 0] 278 (0, 0))) := Asd.mk fun o => ⟨below_alloc HB1.out o, blk_alloc HC0.out o⟩
  generalize hi1 : Lib.idxOfS (fn1.take 7) ⟨s.toArray⟩ = i1
  rcases HWY.out with ⟨k, hk1, hk6, hik, hfn⟩ | ⟨hle, j, hj1, hj4, hij, hfn⟩ | ⟨hle, hle2, hfn⟩
  · obtain rfl : i1 = (k : Int) := hi1.symm.trans hik
    have HFN := Asd.mk hfn
    clear hi1 hik hfn
    have y0 := (blk_cell HC0.out 0).trans rfl
    have y1 := (blk_cell HC0.out 1).trans rfl
    have y2 := (blk_cell HC0.out 2).trans rfl
    have z0 := blk_frozen HC0.out 0
    have z1 := blk_frozen HC0.out 1
    have z2 := blk_frozen HC0.out 2
    go_wp2_with fail
    refine (operands_calls k _).mono ?_
    rintro e wq ⟨rfl, hq⟩
    obtain rfl : w1 = wq := hq.symm
    have HFIN : Asd (∀ a b c, (((w1.setCell ⟨w.heap.size, 0, none⟩ a).setCell ⟨w.heap.size, 1, none⟩ b).setCell ⟨w.heap.size, 2, none⟩ c).heap[w.heap.size]? = some (.cells #[a, b, c] 278 (0, 0)) ∧ Below w.heap.size w (((w1.setCell ⟨w.heap.size, 0, none⟩ a).setCell ⟨w.heap.size, 1, none⟩ b).setCell ⟨w.heap.size, 2, none⟩ c)) := Asd.mk fun a b c =>
      ⟨(blk_set (blk_set (blk_set HC0.out 0 a) 1 b) 2 c).trans rfl, ((HB1.out.setCell (Nat.le_refl _) a).setCell (Nat.le_refl _) b).setCell (Nat.le_refl _) c⟩
    go_wp2
    refine bodyPost_ret (results_called rfl _ _ w.heap.size _ rfl (HFIN.out _ _ _).1 rfl) rfl ?_
    refine ⟨?_, (HFIN.out _ _ _).2⟩
    rw [HFN.out]
    rfl
  · have HFN := Asd.mk hfn
    have hle1 : i1 ≤ 0 := by rw [← hi1]; exact hle
    have HIJ := Asd.mk hij
    clear hi1 hle hij hfn
    have hng : ¬ (0 : Int) < i1 := by omega
    have HB2 := Asd.mk (HTAIL.out (.cells (fn2.map Value.string).toArray 9 (0, 0))).1
    have HD0 := Asd.mk (HTAIL.out (.cells (fn2.map Value.string).toArray 9 (0, 0))).2
    have HD1 := Asd.mk (blk_new w1 (.cells (fn2.map Value.string).toArray 9 (0, 0)))
    go_wp2_with fail
    change Calls _ _ _ (w1.alloc (.cells (fn2.map Value.string).toArray 9 (0, 0))) _
    generalize w1.alloc (.cells (fn2.map Value.string).toArray 9 (0, 0)) = w2 at HB2 HD0 HD1 ⊢
    refine (Tryz.slices_Index_string w1.heap.size 0 5 5 fn2 ⟨s.toArray⟩ w2 (by decide) (by decide) (hit_cells fn2 HD1.out)).mono ?_
    rintro e wq ⟨rfl, hq⟩
    obtain rfl : w2 = wq := hq.symm
    have y0 := (blk_cell HD0.out 0).trans rfl
    have y1 := (blk_cell HD0.out 1).trans rfl
    have y2 := (blk_cell HD0.out 2).trans rfl
    have z0 := blk_frozen HD0.out 0
    have z1 := blk_frozen HD0.out 1
    have z2 := blk_frozen HD0.out 2
    have HFIN : Asd (∀ a b c, (((w2.setCell ⟨w.heap.size, 0, none⟩ a).setCell ⟨w.heap.size, 1, none⟩ b).setCell ⟨w.heap.size, 2, none⟩ c).heap[w.heap.size]? = some (.cells #[a, b, c] 278 (0, 0)) ∧ Below w.heap.size w (((w2.setCell ⟨w.heap.size, 0, none⟩ a).setCell ⟨w.heap.size, 1, none⟩ b).setCell ⟨w.heap.size, 2, none⟩ c)) := Asd.mk fun a b c =>
      ⟨(blk_set (blk_set (blk_set HD0.out 0 a) 1 b) 2 c).trans rfl, ((HB2.out.setCell (Nat.le_refl _) a).setCell (Nat.le_refl _) b).setCell (Nat.le_refl _) c⟩
    rw [HIJ.out]
    go_wp2
    refine bodyPost_ret (results_called rfl _ _ w.heap.size _ rfl (HFIN.out _ _ _).1 rfl) rfl ?_
    refine ⟨?_, (HFIN.out _ _ _).2⟩
    rw [HFN.out]
    have hj : decide ((0 : Int) < (j : Int)) = true := by simp; omega
    first | rfl | (simp [FnEnd]; try omega)
  · have HFN := Asd.mk hfn
    have hle1 : i1 ≤ 0 := by rw [← hi1]; exact hle
    have HLE2 := Asd.mk hle2
    clear hi1 hle hle2 hfn
    have hng : ¬ (0 : Int) < i1 := by omega
    have HB2 := Asd.mk (HTAIL.out (.cells (fn2.map Value.string).toArray 9 (0, 0))).1
    have HD0 := Asd.mk (HTAIL.out (.cells (fn2.map Value.string).toArray 9 (0, 0))).2
    have HD1 := Asd.mk (blk_new w1 (.cells (fn2.map Value.string).toArray 9 (0, 0)))
    go_wp2_with fail
    change Calls _ _ _ (w1.alloc (.cells (fn2.map Value.string).toArray 9 (0, 0))) _
    generalize w1.alloc (.cells (fn2.map Value.string).toArray 9 (0, 0)) = w2 at HB2 HD0 HD1 ⊢
    refine (Tryz.slices_Index_string w1.heap.size 0 5 5 fn2 ⟨s.toArray⟩ w2 (by decide) (by decide) (hit_cells fn2 HD1.out)).mono ?_
    rintro e wq ⟨rfl, hq⟩
    obtain rfl : w2 = wq := hq.symm
    have y0 := (blk_cell HD0.out 0).trans rfl
    have y1 := (blk_cell HD0.out 1).trans rfl
    have y2 := (blk_cell HD0.out 2).trans rfl
    have z0 := blk_frozen HD0.out 0
    have z1 := blk_frozen HD0.out 1
    have z2 := blk_frozen HD0.out 2
    have HFIN : Asd (∀ a b c, (((w2.setCell ⟨w.heap.size, 0, none⟩ a).setCell ⟨w.heap.size, 1, none⟩ b).setCell ⟨w.heap.size, 2, none⟩ c).heap[w.heap.size]? = some (.cells #[a, b, c] 278 (0, 0)) ∧ Below w.heap.size w (((w2.setCell ⟨w.heap.size, 0, none⟩ a).setCell ⟨w.heap.size, 1, none⟩ b).setCell ⟨w.heap.size, 2, none⟩ c)) := Asd.mk fun a b c =>
      ⟨(blk_set (blk_set (blk_set HD0.out 0 a) 1 b) 2 c).trans rfl, ((HB2.out.setCell (Nat.le_refl _) a).setCell (Nat.le_refl _) b).setCell (Nat.le_refl _) c⟩
    generalize hi2 : Lib.idxOfS (fn2.take 5) ⟨s.toArray⟩ = i2
    have hle3 : ¬ (0 : Int) < i2 := by rw [← hi2]; have := HLE2.out; omega
    clear hi2
    go_wp2
    refine bodyPost_ret (results_called rfl _ _ w.heap.size _ rfl (HFIN.out _ _ _).1 rfl) rfl ?_
    refine ⟨?_, (HFIN.out _ _ _).2⟩
    rw [HFN.out]
    have hd : decide ((0 : Int) < i2) = false := by simpa using hle3
    exact ⟨6, i2, 1, ret_eq (by show Value.tuple #[.agg #[.int .i64 6, .int .i64 i2, .int .i64 1], .bool (decide ((0 : Int) < i2))] = _; rw [hd])⟩
end Go.Proofs.YtcefmhofidoloaaGreatDoor.Exp
